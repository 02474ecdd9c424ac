/-
 The functions' forms for the abstract machine,each checked against the program's form.
-/
import Derived.Test.YtmgfcjblclanmaaGreatDoorDTO4
import Derived.Test.YtmgfcjblclanmaaGreatDoorDTO1
import Derived.Test.YtmgfcjblclanmaaGreatDoorProg
import Derived.Test.YtmgfcjblclanmaaGreatDoorDTO3
import Derived.Lib.Bytealg
import Derived.Laws.Externs
import Derived.KernelRfl
set_option linter.unusedVariables false
set_option linter.unusedSimpArgs false
set_option maxRecDepth 100000
namespace Go.Proofs.YtmgfcjblclanmaaGreatDoor
def a3 : AFn := ⟨208,[.t 2],.seq (.ops [⟨some 2,none,.mv (.c (.bool false))⟩])
 (.seq (.ops [⟨some 27,none,.mv (.t 0)⟩,⟨some 28,none,.build [(.lit true 0 []),(.int .i64 0)] [(0,1,(.t 27))]⟩,⟨some 29,none,.box 25 (.t 28)⟩,⟨some 3,none,.mv (.t 29)⟩])
 (.seq (.ops [⟨some 30,none,.mv (.t 3)⟩,⟨some 31,none,.call 6 [(.t 30)]⟩,⟨some 32,none,.mv (.t 3)⟩,⟨some 33,none,.call 7 [(.t 32)]⟩,⟨some 34,none,.mv (.t 3)⟩,⟨some 35,none,.bslice 3 1 5 [(.int .i64 0)] [(0,1,(.c (.int .i64 0))),(1,1,(.c (.int .i64 1))),(2,1,(.c (.int .i64 (-1)))),(3,1,(.c (.int .i64 59))),(4,1,(.c (.int .i64 (-60))))]⟩,⟨some 36,none,.call 8 [(.t 34),(.t 35)]⟩,⟨some 37,none,.mv (.t 3)⟩,⟨some 38,none,.bslice 3 1 5 [(.int .i64 0)] [(0,1,(.c (.int .i64 0))),(1,1,(.c (.int .i64 0))),(2,1,(.c (.int .i64 1))),(3,1,(.c (.int .i64 (-59)))),(4,1,(.c (.int .i64 60)))]⟩,⟨some 39,none,.call 8 [(.t 37),(.t 38)]⟩,⟨some 40,none,.build [(.int .i64 0),(.int .i64 0)] [(0,1,(.t 36)),(1,1,(.t 39))]⟩,⟨some 4,none,.alloc 28 [(.lit true 0 []),(.str [])]⟩,⟨some 6,none,.alloc 34 [(.int .i64 0),(.int .i64 0)]⟩,⟨none,none,.store 2 (.t 4) (.t 31)⟩,⟨some 5,none,.mv (.t 33)⟩,⟨none,none,.store 2 (.t 6) (.t 40)⟩])
 (.seq (.seq (.ops [⟨some 41,none,.mv (.t 3)⟩,⟨some 42,none,.call 9 [(.t 41),(.c (.int .i64 4))]⟩])
 (.cond (.t 42) (.ops [⟨some 43,none,.mv (.t 3)⟩,⟨some 44,none,.call 10 [(.t 43)]⟩,⟨none,none,.store 2 (.t 4) (.t 44)⟩]) (.skip)))
 (.seq (.seq (.ops [⟨some 45,none,.mv (.t 5)⟩,⟨some 46,none,.call 11 [(.t 45)]⟩,⟨some 47,none,.mv (.t 5)⟩,⟨some 48,none,.call 12 [(.t 47)]⟩,⟨some 49,none,.bin 0 .neq (.t 46) (.t 48)⟩])
 (.cond (.t 49) (.seq (.ops [⟨some 2,none,.mv (.c (.bool false))⟩])
 (.ret)) (.skip)))
 (.seq (.ops [⟨some 50,none,.load (some 2) (.t 4)⟩,⟨some 51,none,.call 14 [(.t 50)]⟩,⟨some 52,none,.mv (.t 5)⟩,⟨some 53,none,.call 12 [(.t 52)]⟩,⟨some 54,none,.bslice 36 1 2 [(.int .i64 0)] [(0,1,(.t 51)),(1,1,(.t 53))]⟩,⟨some 55,none,.call 13 [(.t 54)]⟩,⟨some 7,none,.mv (.t 55)⟩])
 (.seq (.ops [⟨some 57,none,.load (some 2) (.t 4)⟩,⟨some 58,none,.mv (.t 5)⟩,⟨some 59,none,.load (some 2) (.t 6)⟩,⟨some 60,none,.call 15 [(.t 57),(.t 58),(.t 59)]⟩,⟨some 56,none,.mv (.t 60)⟩,⟨some 61,none,.ext (.t 56) 0⟩,⟨some 62,none,.ext (.t 56) 1⟩,⟨some 63,none,.ext (.t 56) 2⟩,⟨some 8,none,.mv (.t 61)⟩,⟨some 9,none,.mv (.t 62)⟩,⟨some 10,none,.mv (.t 63)⟩])
 (.seq (.ops [⟨some 65,none,.load (some 2) (.t 4)⟩,⟨some 66,none,.mv (.t 5)⟩,⟨some 67,none,.call 16 [(.t 65),(.t 66)]⟩,⟨some 64,none,.mv (.t 67)⟩,⟨some 68,none,.ext (.t 64) 0⟩,⟨some 69,none,.ext (.t 64) 1⟩,⟨some 70,none,.ext (.t 64) 2⟩,⟨some 11,none,.mv (.t 68)⟩,⟨some 12,none,.mv (.t 69)⟩,⟨some 13,none,.mv (.t 70)⟩])
 (.seq (.ops [⟨some 72,none,.load (some 2) (.t 4)⟩,⟨some 73,none,.mv (.t 5)⟩,⟨some 74,none,.call 17 [(.t 72),(.t 73)]⟩,⟨some 71,none,.mv (.t 74)⟩,⟨some 75,none,.ext (.t 71) 0⟩,⟨some 76,none,.ext (.t 71) 1⟩,⟨some 77,none,.ext (.t 71) 2⟩,⟨some 14,none,.mv (.t 75)⟩,⟨some 15,none,.mv (.t 76)⟩,⟨some 16,none,.mv (.t 77)⟩])
 (.seq (.seq (.ops [⟨some 78,none,.mv (.t 7)⟩,⟨some 79,none,.bin 0 .neq (.t 78) (.c (.int .i64 0))⟩])
 (.cond (.t 79) (.seq (.ops [⟨some 80,none,.mv (.t 10)⟩,⟨some 81,none,.mv (.t 7)⟩,⟨some 82,none,.bin 0 .eql (.t 80) (.t 81)⟩,⟨some 83,none,.mv (.t 82)⟩,⟨some 84,(some (83,true)),.mv (.t 13)⟩,⟨some 85,(some (83,true)),.mv (.t 7)⟩,⟨some 86,(some (83,true)),.bin 0 .eql (.t 84) (.t 85)⟩,⟨some 87,none,.pick (.t 83) (.t 86) (.c (.bool false))⟩,⟨some 88,none,.mv (.t 87)⟩,⟨some 89,(some (88,true)),.mv (.t 16)⟩,⟨some 90,(some (88,true)),.mv (.t 7)⟩,⟨some 91,(some (88,true)),.bin 0 .eql (.t 89) (.t 90)⟩,⟨some 92,none,.pick (.t 88) (.t 91) (.c (.bool false))⟩,⟨some 93,none,.mv (.t 92)⟩,⟨some 94,(some (93,true)),.mv (.t 8)⟩,⟨some 95,(some (93,true)),.len false (.t 94)⟩,⟨some 96,(some (93,true)),.mv (.t 11)⟩,⟨some 97,(some (93,true)),.len false (.t 96)⟩,⟨some 98,(some (93,true)),.bin 0 .add (.t 95) (.t 97)⟩,⟨some 99,(some (93,true)),.mv (.t 14)⟩,⟨some 100,(some (93,true)),.len false (.t 99)⟩,⟨some 101,(some (93,true)),.bin 0 .add (.t 98) (.t 100)⟩,⟨some 102,(some (93,true)),.bin 0 .eql (.t 101) (.c (.int .i64 0))⟩,⟨some 103,none,.pick (.t 93) (.t 102) (.c (.bool false))⟩,⟨some 104,none,.mv (.t 103)⟩,⟨some 105,(some (104,true)),.mv (.t 9)⟩,⟨some 106,(some (104,true)),.bin 0 .eql (.t 105) (.c (.int .i64 0))⟩,⟨some 107,none,.pick (.t 104) (.t 106) (.c (.bool false))⟩,⟨some 108,none,.mv (.t 107)⟩,⟨some 109,(some (108,true)),.mv (.t 12)⟩,⟨some 110,(some (108,true)),.bin 0 .eql (.t 109) (.c (.int .i64 0))⟩,⟨some 111,none,.pick (.t 108) (.t 110) (.c (.bool false))⟩,⟨some 112,none,.mv (.t 111)⟩,⟨some 113,(some (112,true)),.mv (.t 15)⟩,⟨some 114,(some (112,true)),.un .not (.t 113)⟩,⟨some 115,none,.pick (.t 112) (.t 114) (.c (.bool false))⟩,⟨some 116,none,.mv (.t 115)⟩,⟨some 117,(some (116,true)),.call 18 []⟩,⟨some 118,none,.pick (.t 116) (.t 117) (.c (.bool false))⟩,⟨some 2,none,.mv (.t 118)⟩])
 (.ret)) (.skip)))
 (.seq (.ops [⟨some 119,none,.load (some 2) (.t 6)⟩,⟨some 120,none,.call 19 [(.t 119)]⟩,⟨some 17,none,.mv (.t 120)⟩])
 (.seq (.ops [⟨some 18,none,.mv (.c (.lit true 0 []))⟩])
 (.seq (.ops [⟨some 19,none,.mv (.c (.int .i64 0))⟩])
 (.seq (.seq (.ops [⟨some 121,none,.mv (.t 17)⟩,⟨some 122,none,.bin 0 .eql (.t 121) (.c (.int .i64 0))⟩])
 (.cond (.t 122) (.ops [⟨some 124,none,.load (some 2) (.t 4)⟩,⟨some 125,none,.mv (.t 5)⟩,⟨some 126,none,.load (some 2) (.t 6)⟩,⟨some 127,none,.call 20 [(.t 124),(.t 125),(.t 126)]⟩,⟨some 123,none,.mv (.t 127)⟩,⟨some 128,none,.ext (.t 123) 0⟩,⟨some 129,none,.ext (.t 123) 1⟩,⟨some 18,none,.mv (.t 128)⟩,⟨some 19,none,.mv (.t 129)⟩]) (.skip)))
 (.seq (.ops [⟨some 131,none,.load (some 2) (.t 4)⟩,⟨some 132,none,.mv (.t 5)⟩,⟨some 133,none,.call 21 [(.t 131),(.t 132)]⟩,⟨some 130,none,.mv (.t 133)⟩,⟨some 134,none,.ext (.t 130) 0⟩,⟨some 135,none,.ext (.t 130) 1⟩,⟨some 20,none,.mv (.t 134)⟩,⟨some 21,none,.mv (.t 135)⟩])
 (.seq (.seq (.ops [⟨some 136,none,.mv (.t 10)⟩,⟨some 137,none,.mv (.t 17)⟩,⟨some 138,none,.bin 0 .neq (.t 136) (.t 137)⟩,⟨some 139,none,.mv (.t 138)⟩,⟨some 140,(some (139,false)),.mv (.t 8)⟩,⟨some 141,(some (139,false)),.mv (.t 18)⟩,⟨some 142,(some (139,false)),.call 22 [(.t 140),(.t 141)]⟩,⟨some 143,(some (139,false)),.un .not (.t 142)⟩,⟨some 144,none,.pick (.t 139) (.c (.bool true)) (.t 143)⟩,⟨some 145,none,.mv (.t 144)⟩,⟨some 146,(some (145,false)),.mv (.t 9)⟩,⟨some 147,(some (145,false)),.mv (.t 19)⟩,⟨some 148,(some (145,false)),.bin 0 .neq (.t 146) (.t 147)⟩,⟨some 149,none,.pick (.t 145) (.c (.bool true)) (.t 148)⟩,⟨some 150,none,.mv (.t 149)⟩,⟨some 151,(some (150,false)),.mv (.t 13)⟩,⟨some 152,(some (150,false)),.bin 0 .neq (.t 151) (.c (.int .i64 0))⟩,⟨some 153,none,.pick (.t 150) (.c (.bool true)) (.t 152)⟩,⟨some 154,none,.mv (.t 153)⟩,⟨some 155,(some (154,false)),.mv (.t 11)⟩,⟨some 156,(some (154,false)),.mv (.t 20)⟩,⟨some 157,(some (154,false)),.call 22 [(.t 155),(.t 156)]⟩,⟨some 158,(some (154,false)),.un .not (.t 157)⟩,⟨some 159,none,.pick (.t 154) (.c (.bool true)) (.t 158)⟩,⟨some 160,none,.mv (.t 159)⟩,⟨some 161,(some (160,false)),.mv (.t 12)⟩,⟨some 162,(some (160,false)),.mv (.t 21)⟩,⟨some 163,(some (160,false)),.bin 0 .neq (.t 161) (.t 162)⟩,⟨some 164,none,.pick (.t 160) (.c (.bool true)) (.t 163)⟩])
 (.cond (.t 164) (.seq (.ops [⟨some 2,none,.mv (.c (.bool false))⟩])
 (.ret)) (.skip)))
 (.seq (.seq (.ops [⟨some 166,none,.load (some 2) (.t 4)⟩,⟨some 167,none,.call 23 [(.t 166)]⟩,⟨some 165,none,.mv (.t 167)⟩,⟨some 168,none,.ext (.t 165) 0⟩,⟨some 169,none,.ext (.t 165) 1⟩,⟨some 170,none,.ext (.t 165) 2⟩,⟨some 22,none,.mv (.t 168)⟩,⟨some 23,none,.mv (.t 169)⟩,⟨some 24,none,.mv (.t 170)⟩])
 (.seq (.ops [⟨some 171,none,.mv (.t 24)⟩,⟨some 172,none,.bin 0 .gtr (.t 171) (.c (.int .i64 14))⟩])
 (.cond (.t 172) (.seq (.ops [⟨some 173,none,.mv (.t 16)⟩,⟨some 174,none,.bin 0 .eql (.t 173) (.c (.int .i64 2))⟩,⟨some 175,none,.mv (.t 174)⟩,⟨some 176,(some (175,true)),.mv (.t 14)⟩,⟨some 177,(some (175,true)),.len false (.t 176)⟩,⟨some 178,(some (175,true)),.bin 0 .eql (.t 177) (.c (.int .i64 0))⟩,⟨some 179,none,.pick (.t 175) (.t 178) (.c (.bool false))⟩,⟨some 180,none,.mv (.t 179)⟩,⟨some 181,(some (180,true)),.mv (.t 15)⟩,⟨some 182,(some (180,true)),.un .not (.t 181)⟩,⟨some 183,none,.pick (.t 180) (.t 182) (.c (.bool false))⟩,⟨some 184,none,.mv (.t 183)⟩,⟨some 185,(some (184,true)),.call 18 []⟩,⟨some 186,none,.pick (.t 184) (.t 185) (.c (.bool false))⟩,⟨some 2,none,.mv (.t 186)⟩])
 (.ret)) (.skip))))
 (.seq (.ops [⟨some 188,none,.load (some 2) (.t 4)⟩,⟨some 189,none,.mv (.t 5)⟩,⟨some 190,none,.call 24 [(.t 188),(.t 189)]⟩,⟨some 187,none,.mv (.t 190)⟩,⟨some 191,none,.ext (.t 187) 0⟩,⟨some 192,none,.ext (.t 187) 1⟩,⟨some 25,none,.mv (.t 191)⟩,⟨some 26,none,.mv (.t 192)⟩])
 (.seq (.ops [⟨some 193,none,.mv (.t 16)⟩,⟨some 194,none,.bin 0 .eql (.t 193) (.c (.int .i64 0))⟩,⟨some 195,none,.mv (.t 194)⟩,⟨some 196,(some (195,true)),.mv (.t 14)⟩,⟨some 197,(some (195,true)),.mv (.t 25)⟩,⟨some 198,(some (195,true)),.call 22 [(.t 196),(.t 197)]⟩,⟨some 199,none,.pick (.t 195) (.t 198) (.c (.bool false))⟩,⟨some 200,none,.mv (.t 199)⟩,⟨some 201,(some (200,true)),.mv (.t 15)⟩,⟨some 202,(some (200,true)),.mv (.t 26)⟩,⟨some 203,(some (200,true)),.bin 2 .eql (.t 201) (.t 202)⟩,⟨some 204,none,.pick (.t 200) (.t 203) (.c (.bool false))⟩,⟨some 205,none,.mv (.t 204)⟩,⟨some 206,(some (205,true)),.call 18 []⟩,⟨some 207,none,.pick (.t 205) (.t 206) (.c (.bool false))⟩,⟨some 2,none,.mv (.t 207)⟩])
 (.ret)))))))))))))))))))⟩
theorem c3 : compF Go.Proofs.Tryz.prog 3 = some a3 := by kernel_rfl
def a6 : AFn := ⟨30,[.c 2 (some 2)],.seq (.ops [⟨some 2,none,.alloc 28 [(.lit true 0 []),(.str [])]⟩])
 (.seq (.ops [⟨some 6,none,.mv (.t 0)⟩,⟨some 7,none,.call 42 [(.t 6),(.c (.int .i64 1)),(.c (.int .i64 4))]⟩,⟨some 3,none,.mv (.t 7)⟩])
 (.seq (.ops [⟨some 8,none,.build [(.lit true 0 []),(.str [])] [(1,1,(.c (.str [49])))]⟩,⟨some 4,none,.alloc 28 [(.lit true 0 []),(.str [])]⟩,⟨none,none,.store 2 (.t 4) (.t 8)⟩])
 (.seq (.seq (.ops [⟨some 9,none,.mv (.t 0)⟩,⟨some 10,none,.call 42 [(.t 9),(.c (.int .i64 1)),(.c (.int .i64 3))]⟩,⟨some 11,none,.mv (.c (.int .i64 0))⟩])
 (.block 0 (.loop (.seq (.ops [⟨some 12,none,.bin 0 .lss (.t 11) (.t 10)⟩])
 (.seq (.cond (.t 12) (.skip) (.exit 0))
 (.seq (.block 1 (.seq (.ops [⟨some 5,none,.mv (.c (.str []))⟩])
 (.seq (.seq (.ops [⟨some 13,none,.mv (.t 3)⟩,⟨some 14,none,.mv (.c (.int .i64 0))⟩])
 (.block 2 (.loop (.seq (.ops [⟨some 15,none,.bin 0 .lss (.t 14) (.t 13)⟩])
 (.seq (.cond (.t 15) (.skip) (.exit 2))
 (.seq (.block 3 (.ops [⟨some 16,none,.mv (.t 5)⟩,⟨some 17,none,.mv (.t 0)⟩,⟨some 18,none,.bslice 9 1 6 [(.str [])] [(0,1,(.c (.str [63]))),(1,1,(.c (.str [63]))),(2,1,(.c (.str [63]))),(3,1,(.c (.str [63]))),(4,1,(.c (.str [49]))),(5,1,(.c (.str [46])))]⟩,⟨some 19,none,.call 43 [(.t 17),(.t 18)]⟩,⟨some 20,none,.bin 1 .add (.t 16) (.t 19)⟩,⟨some 5,none,.mv (.t 20)⟩]))
 (.ops [⟨some 21,none,.bin 0 .add (.t 14) (.c (.int .i64 1))⟩,⟨some 14,none,.mv (.t 21)⟩])))))))
 (.ops [⟨some 22,none,.fadr 0 (.t 4)⟩,⟨some 23,none,.load none (.t 22)⟩,⟨some 24,none,.mv (.t 5)⟩,⟨some 25,none,.bslice 9 1 1 [(.str [])] [(0,1,(.t 24))]⟩,⟨some 26,none,.app 9 1 16 (.t 23) (.t 25)⟩,⟨some 27,none,.fadr 0 (.t 4)⟩,⟨none,none,.store 1 (.t 27) (.t 26)⟩]))))
 (.ops [⟨some 28,none,.bin 0 .add (.t 11) (.c (.int .i64 1))⟩,⟨some 11,none,.mv (.t 28)⟩])))))))
 (.seq (.ops [⟨some 29,none,.load (some 2) (.t 4)⟩,⟨none,none,.store 2 (.t 2) (.t 29)⟩])
 (.ret)))))⟩
theorem c6 : compF Go.Proofs.Tryz.prog 6 = some a6 := by kernel_rfl
def a7 : AFn := ⟨68,[.t 2],.seq (.ops [⟨some 2,none,.mv (.c (.lit true 0 []))⟩])
 (.seq (.ops [⟨some 6,none,.build [(.int .i64 0),(.int .i64 0)] []⟩,⟨some 7,none,.bslit 2 1 [(.int .i64 0),(.int .i64 0)] [(0,2,(.t 6))]⟩,⟨some 8,none,.build [(.int .i64 0),(.int .i64 0)] []⟩,⟨some 9,none,.build [(.int .i64 0),(.int .i64 0)] [(0,1,(.c (.int .i64 1)))]⟩,⟨some 10,none,.bslit 2 2 [(.int .i64 0),(.int .i64 0)] [(0,2,(.t 8)),(2,2,(.t 9))]⟩,⟨some 11,none,.build [(.int .i64 0),(.int .i64 0)] []⟩,⟨some 12,none,.build [(.int .i64 0),(.int .i64 0)] [(1,1,(.c (.int .i64 1)))]⟩,⟨some 13,none,.bslit 2 2 [(.int .i64 0),(.int .i64 0)] [(0,2,(.t 11)),(2,2,(.t 12))]⟩,⟨some 14,none,.build [(.int .i64 0),(.int .i64 0)] []⟩,⟨some 15,none,.build [(.int .i64 0),(.int .i64 0)] [(0,1,(.c (.int .i64 1)))]⟩,⟨some 16,none,.build [(.int .i64 0),(.int .i64 0)] [(1,1,(.c (.int .i64 1)))]⟩,⟨some 17,none,.build [(.int .i64 0),(.int .i64 0)] [(0,1,(.c (.int .i64 1))),(1,1,(.c (.int .i64 1)))]⟩,⟨some 18,none,.bslit 2 4 [(.int .i64 0),(.int .i64 0)] [(0,2,(.t 14)),(2,2,(.t 15)),(4,2,(.t 16)),(6,2,(.t 17))]⟩,⟨some 19,none,.build [(.int .i64 0),(.int .i64 0)] []⟩,⟨some 20,none,.build [(.int .i64 0),(.int .i64 0)] [(0,1,(.c (.int .i64 2)))]⟩,⟨some 21,none,.bslit 2 2 [(.int .i64 0),(.int .i64 0)] [(0,2,(.t 19)),(2,2,(.t 20))]⟩,⟨some 22,none,.build [(.int .i64 0),(.int .i64 0)] [(0,1,(.c (.int .i64 1)))]⟩,⟨some 23,none,.build [(.int .i64 0),(.int .i64 0)] [(1,1,(.c (.int .i64 1)))]⟩,⟨some 24,none,.bslit 2 2 [(.int .i64 0),(.int .i64 0)] [(0,2,(.t 22)),(2,2,(.t 23))]⟩,⟨some 25,none,.build [(.int .i64 0),(.int .i64 0)] []⟩,⟨some 26,none,.build [(.int .i64 0),(.int .i64 0)] [(0,1,(.c (.int .i64 1))),(1,1,(.c (.int .i64 1)))]⟩,⟨some 27,none,.bslit 2 2 [(.int .i64 0),(.int .i64 0)] [(0,2,(.t 25)),(2,2,(.t 26))]⟩,⟨some 28,none,.bslit 1 7 [(.lit true 0 [])] [(0,1,(.t 7)),(1,1,(.t 10)),(2,1,(.t 13)),(3,1,(.t 18)),(4,1,(.t 21)),(5,1,(.t 24)),(6,1,(.t 27))]⟩,⟨some 3,none,.mv (.t 28)⟩])
 (.seq (.ops [⟨some 29,none,.mv (.t 3)⟩,⟨some 30,none,.mv (.t 0)⟩,⟨some 31,none,.mv (.t 3)⟩,⟨some 32,none,.len false (.t 31)⟩,⟨some 33,none,.call 45 [(.t 30),(.t 32)]⟩,⟨some 34,none,.iadr 1 (.t 29) (.t 33)⟩,⟨some 35,none,.load none (.t 34)⟩,⟨some 36,none,.call 44 [(.t 35)]⟩,⟨some 4,none,.mv (.t 36)⟩])
 (.seq (.seq (.ops [⟨some 37,none,.mv (.t 0)⟩,⟨some 38,none,.call 9 [(.t 37),(.c (.int .i64 15))]⟩])
 (.cond (.t 38) (.seq (.ops [⟨some 39,none,.mv (.t 4)⟩,⟨some 40,none,.mv (.t 0)⟩,⟨some 41,none,.mv (.t 4)⟩,⟨some 42,none,.len false (.t 41)⟩,⟨some 43,none,.call 45 [(.t 40),(.t 42)]⟩,⟨some 44,none,.iadr 2 (.t 39) (.t 43)⟩,⟨some 5,none,.mv (.t 44)⟩])
 (.any [(⟨some 45,none,.mv (.t 5)⟩,[]),(⟨some 46,none,.mv (.t 5)⟩,[0]),(⟨some 47,none,.mv (.t 0)⟩,[0,1]),(⟨some 48,none,.mv (.t 5)⟩,[0,1,2]),(⟨some 49,none,.nilchk (.t 48)⟩,[0,1,2]),(⟨some 50,none,.fadr 0 (.t 49)⟩,[0,1,2]),(⟨some 51,none,.load none (.t 50)⟩,[0,1,2]),(⟨some 52,none,.bslice 3 1 4 [(.int .i64 0)] [(0,1,(.t 51)),(1,1,(.c (.int .i64 (-1)))),(2,1,(.c (.int .i64 60))),(3,1,(.c (.int .i64 1)))]⟩,[0,1,2]),(⟨some 53,none,.call 8 [(.t 47),(.t 52)]⟩,[0,1]),(⟨some 54,none,.mv (.t 0)⟩,[0,1,2,3,4,5,6,7,8]),(⟨some 55,none,.mv (.t 5)⟩,[0,1,2,3,4,5,6,7,8,9]),(⟨some 56,none,.nilchk (.t 55)⟩,[0,1,2,3,4,5,6,7,8,9]),(⟨some 57,none,.fadr 1 (.t 56)⟩,[0,1,2,3,4,5,6,7,8,9]),(⟨some 58,none,.load none (.t 57)⟩,[0,1,2,3,4,5,6,7,8,9]),(⟨some 59,none,.bslice 3 1 3 [(.int .i64 0)] [(0,1,(.t 58)),(1,1,(.c (.int .i64 2))),(2,1,(.c (.int .i64 60)))]⟩,[0,1,2,3,4,5,6,7,8,9]),(⟨some 60,none,.call 8 [(.t 54),(.t 59)]⟩,[0,1]),(⟨some 61,none,.nilchk (.t 45)⟩,[1]),(⟨some 62,none,.fadr 0 (.t 61)⟩,[1]),(⟨none,none,.store 1 (.t 62) (.t 53)⟩,[1]),(⟨some 63,none,.nilchk (.t 46)⟩,[]),(⟨some 64,none,.fadr 1 (.t 63)⟩,[]),(⟨none,none,.store 1 (.t 64) (.t 60)⟩,[])])) (.skip)))
 (.seq (.seq (.ops [⟨some 65,none,.mv (.t 0)⟩,⟨some 66,none,.call 9 [(.t 65),(.c (.int .i64 60))]⟩])
 (.cond (.t 66) (.ops [⟨some 4,none,.mv (.c (.lit true 0 []))⟩]) (.skip)))
 (.seq (.ops [⟨some 67,none,.mv (.t 4)⟩,⟨some 2,none,.mv (.t 67)⟩])
 (.ret))))))⟩
theorem c7 : compF Go.Proofs.Tryz.prog 7 = some a7 := by kernel_rfl
def a8 : AFn := ⟨12,[.t 4],.seq (.ops [⟨some 4,none,.mv (.c (.int .i64 0))⟩])
 (.seq (.ops [⟨some 5,none,.mv (.t 1)⟩,⟨some 6,none,.mv (.t 0)⟩,⟨some 7,none,.mv (.t 1)⟩,⟨some 8,none,.len false (.t 7)⟩,⟨some 9,none,.call 45 [(.t 6),(.t 8)]⟩,⟨some 10,none,.iadr 1 (.t 5) (.t 9)⟩,⟨some 11,none,.load none (.t 10)⟩,⟨some 4,none,.mv (.t 11)⟩])
 (.ret))⟩
theorem c8 : compF Go.Proofs.Tryz.prog 8 = some a8 := by kernel_rfl
def a9 : AFn := ⟨9,[.t 4],.seq (.ops [⟨some 4,none,.mv (.c (.bool false))⟩])
 (.seq (.ops [⟨some 5,none,.mv (.t 0)⟩,⟨some 6,none,.mv (.t 1)⟩,⟨some 7,none,.call 45 [(.t 5),(.t 6)]⟩,⟨some 8,none,.bin 0 .eql (.t 7) (.c (.int .i64 0))⟩,⟨some 4,none,.mv (.t 8)⟩])
 (.ret))⟩
theorem c9 : compF Go.Proofs.Tryz.prog 9 = some a9 := by kernel_rfl
def a10 : AFn := ⟨73,[.c 2 (some 2)],.seq (.ops [⟨some 2,none,.alloc 28 [(.lit true 0 []),(.str [])]⟩])
 (.seq (.ops [⟨some 6,none,.mv (.t 0)⟩,⟨some 7,none,.call 42 [(.t 6),(.c (.int .i64 1)),(.c (.int .i64 6))]⟩,⟨some 3,none,.mv (.t 7)⟩])
 (.seq (.ops [⟨some 8,none,.mv (.t 0)⟩,⟨some 9,none,.bslice 9 1 5 [(.str [])] [(0,1,(.c (.str [49]))),(1,1,(.c (.str [49]))),(2,1,(.c (.str [49,50]))),(3,1,(.c (.str [49,97]))),(4,1,(.c (.str [])))]⟩,⟨some 10,none,.call 43 [(.t 8),(.t 9)]⟩,⟨some 11,none,.build [(.lit true 0 []),(.str [])] [(1,1,(.t 10))]⟩,⟨some 4,none,.alloc 28 [(.lit true 0 []),(.str [])]⟩,⟨none,none,.store 2 (.t 4) (.t 11)⟩])
 (.seq (.seq (.ops [⟨some 12,none,.mv (.t 0)⟩,⟨some 13,none,.call 42 [(.t 12),(.c (.int .i64 1)),(.c (.int .i64 6))]⟩,⟨some 14,none,.mv (.c (.int .i64 0))⟩])
 (.block 0 (.loop (.seq (.ops [⟨some 15,none,.bin 0 .lss (.t 14) (.t 13)⟩])
 (.seq (.cond (.t 15) (.skip) (.exit 0))
 (.seq (.block 1 (.seq (.ops [⟨some 5,none,.mv (.c (.str []))⟩])
 (.seq (.seq (.ops [⟨some 16,none,.mv (.t 3)⟩,⟨some 17,none,.mv (.c (.int .i64 0))⟩])
 (.block 2 (.loop (.seq (.ops [⟨some 18,none,.bin 0 .lss (.t 17) (.t 16)⟩])
 (.seq (.cond (.t 18) (.skip) (.exit 2))
 (.seq (.block 3 (.ops [⟨some 19,none,.mv (.t 5)⟩,⟨some 20,none,.mv (.t 0)⟩,⟨some 21,none,.bslice 9 1 10 [(.str [])] [(0,1,(.c (.str [49]))),(1,1,(.c (.str [49]))),(2,1,(.c (.str [49]))),(3,1,(.c (.str [120]))),(4,1,(.c (.str [120]))),(5,1,(.c (.str [63]))),(6,1,(.c (.str [46]))),(7,1,(.c (.str [42]))),(8,1,(.c (.str [50]))),(9,1,(.c (.str [97])))]⟩,⟨some 22,none,.call 43 [(.t 20),(.t 21)]⟩,⟨some 23,none,.bin 1 .add (.t 19) (.t 22)⟩,⟨some 5,none,.mv (.t 23)⟩]))
 (.ops [⟨some 24,none,.bin 0 .add (.t 17) (.c (.int .i64 1))⟩,⟨some 17,none,.mv (.t 24)⟩])))))))
 (.ops [⟨some 25,none,.fadr 0 (.t 4)⟩,⟨some 26,none,.load none (.t 25)⟩,⟨some 27,none,.mv (.t 5)⟩,⟨some 28,none,.bslice 9 1 1 [(.str [])] [(0,1,(.t 27))]⟩,⟨some 29,none,.app 9 1 16 (.t 26) (.t 28)⟩,⟨some 30,none,.fadr 0 (.t 4)⟩,⟨none,none,.store 1 (.t 30) (.t 29)⟩]))))
 (.ops [⟨some 31,none,.bin 0 .add (.t 14) (.c (.int .i64 1))⟩,⟨some 14,none,.mv (.t 31)⟩])))))))
 (.seq (.seq (.ops [⟨some 32,none,.mv (.t 0)⟩,⟨some 33,none,.call 9 [(.t 32),(.c (.int .i64 12))]⟩])
 (.cond (.t 33) (.seq (.ops [⟨some 34,none,.mv (.t 0)⟩,⟨some 35,none,.call 45 [(.t 34),(.c (.int .i64 3))]⟩])
 (.block 4 (.seq (.ops [⟨some 41,none,.bin 0 .eql (.t 35) (.c (.int .i64 0))⟩,⟨some 40,none,.mv (.t 41)⟩])
 (.cond (.t 40) (.any [(⟨some 42,none,.fadr 0 (.t 4)⟩,[]),(⟨some 43,none,.load none (.t 42)⟩,[]),(⟨some 44,none,.mv (.t 0)⟩,[0,1]),(⟨some 45,none,.fadr 0 (.t 4)⟩,[0,1,2]),(⟨some 46,none,.load none (.t 45)⟩,[0,1,2]),(⟨some 47,none,.len false (.t 46)⟩,[0,1,2]),(⟨some 48,none,.call 45 [(.t 44),(.t 47)]⟩,[0,1]),(⟨some 49,none,.iadr 1 (.t 43) (.t 48)⟩,[]),(⟨some 50,none,.load none (.t 49)⟩,[]),(⟨some 51,none,.mv (.t 0)⟩,[0,1,2,3,4,5,6,7,8]),(⟨some 52,none,.bslice 9 1 2 [(.str [])] [(0,1,(.c (.str [49]))),(1,1,(.c (.str [65])))]⟩,[0,1,2,3,4,5,6,7,8,9]),(⟨some 53,none,.call 43 [(.t 51),(.t 52)]⟩,[0,1,7,8]),(⟨some 54,none,.bin 1 .add (.t 50) (.t 53)⟩,[]),(⟨some 55,none,.iadr 1 (.t 43) (.t 48)⟩,[]),(⟨none,none,.store 1 (.t 55) (.t 54)⟩,[])]) (.seq (.ops [⟨some 57,none,.bin 0 .eql (.t 35) (.c (.int .i64 1))⟩,⟨some 56,none,.mv (.t 57)⟩])
 (.cond (.t 56) (.any [(⟨some 58,none,.fadr 0 (.t 4)⟩,[]),(⟨some 59,none,.load none (.t 58)⟩,[]),(⟨some 60,none,.mv (.t 0)⟩,[0,1]),(⟨some 61,none,.fadr 0 (.t 4)⟩,[0,1,2]),(⟨some 62,none,.load none (.t 61)⟩,[0,1,2]),(⟨some 63,none,.len false (.t 62)⟩,[0,1,2]),(⟨some 64,none,.call 45 [(.t 60),(.t 63)]⟩,[0,1]),(⟨some 65,none,.mv (.t 0)⟩,[0,1,2,3,4,5,6]),(⟨some 66,none,.bslice 9 1 3 [(.str [])] [(0,1,(.c (.str []))),(1,1,(.c (.str [65]))),(2,1,(.c (.str [32])))]⟩,[0,1,2,3,4,5,6,7]),(⟨some 67,none,.call 43 [(.t 65),(.t 66)]⟩,[0,1]),(⟨some 68,none,.iadr 1 (.t 59) (.t 64)⟩,[]),(⟨none,none,.store 1 (.t 68) (.t 67)⟩,[])]) (.ops [⟨some 36,none,.mv (.t 0)⟩,⟨some 37,none,.bslice 9 1 4 [(.str [])] [(0,1,(.c (.str [50,49]))),(1,1,(.c (.str [49,49]))),(2,1,(.c (.str [65]))),(3,1,(.c (.str [63])))]⟩,⟨some 38,none,.call 43 [(.t 36),(.t 37)]⟩,⟨some 39,none,.fadr 1 (.t 4)⟩,⟨none,none,.store 1 (.t 39) (.t 38)⟩]))))))) (.skip)))
 (.seq (.seq (.ops [⟨some 69,none,.mv (.t 0)⟩,⟨some 70,none,.call 9 [(.t 69),(.c (.int .i64 60))]⟩])
 (.cond (.t 70) (.ops [⟨some 71,none,.fadr 0 (.t 4)⟩,⟨none,none,.store 1 (.t 71) (.c (.lit true 0 []))⟩]) (.skip)))
 (.seq (.ops [⟨some 72,none,.load (some 2) (.t 4)⟩,⟨none,none,.store 2 (.t 2) (.t 72)⟩])
 (.ret)))))))⟩
theorem c10 : compF Go.Proofs.Tryz.prog 10 = some a10 := by kernel_rfl
def a11 : AFn := ⟨61,[.t 2],.seq (.ops [⟨some 2,none,.mv (.c (.int .i64 0))⟩])
 (.seq (.block 0 (.seq (.ops [⟨some 7,none,.mv (.t 0)⟩,⟨some 8,none,.len false (.t 7)⟩,⟨some 9,none,.bin 0 .eql (.t 8) (.c (.int .i64 0))⟩,⟨some 6,none,.mv (.t 9)⟩])
 (.cond (.t 6) (.seq (.ops [⟨some 2,none,.mv (.c (.int .i64 8))⟩])
 (.ret)) (.seq (.ops [⟨some 11,none,.mv (.t 0)⟩,⟨some 12,none,.len false (.t 11)⟩,⟨some 13,none,.bin 0 .gtr (.t 12) (.c (.int .i64 8))⟩,⟨some 10,none,.mv (.t 13)⟩])
 (.cond (.t 10) (.seq (.ops [⟨some 2,none,.mv (.c (.int .i64 2))⟩])
 (.ret)) (.skip))))))
 (.seq (.ops [⟨some 14,none,.mv (.t 0)⟩,⟨some 15,none,.iadr 2 (.t 14) (.c (.int .i64 0))⟩,⟨some 16,none,.load (some 2) (.t 15)⟩,⟨some 3,none,.alloc 34 [(.int .i64 0),(.int .i64 0)]⟩,⟨none,none,.store 2 (.t 3) (.t 16)⟩])
 (.seq (.seq (.ops [⟨some 17,none,.mv (.t 0)⟩,⟨some 18,none,.len false (.t 17)⟩,⟨some 19,none,.mv (.c (.int .i64 0))⟩])
 (.block 1 (.loop (.seq (.ops [⟨some 20,none,.bin 0 .lss (.t 19) (.t 18)⟩])
 (.seq (.cond (.t 20) (.skip) (.exit 1))
 (.seq (.block 2 (.seq (.ops [⟨some 21,none,.mv (.t 19)⟩,⟨some 22,none,.iadr 2 (.t 17) (.t 19)⟩,⟨some 23,none,.load (some 2) (.t 22)⟩,⟨some 5,none,.alloc 34 [(.int .i64 0),(.int .i64 0)]⟩,⟨some 4,none,.mv (.t 21)⟩,⟨none,none,.store 2 (.t 5) (.t 23)⟩])
 (.seq (.block 3 (.seq (.ops [⟨some 25,none,.fadr 0 (.t 5)⟩,⟨some 26,none,.load none (.t 25)⟩,⟨some 27,none,.call 46 [(.t 26),(.c (.int .i64 0)),(.c (.int .i64 59))]⟩,⟨some 28,none,.mv (.t 27)⟩,⟨some 29,(some (28,false)),.fadr 1 (.t 5)⟩,⟨some 30,(some (28,false)),.load none (.t 29)⟩,⟨some 31,(some (28,false)),.call 46 [(.t 30),(.c (.int .i64 0)),(.c (.int .i64 59))]⟩,⟨some 32,none,.pick (.t 28) (.c (.bool true)) (.t 31)⟩,⟨some 24,none,.mv (.t 32)⟩])
 (.cond (.t 24) (.seq (.ops [⟨some 2,none,.mv (.c (.int .i64 1))⟩])
 (.ret)) (.seq (.any [(⟨some 34,none,.mv (.t 4)⟩,[]),(⟨some 35,none,.bin 0 .gtr (.t 34) (.c (.int .i64 0))⟩,[]),(⟨some 36,none,.mv (.t 35)⟩,[]),(⟨some 37,(some (36,true)),.load (some 2) (.t 5)⟩,[]),(⟨some 38,(some (36,true)),.mv (.t 0)⟩,[3]),(⟨some 39,(some (36,true)),.mv (.t 4)⟩,[3,4]),(⟨some 40,(some (36,true)),.bin 0 .sub (.t 39) (.c (.int .i64 1))⟩,[3,4]),(⟨some 41,(some (36,true)),.iadr 2 (.t 38) (.t 40)⟩,[3]),(⟨some 42,(some (36,true)),.load (some 2) (.t 41)⟩,[3]),(⟨some 43,(some (36,true)),.call 47 [(.t 37),(.t 42)]⟩,[]),(⟨some 44,(some (36,true)),.bin 0 .leq (.t 43) (.c (.int .i64 0))⟩,[]),(⟨some 45,none,.pick (.t 36) (.t 44) (.c (.bool false))⟩,[]),(⟨some 33,none,.mv (.t 45)⟩,[])])
 (.cond (.t 33) (.seq (.ops [⟨some 2,none,.mv (.c (.int .i64 7))⟩])
 (.ret)) (.skip))))))
 (.ops [⟨some 46,none,.fadr 0 (.t 3)⟩,⟨some 47,none,.load none (.t 46)⟩,⟨some 48,none,.fadr 0 (.t 5)⟩,⟨some 49,none,.load none (.t 48)⟩,⟨some 50,none,.mm false (.t 47) [(.t 49)]⟩,⟨some 51,none,.fadr 1 (.t 3)⟩,⟨some 52,none,.load none (.t 51)⟩,⟨some 53,none,.fadr 1 (.t 5)⟩,⟨some 54,none,.load none (.t 53)⟩,⟨some 55,none,.mm false (.t 52) [(.t 54)]⟩,⟨some 56,none,.build [(.int .i64 0),(.int .i64 0)] [(0,1,(.t 50)),(1,1,(.t 55))]⟩,⟨none,none,.store 2 (.t 3) (.t 56)⟩]))))
 (.ops [⟨some 57,none,.bin 0 .add (.t 19) (.c (.int .i64 1))⟩,⟨some 19,none,.mv (.t 57)⟩])))))))
 (.seq (.seq (.ops [⟨some 58,none,.load (some 2) (.t 3)⟩,⟨some 59,none,.build [(.int .i64 0),(.int .i64 0)] []⟩,⟨some 60,none,.eqs true [0,0] (.t 58) (.t 59)⟩])
 (.cond (.t 60) (.seq (.ops [⟨some 2,none,.mv (.c (.int .i64 3))⟩])
 (.ret)) (.skip)))
 (.seq (.ops [⟨some 2,none,.mv (.c (.int .i64 0))⟩])
 (.ret))))))⟩
theorem c11 : compF Go.Proofs.Tryz.prog 11 = some a11 := by kernel_rfl
def a12 : AFn := ⟨65,[.t 2],.seq (.ops [⟨some 2,none,.mv (.c (.int .i64 0))⟩])
 (.seq (.block 0 (.seq (.ops [⟨some 8,none,.mv (.t 0)⟩,⟨some 9,none,.len false (.t 8)⟩,⟨some 10,none,.bin 0 .eql (.t 9) (.c (.int .i64 0))⟩,⟨some 7,none,.mv (.t 10)⟩])
 (.cond (.t 7) (.seq (.ops [⟨some 2,none,.mv (.c (.int .i64 8))⟩])
 (.ret)) (.seq (.ops [⟨some 12,none,.mv (.t 0)⟩,⟨some 13,none,.len false (.t 12)⟩,⟨some 14,none,.bin 0 .gtr (.t 13) (.c (.int .i64 8))⟩,⟨some 11,none,.mv (.t 14)⟩])
 (.cond (.t 11) (.seq (.ops [⟨some 2,none,.mv (.c (.int .i64 2))⟩])
 (.ret)) (.skip))))))
 (.seq (.ops [⟨some 3,none,.mv (.c (.bool false))⟩,⟨some 4,none,.mv (.c (.bool false))⟩])
 (.seq (.seq (.ops [⟨some 15,none,.mv (.t 0)⟩,⟨some 16,none,.len false (.t 15)⟩,⟨some 17,none,.mv (.c (.int .i64 0))⟩])
 (.block 1 (.loop (.seq (.ops [⟨some 18,none,.bin 0 .lss (.t 17) (.t 16)⟩])
 (.seq (.cond (.t 18) (.skip) (.exit 1))
 (.seq (.block 2 (.seq (.ops [⟨some 19,none,.mv (.t 17)⟩,⟨some 20,none,.iadr 2 (.t 15) (.t 17)⟩,⟨some 21,none,.load (some 2) (.t 20)⟩,⟨some 6,none,.alloc 34 [(.int .i64 0),(.int .i64 0)]⟩,⟨some 5,none,.mv (.t 19)⟩,⟨none,none,.store 2 (.t 6) (.t 21)⟩])
 (.seq (.block 3 (.seq (.ops [⟨some 23,none,.fadr 0 (.t 6)⟩,⟨some 24,none,.load none (.t 23)⟩,⟨some 25,none,.call 48 [(.t 24),(.c (.int .i64 0)),(.c (.int .i64 59))]⟩,⟨some 26,none,.un .not (.t 25)⟩,⟨some 27,none,.mv (.t 26)⟩,⟨some 28,(some (27,false)),.fadr 1 (.t 6)⟩,⟨some 29,(some (27,false)),.load none (.t 28)⟩,⟨some 30,(some (27,false)),.call 48 [(.t 29),(.c (.int .i64 0)),(.c (.int .i64 59))]⟩,⟨some 31,(some (27,false)),.un .not (.t 30)⟩,⟨some 32,none,.pick (.t 27) (.c (.bool true)) (.t 31)⟩,⟨some 22,none,.mv (.t 32)⟩])
 (.cond (.t 22) (.seq (.ops [⟨some 2,none,.mv (.c (.int .i64 1))⟩])
 (.ret)) (.seq (.any [(⟨some 34,none,.mv (.t 5)⟩,[]),(⟨some 35,none,.bin 0 .gtr (.t 34) (.c (.int .i64 0))⟩,[]),(⟨some 36,none,.mv (.t 35)⟩,[]),(⟨some 37,(some (36,true)),.mv (.t 0)⟩,[]),(⟨some 38,(some (36,true)),.mv (.t 5)⟩,[3]),(⟨some 39,(some (36,true)),.bin 0 .sub (.t 38) (.c (.int .i64 1))⟩,[3]),(⟨some 40,(some (36,true)),.iadr 2 (.t 37) (.t 39)⟩,[]),(⟨some 41,(some (36,true)),.load (some 2) (.t 40)⟩,[]),(⟨some 42,(some (36,true)),.load (some 2) (.t 6)⟩,[3,4,5,6,7]),(⟨some 43,(some (36,true)),.call 49 [(.t 41),(.t 42)]⟩,[]),(⟨some 44,(some (36,true)),.bin 0 .geq (.t 43) (.c (.int .i64 0))⟩,[]),(⟨some 45,none,.pick (.t 36) (.t 44) (.c (.bool false))⟩,[]),(⟨some 33,none,.mv (.t 45)⟩,[])])
 (.cond (.t 33) (.seq (.ops [⟨some 2,none,.mv (.c (.int .i64 7))⟩])
 (.ret)) (.skip))))))
 (.any [(⟨some 46,none,.mv (.t 3)⟩,[]),(⟨some 47,none,.mv (.t 46)⟩,[]),(⟨some 48,(some (47,false)),.fadr 0 (.t 6)⟩,[]),(⟨some 49,(some (47,false)),.load none (.t 48)⟩,[]),(⟨some 50,(some (47,false)),.bin 0 .eql (.t 49) (.c (.int .i64 0))⟩,[]),(⟨some 51,none,.pick (.t 47) (.c (.bool true)) (.t 50)⟩,[]),(⟨some 52,none,.mv (.t 4)⟩,[0,1,2,3,4,5]),(⟨some 53,none,.mv (.t 52)⟩,[2,3,4,5]),(⟨some 54,(some (53,false)),.fadr 1 (.t 6)⟩,[2,3,4,5]),(⟨some 55,(some (53,false)),.load none (.t 54)⟩,[2,3,4,5]),(⟨some 56,(some (53,false)),.bin 0 .eql (.t 55) (.c (.int .i64 0))⟩,[2,3,4,5]),(⟨some 57,none,.pick (.t 53) (.c (.bool true)) (.t 56)⟩,[2,3,4,5]),(⟨some 3,none,.mv (.t 51)⟩,[8,9,10,11]),(⟨some 4,none,.mv (.t 57)⟩,[])]))))
 (.ops [⟨some 58,none,.bin 0 .add (.t 17) (.c (.int .i64 1))⟩,⟨some 17,none,.mv (.t 58)⟩])))))))
 (.seq (.seq (.ops [⟨some 59,none,.mv (.t 3)⟩,⟨some 60,none,.un .not (.t 59)⟩,⟨some 61,none,.mv (.t 60)⟩,⟨some 62,(some (61,false)),.mv (.t 4)⟩,⟨some 63,(some (61,false)),.un .not (.t 62)⟩,⟨some 64,none,.pick (.t 61) (.c (.bool true)) (.t 63)⟩])
 (.cond (.t 64) (.seq (.ops [⟨some 2,none,.mv (.c (.int .i64 3))⟩])
 (.ret)) (.skip)))
 (.seq (.ops [⟨some 2,none,.mv (.c (.int .i64 0))⟩])
 (.ret))))))⟩
theorem c12 : compF Go.Proofs.Tryz.prog 12 = some a12 := by kernel_rfl
def a13 : AFn := ⟨18,[.t 2],.seq (.ops [⟨some 2,none,.mv (.c (.int .i64 0))⟩])
 (.seq (.ops [⟨some 3,none,.mv (.c (.int .i64 0))⟩])
 (.seq (.seq (.ops [⟨some 6,none,.mv (.t 0)⟩,⟨some 7,none,.len false (.t 6)⟩,⟨some 8,none,.mv (.c (.int .i64 0))⟩])
 (.block 0 (.loop (.seq (.ops [⟨some 9,none,.bin 0 .lss (.t 8) (.t 7)⟩])
 (.seq (.cond (.t 9) (.skip) (.exit 0))
 (.seq (.block 1 (.seq (.ops [⟨some 10,none,.iadr 1 (.t 6) (.t 8)⟩,⟨some 11,none,.load none (.t 10)⟩,⟨some 5,none,.mv (.t 11)⟩])
 (.seq (.ops [⟨some 12,none,.mv (.t 5)⟩,⟨some 13,none,.mv (.t 3)⟩,⟨some 14,none,.bin 0 .neq (.t 12) (.t 13)⟩])
 (.cond (.t 14) (.seq (.ops [⟨some 15,none,.mv (.t 5)⟩,⟨some 2,none,.mv (.t 15)⟩])
 (.ret)) (.skip)))))
 (.ops [⟨some 16,none,.bin 0 .add (.t 8) (.c (.int .i64 1))⟩,⟨some 8,none,.mv (.t 16)⟩])))))))
 (.seq (.ops [⟨some 17,none,.mv (.t 3)⟩,⟨some 2,none,.mv (.t 17)⟩])
 (.ret))))⟩
theorem c13 : compF Go.Proofs.Tryz.prog 13 = some a13 := by kernel_rfl
def a14 : AFn := ⟨46,[.t 2],.seq (.ops [⟨some 1,none,.box 28 (.t 0)⟩,⟨some 2,none,.mv (.c (.int .i64 0))⟩])
 (.seq (.block 0 (.seq (.ops [⟨some 6,none,.fadr 0 (.t 1)⟩,⟨some 7,none,.load none (.t 6)⟩,⟨some 8,none,.len false (.t 7)⟩,⟨some 9,none,.bin 0 .eql (.t 8) (.c (.int .i64 0))⟩,⟨some 5,none,.mv (.t 9)⟩])
 (.cond (.t 5) (.seq (.ops [⟨some 2,none,.mv (.c (.int .i64 8))⟩])
 (.ret)) (.seq (.ops [⟨some 11,none,.fadr 0 (.t 1)⟩,⟨some 12,none,.load none (.t 11)⟩,⟨some 13,none,.len false (.t 12)⟩,⟨some 14,none,.bin 0 .gtr (.t 13) (.c (.int .i64 60))⟩,⟨some 10,none,.mv (.t 14)⟩])
 (.cond (.t 10) (.seq (.ops [⟨some 2,none,.mv (.c (.int .i64 2))⟩])
 (.ret)) (.skip))))))
 (.seq (.seq (.ops [⟨some 15,none,.fadr 0 (.t 1)⟩,⟨some 16,none,.load none (.t 15)⟩,⟨some 17,none,.len false (.t 16)⟩,⟨some 18,none,.mv (.c (.int .i64 0))⟩])
 (.block 1 (.loop (.seq (.ops [⟨some 19,none,.bin 0 .lss (.t 18) (.t 17)⟩])
 (.seq (.cond (.t 19) (.skip) (.exit 1))
 (.seq (.block 2 (.seq (.ops [⟨some 20,none,.iadr 1 (.t 16) (.t 18)⟩,⟨some 21,none,.load none (.t 20)⟩,⟨some 4,none,.mv (.t 21)⟩])
 (.block 3 (.seq (.ops [⟨some 23,none,.mv (.t 4)⟩,⟨some 24,none,.bin 1 .eql (.t 23) (.c (.str []))⟩,⟨some 22,none,.mv (.t 24)⟩])
 (.cond (.t 22) (.seq (.ops [⟨some 2,none,.mv (.c (.int .i64 8))⟩])
 (.ret)) (.seq (.ops [⟨some 26,none,.mv (.t 4)⟩,⟨some 27,none,.len true (.t 26)⟩,⟨some 28,none,.bin 0 .gtr (.t 27) (.c (.int .i64 60))⟩,⟨some 25,none,.mv (.t 28)⟩])
 (.cond (.t 25) (.seq (.ops [⟨some 2,none,.mv (.c (.int .i64 2))⟩])
 (.ret)) (.seq (.ops [⟨some 30,none,.mv (.t 4)⟩,⟨some 31,none,.len true (.t 30)⟩,⟨some 32,none,.fadr 0 (.t 1)⟩,⟨some 33,none,.load none (.t 32)⟩,⟨some 34,none,.iadr 1 (.t 33) (.c (.int .i64 0))⟩,⟨some 35,none,.load none (.t 34)⟩,⟨some 36,none,.len true (.t 35)⟩,⟨some 37,none,.bin 0 .neq (.t 31) (.t 36)⟩,⟨some 29,none,.mv (.t 37)⟩])
 (.cond (.t 29) (.seq (.ops [⟨some 2,none,.mv (.c (.int .i64 3))⟩])
 (.ret)) (.seq (.ops [⟨some 39,none,.mv (.t 4)⟩,⟨some 40,none,.s2b (.t 39)⟩,⟨some 41,none,.call 50 [(.t 40),(.c (.fn 51 []))]⟩,⟨some 38,none,.mv (.t 41)⟩])
 (.cond (.t 38) (.seq (.ops [⟨some 2,none,.mv (.c (.int .i64 9))⟩])
 (.ret)) (.skip))))))))))))
 (.ops [⟨some 42,none,.bin 0 .add (.t 18) (.c (.int .i64 1))⟩,⟨some 18,none,.mv (.t 42)⟩])))))))
 (.seq (.ops [⟨some 43,none,.fadr 1 (.t 1)⟩,⟨some 44,none,.load none (.t 43)⟩,⟨some 45,none,.call 53 [(.t 44)]⟩,⟨some 2,none,.mv (.t 45)⟩])
 (.ret))))⟩
theorem c14 : compF Go.Proofs.Tryz.prog 14 = some a14 := by kernel_rfl
def a15 : AFn := ⟨36,[.t 6,.t 7,.t 8],.seq (.ops [⟨some 3,none,.box 28 (.t 0)⟩,⟨some 5,none,.box 34 (.t 2)⟩,⟨some 6,none,.mv (.c (.lit true 0 []))⟩,⟨some 7,none,.mv (.c (.int .i64 0))⟩,⟨some 8,none,.mv (.c (.int .i64 0))⟩])
 (.seq (.seq (.ops [⟨some 11,none,.load (some 2) (.t 3)⟩,⟨some 12,none,.mv (.t 1)⟩,⟨some 13,none,.call 54 [(.t 11),(.t 12)]⟩,⟨some 9,none,.mv (.t 13)⟩])
 (.seq (.ops [⟨some 14,none,.mv (.t 9)⟩,⟨some 15,none,.bin 0 .neq (.t 14) (.c (.int .i64 0))⟩])
 (.cond (.t 15) (.seq (.ops [⟨some 16,none,.mv (.t 9)⟩,⟨some 6,none,.mv (.c (.lit true 0 []))⟩,⟨some 7,none,.mv (.c (.int .i64 0))⟩,⟨some 8,none,.mv (.t 16)⟩])
 (.ret)) (.skip))))
 (.seq (.seq (.ops [⟨some 17,none,.fadr 0 (.t 5)⟩,⟨some 18,none,.load none (.t 17)⟩,⟨some 19,none,.call 46 [(.t 18),(.c (.int .i64 (-59))),(.c (.int .i64 59))]⟩,⟨some 20,none,.mv (.t 19)⟩,⟨some 21,(some (20,false)),.fadr 1 (.t 5)⟩,⟨some 22,(some (20,false)),.load none (.t 21)⟩,⟨some 23,(some (20,false)),.call 46 [(.t 22),(.c (.int .i64 (-59))),(.c (.int .i64 59))]⟩,⟨some 24,none,.pick (.t 20) (.c (.bool true)) (.t 23)⟩])
 (.cond (.t 24) (.seq (.ops [⟨some 6,none,.mv (.c (.lit true 0 []))⟩,⟨some 7,none,.mv (.c (.int .i64 0))⟩,⟨some 8,none,.mv (.c (.int .i64 1))⟩])
 (.ret)) (.skip)))
 (.seq (.ops [⟨some 25,none,.mv (.t 1)⟩,⟨some 26,none,.load (some 2) (.t 5)⟩,⟨some 27,none,.call 56 [(.t 25),(.t 26)]⟩,⟨some 28,none,.mkfn 57 [(.t 3)]⟩,⟨some 29,none,.call 55 [(.t 27),(.t 28)]⟩,⟨some 10,none,.mv (.t 29)⟩])
 (.seq (.ops [⟨some 30,none,.mv (.t 10)⟩,⟨some 31,none,.mv (.t 1)⟩,⟨some 32,none,.len false (.t 31)⟩,⟨some 33,none,.mv (.t 10)⟩,⟨some 34,none,.len false (.t 33)⟩,⟨some 35,none,.bin 0 .sub (.t 32) (.t 34)⟩,⟨some 6,none,.mv (.t 30)⟩,⟨some 7,none,.mv (.t 35)⟩,⟨some 8,none,.mv (.c (.int .i64 0))⟩])
 (.ret)))))⟩
theorem c15 : compF Go.Proofs.Tryz.prog 15 = some a15 := by kernel_rfl
def a16 : AFn := ⟨92,[.t 4,.t 5,.t 6],.seq (.ops [⟨some 2,none,.box 28 (.t 0)⟩,⟨some 4,none,.mv (.c (.lit true 0 []))⟩,⟨some 5,none,.mv (.c (.int .i64 0))⟩,⟨some 6,none,.mv (.c (.int .i64 0))⟩])
 (.seq (.seq (.ops [⟨some 17,none,.load (some 2) (.t 2)⟩,⟨some 18,none,.mv (.t 1)⟩,⟨some 19,none,.call 54 [(.t 17),(.t 18)]⟩,⟨some 7,none,.mv (.t 19)⟩])
 (.seq (.ops [⟨some 20,none,.mv (.t 7)⟩,⟨some 21,none,.bin 0 .neq (.t 20) (.c (.int .i64 0))⟩])
 (.cond (.t 21) (.seq (.ops [⟨some 22,none,.mv (.t 7)⟩,⟨some 4,none,.mv (.c (.lit true 0 []))⟩,⟨some 5,none,.mv (.c (.int .i64 0))⟩,⟨some 6,none,.mv (.t 22)⟩])
 (.ret)) (.skip))))
 (.seq (.ops [⟨some 23,none,.mmk .p (.bool false)⟩,⟨some 8,none,.mv (.t 23)⟩])
 (.seq (.ops [⟨some 9,none,.mv (.c (.lit true 0 []))⟩])
 (.seq (.ops [⟨some 10,none,.mv (.c (.int .i64 0))⟩])
 (.seq (.seq (.ops [⟨some 24,none,.load (some 2) (.t 2)⟩,⟨some 25,none,.call 59 [(.t 24)]⟩,⟨some 26,none,.len false (.t 25)⟩,⟨some 27,none,.mv (.c (.int .i64 0))⟩])
 (.block 0 (.loop (.seq (.ops [⟨some 28,none,.bin 0 .lss (.t 27) (.t 26)⟩])
 (.seq (.cond (.t 28) (.skip) (.exit 0))
 (.seq (.block 1 (.seq (.ops [⟨some 29,none,.iadr 2 (.t 25) (.t 27)⟩,⟨some 30,none,.load (some 2) (.t 29)⟩,⟨some 12,none,.alloc 34 [(.int .i64 0),(.int .i64 0)]⟩,⟨none,none,.store 2 (.t 12) (.t 30)⟩])
 (.seq (.seq (.ops [⟨some 31,none,.load (some 2) (.t 2)⟩,⟨some 32,none,.load (some 2) (.t 12)⟩,⟨some 33,none,.call 58 [(.t 31),(.t 32)]⟩,⟨some 34,none,.un .not (.t 33)⟩,⟨some 35,none,.mv (.t 34)⟩,⟨some 36,(some (35,false)),.mv (.t 8)⟩,⟨some 37,(some (35,false)),.load (some 2) (.t 12)⟩,⟨some 38,(some (35,false)),.mlk false .p (.bool false) (.t 36) (.t 37)⟩,⟨some 39,none,.pick (.t 35) (.c (.bool true)) (.t 38)⟩])
 (.cond (.t 39) (.exit 1) (.skip)))
 (.seq (.any [(⟨some 40,none,.fadr 0 (.t 12)⟩,[]),(⟨some 41,none,.load none (.t 40)⟩,[]),(⟨some 42,none,.mv (.t 1)⟩,[0,1]),(⟨some 43,none,.iadr 2 (.t 42) (.c (.int .i64 0))⟩,[0,1]),(⟨some 44,none,.fadr 0 (.t 43)⟩,[0,1]),(⟨some 45,none,.load none (.t 44)⟩,[0,1]),(⟨some 46,none,.bin 0 .sub (.t 41) (.t 45)⟩,[]),(⟨some 47,none,.fadr 1 (.t 12)⟩,[0,1,2,3,4,5,6]),(⟨some 48,none,.load none (.t 47)⟩,[0,1,2,3,4,5,6]),(⟨some 49,none,.mv (.t 1)⟩,[0,1,2,3,4,5,6,7,8]),(⟨some 50,none,.iadr 2 (.t 49) (.c (.int .i64 0))⟩,[0,1,2,3,4,5,6,7,8]),(⟨some 51,none,.fadr 1 (.t 50)⟩,[0,1,2,3,4,5,6,7,8]),(⟨some 52,none,.load none (.t 51)⟩,[0,1,2,3,4,5,6,7,8]),(⟨some 53,none,.bin 0 .sub (.t 48) (.t 52)⟩,[0,1,2,3,4,5,6]),(⟨some 54,none,.build [(.int .i64 0),(.int .i64 0)] [(0,1,(.t 46)),(1,1,(.t 53))]⟩,[]),(⟨some 13,none,.alloc 34 [(.int .i64 0),(.int .i64 0)]⟩,[0,1,2,3,4,5,6,7,8,9,10,11,12,13,14]),(⟨none,none,.store 2 (.t 13) (.t 54)⟩,[])])
 (.seq (.ops [⟨some 55,none,.mv (.t 9)⟩,⟨some 56,none,.load (some 2) (.t 13)⟩,⟨some 57,none,.bslice 34 2 1 [(.int .i64 0),(.int .i64 0)] [(0,2,(.t 56))]⟩,⟨some 58,none,.app 34 2 16 (.t 55) (.t 57)⟩,⟨some 9,none,.mv (.t 58)⟩])
 (.seq (.ops [⟨some 59,none,.mv (.t 1)⟩,⟨some 60,none,.load (some 2) (.t 13)⟩,⟨some 61,none,.call 56 [(.t 59),(.t 60)]⟩,⟨some 62,none,.len false (.t 61)⟩,⟨some 63,none,.mv (.c (.int .i64 0))⟩])
 (.block 2 (.loop (.seq (.ops [⟨some 64,none,.bin 0 .lss (.t 63) (.t 62)⟩])
 (.seq (.cond (.t 64) (.skip) (.exit 2))
 (.seq (.block 3 (.seq (.ops [⟨some 65,none,.iadr 2 (.t 61) (.t 63)⟩,⟨some 66,none,.load (some 2) (.t 65)⟩,⟨some 15,none,.alloc 34 [(.int .i64 0),(.int .i64 0)]⟩,⟨none,none,.store 2 (.t 15) (.t 66)⟩])
 (.seq (.ops [⟨some 67,none,.load (some 2) (.t 2)⟩,⟨some 68,none,.load (some 2) (.t 15)⟩,⟨some 69,none,.call 60 [(.t 67),(.t 68)]⟩,⟨some 16,none,.mv (.t 69)⟩])
 (.seq (.seq (.ops [⟨some 70,none,.mv (.t 16)⟩,⟨some 71,none,.call 61 [(.t 70)]⟩,⟨some 72,none,.mv (.t 71)⟩,⟨some 73,(some (72,false)),.mv (.t 8)⟩,⟨some 74,(some (72,false)),.load (some 2) (.t 15)⟩,⟨some 75,(some (72,false)),.mlk false .p (.bool false) (.t 73) (.t 74)⟩,⟨some 76,none,.pick (.t 72) (.c (.bool true)) (.t 75)⟩])
 (.cond (.t 76) (.ops [⟨some 77,none,.mv (.t 10)⟩,⟨some 78,none,.bin 0 .add (.t 77) (.c (.int .i64 1))⟩,⟨some 10,none,.mv (.t 78)⟩]) (.skip)))
 (.any [(⟨some 79,none,.mv (.t 8)⟩,[]),(⟨some 80,none,.load (some 2) (.t 15)⟩,[0]),(⟨some 81,none,.mv (.t 8)⟩,[0,1]),(⟨some 82,none,.load (some 2) (.t 15)⟩,[0,1,2]),(⟨some 83,none,.mlk false .p (.bool false) (.t 81) (.t 82)⟩,[0,1]),(⟨some 84,none,.mv (.t 83)⟩,[0,1]),(⟨some 85,(some (84,false)),.mv (.t 16)⟩,[0,1]),(⟨some 86,(some (84,false)),.bin 0 .eql (.t 85) (.c (.int .u8 63))⟩,[0,1]),(⟨some 87,none,.pick (.t 84) (.c (.bool true)) (.t 86)⟩,[0,1]),(⟨none,none,.mup .p (.t 79) (.t 80) (.t 87)⟩,[])])))))
 (.ops [⟨some 88,none,.bin 0 .add (.t 63) (.c (.int .i64 1))⟩,⟨some 63,none,.mv (.t 88)⟩]))))))))))))
 (.ops [⟨some 89,none,.bin 0 .add (.t 27) (.c (.int .i64 1))⟩,⟨some 27,none,.mv (.t 89)⟩])))))))
 (.seq (.ops [⟨some 90,none,.mv (.t 9)⟩,⟨some 91,none,.mv (.t 10)⟩,⟨some 4,none,.mv (.t 90)⟩,⟨some 5,none,.mv (.t 91)⟩,⟨some 6,none,.mv (.c (.int .i64 0))⟩])
 (.ret)))))))⟩
theorem c16 : compF Go.Proofs.Tryz.prog 16 = some a16 := by kernel_rfl
def a17 : AFn := ⟨62,[.t 4,.t 5,.t 6],.seq (.ops [⟨some 2,none,.box 28 (.t 0)⟩,⟨some 4,none,.mv (.c (.lit true 0 []))⟩,⟨some 5,none,.mv (.c (.bool false))⟩,⟨some 6,none,.mv (.c (.int .i64 0))⟩])
 (.seq (.seq (.ops [⟨some 14,none,.load (some 2) (.t 2)⟩,⟨some 15,none,.mv (.t 1)⟩,⟨some 16,none,.call 54 [(.t 14),(.t 15)]⟩,⟨some 7,none,.mv (.t 16)⟩])
 (.seq (.ops [⟨some 17,none,.mv (.t 7)⟩,⟨some 18,none,.bin 0 .neq (.t 17) (.c (.int .i64 0))⟩])
 (.cond (.t 18) (.seq (.ops [⟨some 19,none,.mv (.t 7)⟩,⟨some 4,none,.mv (.c (.lit true 0 []))⟩,⟨some 5,none,.mv (.c (.bool false))⟩,⟨some 6,none,.mv (.t 19)⟩])
 (.ret)) (.skip))))
 (.seq (.ops [⟨some 20,none,.load (some 2) (.t 2)⟩,⟨some 21,none,.call 59 [(.t 20)]⟩,⟨some 22,none,.mkfn 62 [(.t 2)]⟩,⟨some 23,none,.call 55 [(.t 21),(.t 22)]⟩,⟨some 8,none,.mv (.t 23)⟩])
 (.seq (.seq (.ops [⟨some 24,none,.mv (.t 8)⟩,⟨some 25,none,.len false (.t 24)⟩,⟨some 26,none,.bin 0 .gtr (.t 25) (.c (.int .i64 14))⟩])
 (.cond (.t 26) (.seq (.ops [⟨some 4,none,.mv (.c (.lit true 0 []))⟩,⟨some 5,none,.mv (.c (.bool false))⟩,⟨some 6,none,.mv (.c (.int .i64 2))⟩])
 (.ret)) (.skip)))
 (.seq (.ops [⟨some 27,none,.load (some 2) (.t 2)⟩,⟨some 28,none,.mv (.t 1)⟩,⟨some 29,none,.mv (.t 8)⟩,⟨some 30,none,.call 63 [(.t 27),(.t 28),(.t 29)]⟩,⟨some 9,none,.mv (.t 30)⟩])
 (.seq (.ops [⟨some 31,none,.mv (.t 9)⟩,⟨some 32,none,.mv (.t 8)⟩,⟨some 33,none,.len false (.t 32)⟩,⟨some 34,none,.call 64 [(.t 31),(.t 33)]⟩,⟨some 10,none,.alloc 22 [(.lit true 0 [])]⟩,⟨none,none,.store 1 (.t 10) (.t 34)⟩])
 (.seq (.ops [⟨some 35,none,.mv (.t 8)⟩,⟨some 36,none,.len false (.t 35)⟩,⟨some 37,none,.bin 0 .shl (.c (.int .u64 1)) (.t 36)⟩,⟨some 38,none,.bin 0 .sub (.t 37) (.c (.int .u64 1))⟩,⟨some 11,none,.alloc 104 [(.int .u64 0)]⟩,⟨none,none,.store 1 (.t 11) (.t 38)⟩])
 (.seq (.ops [⟨some 12,none,.mv (.c (.lit true 0 []))⟩])
 (.seq (.block 0 (.loop (.seq (.seq (.ops [⟨some 39,none,.load none (.t 11)⟩,⟨some 40,none,.bin 0 .neq (.t 39) (.c (.int .u64 0))⟩])
 (.cond (.t 40) (.skip) (.exit 0)))
 (.block 1 (.seq (.ops [⟨some 41,none,.mv (.t 9)⟩,⟨some 42,none,.mkfn 66 [(.t 11),(.t 10)]⟩,⟨some 43,none,.call 65 [(.t 41),(.t 42)]⟩,⟨some 13,none,.mv (.t 43)⟩])
 (.seq (.seq (.ops [⟨some 44,none,.mv (.t 13)⟩,⟨some 45,none,.bin 0 .lss (.t 44) (.c (.int .i64 0))⟩])
 (.cond (.t 45) (.seq (.ops [⟨some 4,none,.mv (.c (.lit true 0 []))⟩,⟨some 5,none,.mv (.c (.bool false))⟩,⟨some 6,none,.mv (.c (.int .i64 0))⟩])
 (.ret)) (.skip)))
 (.seq (.ops [⟨some 46,none,.mv (.t 12)⟩,⟨some 47,none,.mv (.t 9)⟩,⟨some 48,none,.mv (.t 13)⟩,⟨some 49,none,.iadr 3 (.t 47) (.t 48)⟩,⟨some 50,none,.fadr 0 (.t 49)⟩,⟨some 51,none,.load (some 2) (.t 50)⟩,⟨some 52,none,.bslice 34 2 1 [(.int .i64 0),(.int .i64 0)] [(0,2,(.t 51))]⟩,⟨some 53,none,.app 34 2 16 (.t 46) (.t 52)⟩,⟨some 12,none,.mv (.t 53)⟩])
 (.any [(⟨some 54,none,.load none (.t 11)⟩,[]),(⟨some 55,none,.mv (.t 9)⟩,[0]),(⟨some 56,none,.mv (.t 13)⟩,[0,1]),(⟨some 57,none,.iadr 3 (.t 55) (.t 56)⟩,[0]),(⟨some 58,none,.fadr 2 (.t 57)⟩,[0]),(⟨some 59,none,.load none (.t 58)⟩,[0]),(⟨some 60,none,.bin 0 .andNot (.t 54) (.t 59)⟩,[]),(⟨none,none,.store 1 (.t 11) (.t 60)⟩,[])]))))))))
 (.seq (.ops [⟨some 61,none,.mv (.t 12)⟩,⟨some 4,none,.mv (.t 61)⟩,⟨some 5,none,.mv (.c (.bool true))⟩,⟨some 6,none,.mv (.c (.int .i64 0))⟩])
 (.ret))))))))))⟩
theorem c17 : compF Go.Proofs.Tryz.prog 17 = some a17 := by kernel_rfl
def a18 : AFn := ⟨21,[.t 0],.seq (.ops [⟨some 0,none,.mv (.c (.bool false))⟩])
 (.seq (.ops [⟨some 5,none,.bslice 9 1 1 [(.str [])] [(0,1,(.c (.str [49,120])))]⟩,⟨some 6,none,.build [(.lit true 0 []),(.str [])] [(0,1,(.t 5)),(1,1,(.c (.str [49])))]⟩,⟨some 7,none,.call 34 [(.t 6)]⟩,⟨some 4,none,.mv (.t 7)⟩,⟨some 8,none,.ext (.t 4) 0⟩,⟨some 9,none,.ext (.t 4) 1⟩,⟨some 10,none,.ext (.t 4) 2⟩,⟨some 1,none,.alloc 67 [(.int .i64 0),(.int .i64 0)]⟩,⟨none,none,.store 2 (.t 1) (.t 8)⟩,⟨some 2,none,.mv (.t 9)⟩,⟨some 3,none,.mv (.t 10)⟩])
 (.seq (.ops [⟨some 11,none,.mv (.t 3)⟩,⟨some 12,none,.bin 0 .eql (.t 11) (.c (.int .i64 0))⟩,⟨some 13,none,.mv (.t 12)⟩,⟨some 14,(some (13,true)),.mv (.t 2)⟩,⟨some 15,none,.pick (.t 13) (.t 14) (.c (.bool false))⟩,⟨some 16,none,.mv (.t 15)⟩,⟨some 17,(some (16,true)),.load (some 2) (.t 1)⟩,⟨some 18,(some (16,true)),.build [(.int .i64 0),(.int .i64 0)] [(0,1,(.c (.int .i64 1))),(1,1,(.c (.int .i64 2)))]⟩,⟨some 19,(some (16,true)),.eqs false [0,0] (.t 17) (.t 18)⟩,⟨some 20,none,.pick (.t 16) (.t 19) (.c (.bool false))⟩,⟨some 0,none,.mv (.t 20)⟩])
 (.ret)))⟩
theorem c18 : compF Go.Proofs.Tryz.prog 18 = some a18 := by kernel_rfl
def a19 : AFn := ⟨11,[.t 2],.seq (.ops [⟨some 1,none,.box 34 (.t 0)⟩,⟨some 2,none,.mv (.c (.int .i64 0))⟩])
 (.seq (.any [(⟨some 3,none,.fadr 0 (.t 1)⟩,[]),(⟨some 4,none,.load none (.t 3)⟩,[]),(⟨some 5,none,.call 67 [(.t 4),(.c (.int .i64 (-59))),(.c (.int .i64 59))]⟩,[]),(⟨some 6,none,.fadr 1 (.t 1)⟩,[0,1,2]),(⟨some 7,none,.load none (.t 6)⟩,[0,1,2]),(⟨some 8,none,.call 67 [(.t 7),(.c (.int .i64 (-59))),(.c (.int .i64 59))]⟩,[]),(⟨some 9,none,.bslice 36 1 2 [(.int .i64 0)] [(0,1,(.t 5)),(1,1,(.t 8))]⟩,[]),(⟨some 10,none,.call 13 [(.t 9)]⟩,[]),(⟨some 2,none,.mv (.t 10)⟩,[])])
 (.ret))⟩
theorem c19 : compF Go.Proofs.Tryz.prog 19 = some a19 := by kernel_rfl
def a20 : AFn := ⟨22,[.t 6,.t 7],.seq (.ops [⟨some 3,none,.box 28 (.t 0)⟩,⟨some 5,none,.box 34 (.t 2)⟩,⟨some 6,none,.mv (.c (.lit true 0 []))⟩,⟨some 7,none,.mv (.c (.int .i64 0))⟩])
 (.seq (.ops [⟨some 10,none,.mv (.t 1)⟩,⟨some 11,none,.load (some 2) (.t 5)⟩,⟨some 12,none,.call 68 [(.t 10),(.t 11)]⟩,⟨some 8,none,.alloc 30 [(.lit true 0 [])]⟩,⟨none,none,.store 1 (.t 8) (.t 12)⟩])
 (.seq (.ops [⟨some 13,none,.load (some 2) (.t 3)⟩,⟨some 14,none,.mkfn 70 [(.t 3),(.t 8)]⟩,⟨some 15,none,.call 69 [(.t 13),(.t 14)]⟩,⟨some 9,none,.mv (.t 15)⟩])
 (.seq (.ops [⟨some 16,none,.mv (.t 9)⟩,⟨some 17,none,.mv (.t 1)⟩,⟨some 18,none,.len false (.t 17)⟩,⟨some 19,none,.mv (.t 9)⟩,⟨some 20,none,.len false (.t 19)⟩,⟨some 21,none,.bin 0 .sub (.t 18) (.t 20)⟩,⟨some 6,none,.mv (.t 16)⟩,⟨some 7,none,.mv (.t 21)⟩])
 (.ret))))⟩
theorem c20 : compF Go.Proofs.Tryz.prog 20 = some a20 := by kernel_rfl
def a21 : AFn := ⟨80,[.t 4,.t 5],.seq (.ops [⟨some 2,none,.box 28 (.t 0)⟩,⟨some 4,none,.mv (.c (.lit true 0 []))⟩,⟨some 5,none,.mv (.c (.int .i64 0))⟩])
 (.seq (.ops [⟨some 6,none,.mv (.c (.lit true 0 []))⟩,⟨some 7,none,.mv (.c (.lit true 0 []))⟩])
 (.seq (.ops [⟨some 8,none,.mv (.c (.int .i64 0))⟩])
 (.seq (.seq (.ops [⟨some 14,none,.load (some 2) (.t 2)⟩,⟨some 15,none,.call 73 [(.t 14)]⟩,⟨some 16,none,.len false (.t 15)⟩,⟨some 17,none,.mv (.c (.int .i64 0))⟩])
 (.block 0 (.loop (.seq (.ops [⟨some 18,none,.bin 0 .lss (.t 17) (.t 16)⟩])
 (.seq (.cond (.t 18) (.skip) (.exit 0))
 (.seq (.block 1 (.seq (.ops [⟨some 19,none,.iadr 2 (.t 15) (.t 17)⟩,⟨some 20,none,.load (some 2) (.t 19)⟩,⟨some 10,none,.alloc 34 [(.int .i64 0),(.int .i64 0)]⟩,⟨none,none,.store 2 (.t 10) (.t 20)⟩])
 (.seq (.seq (.ops [⟨some 21,none,.mv (.t 7)⟩,⟨some 22,none,.load (some 2) (.t 10)⟩,⟨some 23,none,.call 72 [(.t 21),(.t 22)]⟩])
 (.cond (.t 23) (.exit 1) (.skip)))
 (.seq (.any [(⟨some 24,none,.fadr 0 (.t 10)⟩,[]),(⟨some 25,none,.load none (.t 24)⟩,[]),(⟨some 26,none,.mv (.t 1)⟩,[0,1]),(⟨some 27,none,.iadr 2 (.t 26) (.c (.int .i64 0))⟩,[0,1]),(⟨some 28,none,.fadr 0 (.t 27)⟩,[0,1]),(⟨some 29,none,.load none (.t 28)⟩,[0,1]),(⟨some 30,none,.bin 0 .sub (.t 25) (.t 29)⟩,[]),(⟨some 31,none,.fadr 1 (.t 10)⟩,[0,1,2,3,4,5,6]),(⟨some 32,none,.load none (.t 31)⟩,[0,1,2,3,4,5,6]),(⟨some 33,none,.mv (.t 1)⟩,[0,1,2,3,4,5,6,7,8]),(⟨some 34,none,.iadr 2 (.t 33) (.c (.int .i64 0))⟩,[0,1,2,3,4,5,6,7,8]),(⟨some 35,none,.fadr 1 (.t 34)⟩,[0,1,2,3,4,5,6,7,8]),(⟨some 36,none,.load none (.t 35)⟩,[0,1,2,3,4,5,6,7,8]),(⟨some 37,none,.bin 0 .sub (.t 32) (.t 36)⟩,[0,1,2,3,4,5,6]),(⟨some 38,none,.build [(.int .i64 0),(.int .i64 0)] [(0,1,(.t 30)),(1,1,(.t 37))]⟩,[]),(⟨some 11,none,.alloc 34 [(.int .i64 0),(.int .i64 0)]⟩,[0,1,2,3,4,5,6,7,8,9,10,11,12,13,14]),(⟨none,none,.store 2 (.t 11) (.t 38)⟩,[])])
 (.seq (.ops [⟨some 39,none,.mv (.t 6)⟩,⟨some 40,none,.load (some 2) (.t 11)⟩,⟨some 41,none,.bslice 34 2 1 [(.int .i64 0),(.int .i64 0)] [(0,2,(.t 40))]⟩,⟨some 42,none,.app 34 2 16 (.t 39) (.t 41)⟩,⟨some 6,none,.mv (.t 42)⟩])
 (.seq (.ops [⟨some 43,none,.mv (.t 1)⟩,⟨some 44,none,.load (some 2) (.t 11)⟩,⟨some 45,none,.call 68 [(.t 43),(.t 44)]⟩,⟨some 46,none,.len false (.t 45)⟩,⟨some 47,none,.mv (.c (.int .i64 0))⟩])
 (.block 2 (.loop (.seq (.ops [⟨some 48,none,.bin 0 .lss (.t 47) (.t 46)⟩])
 (.seq (.cond (.t 48) (.skip) (.exit 2))
 (.seq (.block 3 (.seq (.ops [⟨some 49,none,.iadr 2 (.t 45) (.t 47)⟩,⟨some 50,none,.load (some 2) (.t 49)⟩,⟨some 13,none,.alloc 34 [(.int .i64 0),(.int .i64 0)]⟩,⟨none,none,.store 2 (.t 13) (.t 50)⟩])
 (.seq (.ops [⟨some 51,none,.mv (.t 8)⟩,⟨some 52,none,.mv (.t 7)⟩,⟨some 53,none,.load (some 2) (.t 13)⟩,⟨some 54,none,.call 72 [(.t 52),(.t 53)]⟩,⟨some 55,none,.mv (.t 54)⟩,⟨some 56,(some (55,false)),.load (some 2) (.t 2)⟩,⟨some 57,(some (55,false)),.load (some 2) (.t 13)⟩,⟨some 58,(some (55,false)),.call 75 [(.t 56),(.t 57)]⟩,⟨some 59,none,.pick (.t 55) (.c (.bool true)) (.t 58)⟩,⟨some 60,none,.call 74 [(.t 59)]⟩,⟨some 61,none,.bin 0 .add (.t 51) (.t 60)⟩,⟨some 8,none,.mv (.t 61)⟩])
 (.seq (.ops [⟨some 62,none,.load (some 2) (.t 2)⟩,⟨some 63,none,.load (some 2) (.t 13)⟩,⟨some 64,none,.call 71 [(.t 62),(.t 63)]⟩,⟨some 65,none,.bin 0 .eql (.t 64) (.c (.int .u8 63))⟩,⟨some 66,none,.mv (.t 65)⟩,⟨some 67,(some (66,true)),.mv (.t 7)⟩,⟨some 68,(some (66,true)),.load (some 2) (.t 13)⟩,⟨some 69,(some (66,true)),.call 72 [(.t 67),(.t 68)]⟩,⟨some 70,(some (66,true)),.un .not (.t 69)⟩,⟨some 71,none,.pick (.t 66) (.t 70) (.c (.bool false))⟩])
 (.cond (.t 71) (.ops [⟨some 72,none,.mv (.t 7)⟩,⟨some 73,none,.load (some 2) (.t 13)⟩,⟨some 74,none,.bslice 34 2 1 [(.int .i64 0),(.int .i64 0)] [(0,2,(.t 73))]⟩,⟨some 75,none,.app 34 2 16 (.t 72) (.t 74)⟩,⟨some 7,none,.mv (.t 75)⟩]) (.skip))))))
 (.ops [⟨some 76,none,.bin 0 .add (.t 47) (.c (.int .i64 1))⟩,⟨some 47,none,.mv (.t 76)⟩]))))))))))))
 (.ops [⟨some 77,none,.bin 0 .add (.t 17) (.c (.int .i64 1))⟩,⟨some 17,none,.mv (.t 77)⟩])))))))
 (.seq (.ops [⟨some 78,none,.mv (.t 6)⟩,⟨some 79,none,.mv (.t 8)⟩,⟨some 4,none,.mv (.t 78)⟩,⟨some 5,none,.mv (.t 79)⟩])
 (.ret)))))⟩
theorem c21 : compF Go.Proofs.Tryz.prog 21 = some a21 := by kernel_rfl
def a22 : AFn := ⟨26,[.t 4],.seq (.ops [⟨some 4,none,.mv (.c (.bool false))⟩])
 (.seq (.seq (.ops [⟨some 6,none,.mv (.t 0)⟩,⟨some 7,none,.len false (.t 6)⟩,⟨some 8,none,.mv (.t 1)⟩,⟨some 9,none,.len false (.t 8)⟩,⟨some 10,none,.bin 0 .neq (.t 7) (.t 9)⟩])
 (.cond (.t 10) (.seq (.ops [⟨some 4,none,.mv (.c (.bool false))⟩])
 (.ret)) (.skip)))
 (.seq (.seq (.ops [⟨some 11,none,.mv (.t 0)⟩,⟨some 12,none,.len false (.t 11)⟩,⟨some 13,none,.mv (.c (.int .i64 0))⟩])
 (.block 0 (.loop (.seq (.ops [⟨some 14,none,.bin 0 .lss (.t 13) (.t 12)⟩])
 (.seq (.cond (.t 14) (.skip) (.exit 0))
 (.seq (.block 1 (.seq (.ops [⟨some 15,none,.mv (.t 13)⟩,⟨some 5,none,.mv (.t 15)⟩])
 (.seq (.any [(⟨some 16,none,.mv (.t 0)⟩,[]),(⟨some 17,none,.mv (.t 5)⟩,[0]),(⟨some 18,none,.iadr 2 (.t 16) (.t 17)⟩,[]),(⟨some 19,none,.load (some 2) (.t 18)⟩,[]),(⟨some 20,none,.mv (.t 1)⟩,[0,1,2,3]),(⟨some 21,none,.mv (.t 5)⟩,[0,1,2,3,4]),(⟨some 22,none,.iadr 2 (.t 20) (.t 21)⟩,[0,1,2,3]),(⟨some 23,none,.load (some 2) (.t 22)⟩,[0,1,2,3]),(⟨some 24,none,.eqs true [0,0] (.t 19) (.t 23)⟩,[])])
 (.cond (.t 24) (.seq (.ops [⟨some 4,none,.mv (.c (.bool false))⟩])
 (.ret)) (.skip)))))
 (.ops [⟨some 25,none,.bin 0 .add (.t 13) (.c (.int .i64 1))⟩,⟨some 13,none,.mv (.t 25)⟩])))))))
 (.seq (.ops [⟨some 4,none,.mv (.c (.bool true))⟩])
 (.ret))))⟩
theorem c22 : compF Go.Proofs.Tryz.prog 22 = some a22 := by kernel_rfl
def a23 : AFn := ⟨41,[.t 2,.t 3,.t 4],.seq (.ops [⟨some 1,none,.box 28 (.t 0)⟩,⟨some 2,none,.mv (.c (.lit true 0 []))⟩,⟨some 3,none,.mv (.c (.int .i64 0))⟩,⟨some 4,none,.mv (.c (.int .i64 0))⟩])
 (.seq (.ops [⟨some 9,none,.fadr 0 (.t 1)⟩,⟨some 10,none,.load none (.t 9)⟩,⟨some 11,none,.call 76 [(.t 10),(.c (.str []))]⟩,⟨some 5,none,.mv (.t 11)⟩])
 (.seq (.ops [⟨some 6,none,.mv (.c (.lit true 0 []))⟩])
 (.seq (.seq (.ops [⟨some 12,none,.mv (.c (.int .i64 0))⟩])
 (.block 0 (.loop (.seq (.ops [⟨some 13,none,.bin 0 .lss (.t 12) (.c (.int .i64 36))⟩])
 (.seq (.cond (.t 13) (.skip) (.exit 0))
 (.seq (.block 1 (.seq (.ops [⟨some 14,none,.mv (.t 12)⟩,⟨some 7,none,.mv (.t 14)⟩])
 (.seq (.ops [⟨some 15,none,.mv (.t 5)⟩,⟨some 16,none,.mv (.t 7)⟩,⟨some 17,none,.mv (.t 7)⟩,⟨some 18,none,.bin 0 .add (.t 17) (.c (.int .i64 1))⟩,⟨some 19,none,.sls (.c (.str [48,49,50,51,52,53,54,55,56,57,97,98,99,100,101,102,103,104,105,106,107,108,109,110,111,112,113,114,115,116,117,118,119,120,121,122])) (some (.t 16)) (some (.t 18))⟩,⟨some 20,none,.call 77 [(.t 15),(.t 19)]⟩,⟨some 8,none,.mv (.t 20)⟩])
 (.seq (.ops [⟨some 21,none,.mv (.t 8)⟩,⟨some 22,none,.bin 0 .gtr (.t 21) (.c (.int .i64 0))⟩])
 (.cond (.t 22) (.any [(⟨some 23,none,.mv (.t 6)⟩,[]),(⟨some 24,none,.mv (.t 7)⟩,[0]),(⟨some 25,none,.mv (.t 7)⟩,[0,1]),(⟨some 26,none,.bin 0 .add (.t 25) (.c (.int .i64 1))⟩,[0,1]),(⟨some 27,none,.sls (.c (.str [48,49,50,51,52,53,54,55,56,57,97,98,99,100,101,102,103,104,105,106,107,108,109,110,111,112,113,114,115,116,117,118,119,120,121,122])) (some (.t 24)) (some (.t 26))⟩,[0]),(⟨some 28,none,.mv (.t 8)⟩,[0,1,2,3,4]),(⟨some 29,none,.call 78 [(.t 28)]⟩,[0,1,2,3,4]),(⟨some 30,none,.build [(.str []),(.str [])] [(0,1,(.t 27)),(1,1,(.t 29))]⟩,[0]),(⟨some 31,none,.bslice 78 2 1 [(.str []),(.str [])] [(0,2,(.t 30))]⟩,[0]),(⟨some 32,none,.app 78 2 32 (.t 23) (.t 31)⟩,[]),(⟨some 6,none,.mv (.t 32)⟩,[])]) (.skip))))))
 (.ops [⟨some 33,none,.bin 0 .add (.t 12) (.c (.int .i64 1))⟩,⟨some 12,none,.mv (.t 33)⟩])))))))
 (.seq (.ops [⟨some 34,none,.mv (.t 6)⟩,⟨some 35,none,.call 79 [(.t 34),(.c (.fn 80 []))]⟩])
 (.seq (.ops [⟨some 36,none,.mv (.t 6)⟩,⟨some 37,none,.mv (.t 5)⟩,⟨some 38,none,.call 77 [(.t 37),(.c (.str [42]))]⟩,⟨some 39,none,.mv (.t 5)⟩,⟨some 40,none,.call 77 [(.t 39),(.c (.str [63]))]⟩,⟨some 2,none,.mv (.t 36)⟩,⟨some 3,none,.mv (.t 38)⟩,⟨some 4,none,.mv (.t 40)⟩])
 (.ret))))))⟩
theorem c23 : compF Go.Proofs.Tryz.prog 23 = some a23 := by kernel_rfl
def a24 : AFn := ⟨51,[.t 4,.t 5],.seq (.ops [⟨some 2,none,.box 28 (.t 0)⟩,⟨some 4,none,.mv (.c (.lit true 0 []))⟩,⟨some 5,none,.mv (.c (.bool false))⟩])
 (.seq (.ops [⟨some 12,none,.load (some 2) (.t 2)⟩,⟨some 13,none,.call 73 [(.t 12)]⟩,⟨some 6,none,.mv (.t 13)⟩])
 (.seq (.ops [⟨some 14,none,.load (some 2) (.t 2)⟩,⟨some 15,none,.mv (.t 1)⟩,⟨some 16,none,.mv (.t 6)⟩,⟨some 17,none,.call 82 [(.t 14),(.t 15),(.t 16)]⟩,⟨some 7,none,.mv (.t 17)⟩])
 (.seq (.ops [⟨some 18,none,.mv (.t 7)⟩,⟨some 19,none,.mv (.t 6)⟩,⟨some 20,none,.len false (.t 19)⟩,⟨some 21,none,.call 83 [(.t 18),(.t 20)]⟩,⟨some 8,none,.alloc 22 [(.lit true 0 [])]⟩,⟨none,none,.store 1 (.t 8) (.t 21)⟩])
 (.seq (.ops [⟨some 22,none,.load none (.t 8)⟩,⟨some 23,none,.len false (.t 22)⟩,⟨some 24,none,.bin 0 .sub (.t 23) (.c (.int .i64 1))⟩,⟨some 9,none,.alloc 3 [(.int .i64 0)]⟩,⟨none,none,.store 1 (.t 9) (.t 24)⟩])
 (.seq (.seq (.ops [⟨some 25,none,.load none (.t 8)⟩,⟨some 26,none,.load none (.t 9)⟩,⟨some 27,none,.iadr 1 (.t 25) (.t 26)⟩,⟨some 28,none,.load none (.t 27)⟩,⟨some 29,none,.bin 0 .lss (.t 28) (.c (.int .i64 0))⟩])
 (.cond (.t 29) (.seq (.ops [⟨some 4,none,.mv (.c (.lit true 0 []))⟩,⟨some 5,none,.mv (.c (.bool false))⟩])
 (.ret)) (.skip)))
 (.seq (.ops [⟨some 10,none,.mv (.c (.lit true 0 []))⟩])
 (.seq (.block 0 (.loop (.seq (.seq (.ops [⟨some 30,none,.load none (.t 9)⟩,⟨some 31,none,.bin 0 .gtr (.t 30) (.c (.int .i64 0))⟩])
 (.cond (.t 31) (.skip) (.exit 0)))
 (.block 1 (.seq (.ops [⟨some 32,none,.mv (.t 7)⟩,⟨some 33,none,.mkfn 85 [(.t 9),(.t 8)]⟩,⟨some 34,none,.call 84 [(.t 32),(.t 33)]⟩,⟨some 11,none,.mv (.t 34)⟩])
 (.seq (.ops [⟨some 35,none,.mv (.t 10)⟩,⟨some 36,none,.mv (.t 7)⟩,⟨some 37,none,.mv (.t 11)⟩,⟨some 38,none,.iadr 3 (.t 36) (.t 37)⟩,⟨some 39,none,.fadr 0 (.t 38)⟩,⟨some 40,none,.load (some 2) (.t 39)⟩,⟨some 41,none,.bslice 34 2 1 [(.int .i64 0),(.int .i64 0)] [(0,2,(.t 40))]⟩,⟨some 42,none,.app 34 2 16 (.t 35) (.t 41)⟩,⟨some 10,none,.mv (.t 42)⟩])
 (.any [(⟨some 43,none,.load none (.t 9)⟩,[]),(⟨some 44,none,.mv (.t 7)⟩,[0]),(⟨some 45,none,.mv (.t 11)⟩,[0,1]),(⟨some 46,none,.iadr 3 (.t 44) (.t 45)⟩,[0]),(⟨some 47,none,.fadr 2 (.t 46)⟩,[0]),(⟨some 48,none,.load none (.t 47)⟩,[0]),(⟨some 49,none,.bin 0 .sub (.t 43) (.t 48)⟩,[]),(⟨none,none,.store 1 (.t 9) (.t 49)⟩,[])])))))))
 (.seq (.ops [⟨some 50,none,.mv (.t 10)⟩,⟨some 4,none,.mv (.t 50)⟩,⟨some 5,none,.mv (.c (.bool true))⟩])
 (.ret)))))))))⟩
theorem c24 : compF Go.Proofs.Tryz.prog 24 = some a24 := by kernel_rfl
def a25 : AFn := ⟨15,[.c 2 (some 2)],.seq (.ops [⟨some 2,none,.alloc 28 [(.lit true 0 []),(.str [])]⟩])
 (.seq (.seq (.ops [⟨some 4,none,.mv (.c (.int .i64 0))⟩])
 (.block 0 (.loop (.seq (.ops [⟨some 5,none,.bin 0 .lss (.t 4) (.c (.int .i64 6))⟩])
 (.seq (.cond (.t 5) (.skip) (.exit 0))
 (.seq (.block 1 (.seq (.ops [⟨some 6,none,.mv (.t 0)⟩,⟨some 7,none,.call 10 [(.t 6)]⟩,⟨some 3,none,.alloc 28 [(.lit true 0 []),(.str [])]⟩,⟨none,none,.store 2 (.t 3) (.t 7)⟩])
 (.seq (.ops [⟨some 8,none,.load (some 2) (.t 3)⟩,⟨some 9,none,.call 14 [(.t 8)]⟩,⟨some 10,none,.bin 0 .eql (.t 9) (.c (.int .i64 0))⟩])
 (.cond (.t 10) (.seq (.ops [⟨some 11,none,.load (some 2) (.t 3)⟩,⟨none,none,.store 2 (.t 2) (.t 11)⟩])
 (.ret)) (.skip)))))
 (.ops [⟨some 12,none,.bin 0 .add (.t 4) (.c (.int .i64 1))⟩,⟨some 4,none,.mv (.t 12)⟩])))))))
 (.seq (.ops [⟨some 13,none,.bslice 9 1 1 [(.str [])] [(0,1,(.c (.str [49])))]⟩,⟨some 14,none,.build [(.lit true 0 []),(.str [])] [(0,1,(.t 13)),(1,1,(.c (.str [49])))]⟩,⟨none,none,.store 2 (.t 2) (.t 14)⟩])
 (.ret)))⟩
def a32 : AFn := ⟨72,[.t 2],.seq (.ops [⟨some 1,none,.box 28 (.t 0)⟩,⟨some 2,none,.mv (.c (.int .i64 0))⟩])
 (.seq (.block 0 (.seq (.ops [⟨some 7,none,.fadr 0 (.t 1)⟩,⟨some 8,none,.load none (.t 7)⟩,⟨some 9,none,.len false (.t 8)⟩,⟨some 10,none,.bin 0 .eql (.t 9) (.c (.int .i64 0))⟩,⟨some 6,none,.mv (.t 10)⟩])
 (.cond (.t 6) (.seq (.ops [⟨some 2,none,.mv (.c (.int .i64 8))⟩])
 (.ret)) (.seq (.ops [⟨some 12,none,.fadr 0 (.t 1)⟩,⟨some 13,none,.load none (.t 12)⟩,⟨some 14,none,.len false (.t 13)⟩,⟨some 15,none,.bin 0 .gtr (.t 14) (.c (.int .i64 60))⟩,⟨some 11,none,.mv (.t 15)⟩])
 (.cond (.t 11) (.seq (.ops [⟨some 2,none,.mv (.c (.int .i64 2))⟩])
 (.ret)) (.skip))))))
 (.seq (.seq (.ops [⟨some 16,none,.fadr 0 (.t 1)⟩,⟨some 17,none,.load none (.t 16)⟩,⟨some 18,none,.len false (.t 17)⟩,⟨some 19,none,.mv (.c (.int .i64 0))⟩])
 (.block 1 (.loop (.seq (.ops [⟨some 20,none,.bin 0 .lss (.t 19) (.t 18)⟩])
 (.seq (.cond (.t 20) (.skip) (.exit 1))
 (.seq (.block 2 (.seq (.ops [⟨some 21,none,.iadr 1 (.t 17) (.t 19)⟩,⟨some 22,none,.load none (.t 21)⟩,⟨some 4,none,.mv (.t 22)⟩])
 (.block 3 (.seq (.ops [⟨some 24,none,.mv (.t 4)⟩,⟨some 25,none,.bin 1 .eql (.t 24) (.c (.str []))⟩,⟨some 23,none,.mv (.t 25)⟩])
 (.cond (.t 23) (.seq (.ops [⟨some 2,none,.mv (.c (.int .i64 8))⟩])
 (.ret)) (.seq (.ops [⟨some 27,none,.mv (.t 4)⟩,⟨some 28,none,.len true (.t 27)⟩,⟨some 29,none,.bin 0 .gtr (.t 28) (.c (.int .i64 60))⟩,⟨some 26,none,.mv (.t 29)⟩])
 (.cond (.t 26) (.seq (.ops [⟨some 2,none,.mv (.c (.int .i64 2))⟩])
 (.ret)) (.seq (.ops [⟨some 31,none,.mv (.t 4)⟩,⟨some 32,none,.len true (.t 31)⟩,⟨some 33,none,.fadr 0 (.t 1)⟩,⟨some 34,none,.load none (.t 33)⟩,⟨some 35,none,.iadr 1 (.t 34) (.c (.int .i64 0))⟩,⟨some 36,none,.load none (.t 35)⟩,⟨some 37,none,.len true (.t 36)⟩,⟨some 38,none,.bin 0 .neq (.t 32) (.t 37)⟩,⟨some 30,none,.mv (.t 38)⟩])
 (.cond (.t 30) (.seq (.ops [⟨some 2,none,.mv (.c (.int .i64 3))⟩])
 (.ret)) (.seq (.ops [⟨some 40,none,.mv (.t 4)⟩,⟨some 41,none,.call 100 [(.t 40)]⟩,⟨some 39,none,.mv (.t 41)⟩])
 (.cond (.t 39) (.seq (.ops [⟨some 2,none,.mv (.c (.int .i64 9))⟩])
 (.ret)) (.skip))))))))))))
 (.ops [⟨some 42,none,.bin 0 .add (.t 19) (.c (.int .i64 1))⟩,⟨some 19,none,.mv (.t 42)⟩])))))))
 (.seq (.seq (.ops [⟨some 43,none,.fadr 1 (.t 1)⟩,⟨some 44,none,.load none (.t 43)⟩,⟨some 45,none,.len true (.t 44)⟩,⟨some 46,none,.mv (.c (.int .i64 0))⟩])
 (.block 4 (.loop (.seq (.ops [⟨some 47,none,.bin 0 .lss (.t 46) (.t 45)⟩])
 (.seq (.cond (.t 47) (.skip) (.exit 4))
 (.seq (.block 5 (.seq (.ops [⟨some 48,none,.mv (.t 46)⟩,⟨some 5,none,.mv (.t 48)⟩])
 (.block 6 (.seq (.ops [⟨some 50,none,.fadr 1 (.t 1)⟩,⟨some 51,none,.load none (.t 50)⟩,⟨some 52,none,.mv (.t 5)⟩,⟨some 53,none,.idxs (.t 51) (.t 52)⟩,⟨some 54,none,.call 101 [(.t 53)]⟩,⟨some 55,none,.un .not (.t 54)⟩,⟨some 49,none,.mv (.t 55)⟩])
 (.cond (.t 49) (.seq (.ops [⟨some 2,none,.mv (.c (.int .i64 9))⟩])
 (.ret)) (.seq (.any [(⟨some 57,none,.mv (.t 5)⟩,[]),(⟨some 58,none,.bin 0 .gtr (.t 57) (.c (.int .i64 0))⟩,[]),(⟨some 59,none,.mv (.t 58)⟩,[]),(⟨some 60,(some (59,true)),.fadr 1 (.t 1)⟩,[]),(⟨some 61,(some (59,true)),.load none (.t 60)⟩,[]),(⟨some 62,(some (59,true)),.mv (.t 5)⟩,[3,4]),(⟨some 63,(some (59,true)),.idxs (.t 61) (.t 62)⟩,[]),(⟨some 64,(some (59,true)),.fadr 1 (.t 1)⟩,[3,4,5,6]),(⟨some 65,(some (59,true)),.load none (.t 64)⟩,[3,4,5,6]),(⟨some 66,(some (59,true)),.mv (.t 5)⟩,[3,4,5,6,7,8]),(⟨some 67,(some (59,true)),.bin 0 .sub (.t 66) (.c (.int .i64 1))⟩,[3,4,5,6,7,8]),(⟨some 68,(some (59,true)),.idxs (.t 65) (.t 67)⟩,[3,4,5,6]),(⟨some 69,(some (59,true)),.bin 0 .leq (.t 63) (.t 68)⟩,[]),(⟨some 70,none,.pick (.t 59) (.t 69) (.c (.bool false))⟩,[]),(⟨some 56,none,.mv (.t 70)⟩,[])])
 (.cond (.t 56) (.seq (.ops [⟨some 2,none,.mv (.c (.int .i64 7))⟩])
 (.ret)) (.skip))))))))
 (.ops [⟨some 71,none,.bin 0 .add (.t 46) (.c (.int .i64 1))⟩,⟨some 46,none,.mv (.t 71)⟩])))))))
 (.seq (.ops [⟨some 2,none,.mv (.c (.int .i64 0))⟩])
 (.ret)))))⟩
theorem c32 : compF Go.Proofs.Tryz.prog 32 = some a32 := by kernel_rfl
def a34 : AFn := ⟨27,[.c 2 (some 2),.t 3,.t 4],.seq (.ops [⟨some 1,none,.box 28 (.t 0)⟩,⟨some 2,none,.alloc 67 [(.int .i64 0),(.int .i64 0)]⟩,⟨some 3,none,.mv (.c (.bool false))⟩,⟨some 4,none,.mv (.c (.int .i64 0))⟩])
 (.seq (.seq (.ops [⟨some 8,none,.load (some 2) (.t 1)⟩,⟨some 9,none,.call 32 [(.t 8)]⟩,⟨some 5,none,.mv (.t 9)⟩])
 (.seq (.ops [⟨some 10,none,.mv (.t 5)⟩,⟨some 11,none,.bin 0 .neq (.t 10) (.c (.int .i64 0))⟩])
 (.cond (.t 11) (.seq (.ops [⟨some 12,none,.build [(.int .i64 0),(.int .i64 0)] []⟩,⟨some 13,none,.mv (.t 5)⟩,⟨none,none,.store 2 (.t 2) (.t 12)⟩,⟨some 3,none,.mv (.c (.bool false))⟩,⟨some 4,none,.mv (.t 13)⟩])
 (.ret)) (.skip))))
 (.seq (.any [(⟨some 15,none,.load (some 2) (.t 1)⟩,[]),(⟨some 16,none,.load (some 2) (.t 1)⟩,[0]),(⟨some 17,none,.call 59 [(.t 16)]⟩,[0]),(⟨some 18,none,.call 102 [(.t 15),(.t 17)]⟩,[]),(⟨some 14,none,.mv (.t 18)⟩,[]),(⟨some 19,none,.ext (.t 14) 0⟩,[]),(⟨some 20,none,.ext (.t 14) 1⟩,[5]),(⟨some 6,none,.mv (.t 19)⟩,[6]),(⟨some 7,none,.mv (.t 20)⟩,[])])
 (.seq (.seq (.ops [⟨some 21,none,.mv (.t 7)⟩,⟨some 22,none,.bin 0 .eql (.t 21) (.c (.int .i64 0))⟩])
 (.cond (.t 22) (.seq (.ops [⟨some 23,none,.build [(.int .i64 0),(.int .i64 0)] []⟩,⟨none,none,.store 2 (.t 2) (.t 23)⟩,⟨some 3,none,.mv (.c (.bool false))⟩,⟨some 4,none,.mv (.c (.int .i64 0))⟩])
 (.ret)) (.skip)))
 (.seq (.ops [⟨some 24,none,.mv (.t 6)⟩,⟨some 25,none,.mv (.t 7)⟩,⟨some 26,none,.call 103 [(.t 24),(.t 25)]⟩,⟨none,none,.store 2 (.t 2) (.t 26)⟩,⟨some 3,none,.mv (.c (.bool true))⟩,⟨some 4,none,.mv (.c (.int .i64 0))⟩])
 (.ret)))))⟩
theorem c34 : compF Go.Proofs.Tryz.prog 34 = some a34 := by kernel_rfl
def a42 : AFn := ⟨19,[.t 6],.seq (.ops [⟨some 6,none,.mv (.c (.int .i64 0))⟩])
 (.seq (.seq (.ops [⟨some 7,none,.mv (.t 2)⟩,⟨some 8,none,.mv (.t 1)⟩,⟨some 9,none,.bin 0 .lss (.t 7) (.t 8)⟩])
 (.cond (.t 9) (.seq (.ops [⟨some 10,none,.mv (.t 1)⟩,⟨some 6,none,.mv (.t 10)⟩])
 (.ret)) (.skip)))
 (.seq (.ops [⟨some 11,none,.mv (.t 1)⟩,⟨some 12,none,.mv (.t 0)⟩,⟨some 13,none,.mv (.t 2)⟩,⟨some 14,none,.mv (.t 1)⟩,⟨some 15,none,.bin 0 .sub (.t 13) (.t 14)⟩,⟨some 16,none,.bin 0 .add (.t 15) (.c (.int .i64 1))⟩,⟨some 17,none,.call 45 [(.t 12),(.t 16)]⟩,⟨some 18,none,.bin 0 .add (.t 11) (.t 17)⟩,⟨some 6,none,.mv (.t 18)⟩])
 (.ret)))⟩
theorem c42 : compF Go.Proofs.Tryz.prog 42 = some a42 := by kernel_rfl
def a43 : AFn := ⟨12,[.t 4],.seq (.ops [⟨some 4,none,.mv (.c (.str []))⟩])
 (.seq (.ops [⟨some 5,none,.mv (.t 1)⟩,⟨some 6,none,.mv (.t 0)⟩,⟨some 7,none,.mv (.t 1)⟩,⟨some 8,none,.len false (.t 7)⟩,⟨some 9,none,.call 45 [(.t 6),(.t 8)]⟩,⟨some 10,none,.iadr 1 (.t 5) (.t 9)⟩,⟨some 11,none,.load none (.t 10)⟩,⟨some 4,none,.mv (.t 11)⟩])
 (.ret))⟩
theorem c43 : compF Go.Proofs.Tryz.prog 43 = some a43 := by kernel_rfl
def a44 : AFn := ⟨8,[.t 2],.seq (.ops [⟨some 2,none,.mv (.c (.lit true 0 []))⟩])
 (.seq (.seq (.ops [⟨some 3,none,.mv (.t 0)⟩,⟨some 4,none,.bin 3 .eql (.t 3) (.c (.lit true 0 []))⟩])
 (.cond (.t 4) (.seq (.ops [⟨some 2,none,.mv (.c (.lit true 0 []))⟩])
 (.ret)) (.skip)))
 (.seq (.ops [⟨some 5,none,.bslice 34 2 0 [(.int .i64 0),(.int .i64 0)] []⟩,⟨some 6,none,.mv (.t 0)⟩,⟨some 7,none,.app 34 2 16 (.t 5) (.t 6)⟩,⟨some 2,none,.mv (.t 7)⟩])
 (.ret)))⟩
theorem c44 : compF Go.Proofs.Tryz.prog 44 = some a44 := by kernel_rfl
def a45 : AFn := ⟨64,[.t 4],.seq (.ops [⟨some 4,none,.mv (.c (.int .i64 0))⟩])
 (.seq (.ops [⟨some 7,none,.mv (.t 0)⟩,⟨some 8,none,.nilchk (.t 7)⟩,⟨some 9,none,.fadr 1 (.t 8)⟩,⟨some 10,none,.load none (.t 9)⟩,⟨some 11,none,.bin 0 .add (.t 10) (.c (.int .i64 1))⟩,⟨some 12,none,.nilchk (.t 7)⟩,⟨some 13,none,.fadr 1 (.t 12)⟩,⟨none,none,.store 1 (.t 13) (.t 11)⟩])
 (.seq (.seq (.ops [⟨some 14,none,.mv (.t 0)⟩,⟨some 15,none,.nilchk (.t 14)⟩,⟨some 16,none,.fadr 0 (.t 15)⟩,⟨some 17,none,.load none (.t 16)⟩,⟨some 18,none,.len false (.t 17)⟩,⟨some 19,none,.bin 0 .eql (.t 18) (.c (.int .i64 0))⟩])
 (.cond (.t 19) (.seq (.ops [⟨some 20,none,.mv (.t 0)⟩,⟨some 21,none,.nilchk (.t 20)⟩,⟨some 22,none,.fadr 1 (.t 21)⟩,⟨some 23,none,.load none (.t 22)⟩,⟨some 24,none,.bin 0 .mul (.t 23) (.c (.int .i64 7919))⟩,⟨some 25,none,.mv (.t 1)⟩,⟨some 26,none,.call 117 [(.t 24),(.t 25)]⟩,⟨some 4,none,.mv (.t 26)⟩])
 (.ret)) (.skip)))
 (.seq (.any [(⟨some 27,none,.mv (.t 0)⟩,[]),(⟨some 28,none,.nilchk (.t 27)⟩,[]),(⟨some 29,none,.fadr 1 (.t 28)⟩,[]),(⟨some 30,none,.load none (.t 29)⟩,[]),(⟨some 31,none,.bin 0 .sub (.t 30) (.c (.int .i64 1))⟩,[]),(⟨some 32,none,.mv (.t 0)⟩,[0,1,2,3,4]),(⟨some 33,none,.nilchk (.t 32)⟩,[0,1,2,3,4]),(⟨some 34,none,.fadr 0 (.t 33)⟩,[0,1,2,3,4]),(⟨some 35,none,.load none (.t 34)⟩,[0,1,2,3,4]),(⟨some 36,none,.len false (.t 35)⟩,[0,1,2,3,4]),(⟨some 37,none,.bin 0 .rem (.t 31) (.t 36)⟩,[]),(⟨some 5,none,.mv (.t 37)⟩,[])])
 (.seq (.any [(⟨some 38,none,.mv (.t 0)⟩,[]),(⟨some 39,none,.nilchk (.t 38)⟩,[]),(⟨some 40,none,.fadr 1 (.t 39)⟩,[]),(⟨some 41,none,.load none (.t 40)⟩,[]),(⟨some 42,none,.bin 0 .sub (.t 41) (.c (.int .i64 1))⟩,[]),(⟨some 43,none,.mv (.t 0)⟩,[0,1,2,3,4]),(⟨some 44,none,.nilchk (.t 43)⟩,[0,1,2,3,4]),(⟨some 45,none,.fadr 0 (.t 44)⟩,[0,1,2,3,4]),(⟨some 46,none,.load none (.t 45)⟩,[0,1,2,3,4]),(⟨some 47,none,.len false (.t 46)⟩,[0,1,2,3,4]),(⟨some 48,none,.bin 0 .quo (.t 42) (.t 47)⟩,[]),(⟨some 6,none,.mv (.t 48)⟩,[])])
 (.seq (.ops [⟨some 49,none,.mv (.t 0)⟩,⟨some 50,none,.nilchk (.t 49)⟩,⟨some 51,none,.fadr 0 (.t 50)⟩,⟨some 52,none,.load none (.t 51)⟩,⟨some 53,none,.mv (.t 5)⟩,⟨some 54,none,.iadr 1 (.t 52) (.t 53)⟩,⟨some 55,none,.load none (.t 54)⟩,⟨some 56,none,.call 117 [(.t 55),(.c (.int .i64 1073741824))]⟩,⟨some 57,none,.mv (.t 6)⟩,⟨some 58,none,.mv (.t 5)⟩,⟨some 59,none,.bin 0 .add (.c (.int .i64 7919)) (.t 58)⟩,⟨some 60,none,.bin 0 .mul (.t 57) (.t 59)⟩,⟨some 61,none,.bin 0 .add (.t 56) (.t 60)⟩,⟨some 62,none,.mv (.t 1)⟩,⟨some 63,none,.call 117 [(.t 61),(.t 62)]⟩,⟨some 4,none,.mv (.t 63)⟩])
 (.ret))))))⟩
theorem c45 : compF Go.Proofs.Tryz.prog 45 = some a45 := by kernel_rfl
def a46 : AFn := ⟨15,[.t 6],.seq (.ops [⟨some 6,none,.mv (.c (.bool false))⟩])
 (.seq (.ops [⟨some 7,none,.mv (.t 0)⟩,⟨some 8,none,.mv (.t 1)⟩,⟨some 9,none,.bin 0 .lss (.t 7) (.t 8)⟩,⟨some 10,none,.mv (.t 9)⟩,⟨some 11,(some (10,false)),.mv (.t 0)⟩,⟨some 12,(some (10,false)),.mv (.t 2)⟩,⟨some 13,(some (10,false)),.bin 0 .gtr (.t 11) (.t 12)⟩,⟨some 14,none,.pick (.t 10) (.c (.bool true)) (.t 13)⟩,⟨some 6,none,.mv (.t 14)⟩])
 (.ret))⟩
theorem c46 : compF Go.Proofs.Tryz.prog 46 = some a46 := by kernel_rfl
def a47 : AFn := ⟨17,[.t 4],.seq (.ops [⟨some 2,none,.box 34 (.t 0)⟩,⟨some 3,none,.box 34 (.t 1)⟩,⟨some 4,none,.mv (.c (.int .i64 0))⟩])
 (.seq (.any [(⟨some 5,none,.fadr 1 (.t 2)⟩,[]),(⟨some 6,none,.load none (.t 5)⟩,[]),(⟨some 7,none,.fadr 1 (.t 3)⟩,[0,1]),(⟨some 8,none,.load none (.t 7)⟩,[0,1]),(⟨some 9,none,.call 119 [(.t 6),(.t 8)]⟩,[]),(⟨some 10,none,.fadr 0 (.t 2)⟩,[0,1,2,3,4]),(⟨some 11,none,.load none (.t 10)⟩,[0,1,2,3,4]),(⟨some 12,none,.fadr 0 (.t 3)⟩,[0,1,2,3,4,5,6]),(⟨some 13,none,.load none (.t 12)⟩,[0,1,2,3,4,5,6]),(⟨some 14,none,.call 119 [(.t 11),(.t 13)]⟩,[]),(⟨some 15,none,.bslice 3 1 2 [(.int .i64 0)] [(0,1,(.t 9)),(1,1,(.t 14))]⟩,[]),(⟨some 16,none,.call 118 [(.t 15)]⟩,[]),(⟨some 4,none,.mv (.t 16)⟩,[])])
 (.ret))⟩
theorem c47 : compF Go.Proofs.Tryz.prog 47 = some a47 := by kernel_rfl
def a48 : AFn := ⟨15,[.t 6],.seq (.ops [⟨some 6,none,.mv (.c (.bool false))⟩])
 (.seq (.ops [⟨some 7,none,.mv (.t 1)⟩,⟨some 8,none,.mv (.t 0)⟩,⟨some 9,none,.bin 0 .leq (.t 7) (.t 8)⟩,⟨some 10,none,.mv (.t 9)⟩,⟨some 11,(some (10,true)),.mv (.t 0)⟩,⟨some 12,(some (10,true)),.mv (.t 2)⟩,⟨some 13,(some (10,true)),.bin 0 .leq (.t 11) (.t 12)⟩,⟨some 14,none,.pick (.t 10) (.t 13) (.c (.bool false))⟩,⟨some 6,none,.mv (.t 14)⟩])
 (.ret))⟩
theorem c48 : compF Go.Proofs.Tryz.prog 48 = some a48 := by kernel_rfl
def a49 : AFn := ⟨17,[.t 4],.seq (.ops [⟨some 2,none,.box 34 (.t 0)⟩,⟨some 3,none,.box 34 (.t 1)⟩,⟨some 4,none,.mv (.c (.int .i64 0))⟩])
 (.seq (.any [(⟨some 5,none,.fadr 1 (.t 2)⟩,[]),(⟨some 6,none,.load none (.t 5)⟩,[]),(⟨some 7,none,.fadr 1 (.t 3)⟩,[0,1]),(⟨some 8,none,.load none (.t 7)⟩,[0,1]),(⟨some 9,none,.call 119 [(.t 6),(.t 8)]⟩,[]),(⟨some 10,none,.fadr 0 (.t 2)⟩,[0,1,2,3,4]),(⟨some 11,none,.load none (.t 10)⟩,[0,1,2,3,4]),(⟨some 12,none,.fadr 0 (.t 3)⟩,[0,1,2,3,4,5,6]),(⟨some 13,none,.load none (.t 12)⟩,[0,1,2,3,4,5,6]),(⟨some 14,none,.call 119 [(.t 11),(.t 13)]⟩,[]),(⟨some 15,none,.bslice 3 1 2 [(.int .i64 0)] [(0,1,(.t 9)),(1,1,(.t 14))]⟩,[]),(⟨some 16,none,.call 118 [(.t 15)]⟩,[]),(⟨some 4,none,.mv (.t 16)⟩,[])])
 (.ret))⟩
theorem c49 : compF Go.Proofs.Tryz.prog 49 = some a49 := by kernel_rfl
def a50 : AFn := ⟨9,[.t 4],.seq (.ops [⟨some 4,none,.mv (.c (.bool false))⟩])
 (.seq (.ops [⟨some 5,none,.mv (.t 0)⟩,⟨some 6,none,.mv (.t 1)⟩,⟨some 7,none,.call 120 [(.t 5),(.t 6)]⟩,⟨some 8,none,.bin 0 .geq (.t 7) (.c (.int .i64 0))⟩,⟨some 4,none,.mv (.t 8)⟩])
 (.ret))⟩
theorem c50 : compF Go.Proofs.Tryz.prog 50 = some a50 := by kernel_rfl
def a51 : AFn := ⟨6,[.t 2],.seq (.ops [⟨some 2,none,.mv (.c (.bool false))⟩])
 (.seq (.ops [⟨some 3,none,.mv (.t 0)⟩,⟨some 4,none,.call 52 [(.t 3)]⟩,⟨some 5,none,.un .not (.t 4)⟩,⟨some 2,none,.mv (.t 5)⟩])
 (.ret))⟩
theorem c51 : compF Go.Proofs.Tryz.prog 51 = some a51 := by kernel_rfl
def a52 : AFn := ⟨18,[.t 2],.seq (.ops [⟨some 2,none,.mv (.c (.bool false))⟩])
 (.seq (.ops [⟨some 3,none,.mv (.t 0)⟩,⟨some 4,none,.call 121 [(.c (.str [48,49,50,51,52,53,54,55,56,57,97,98,99,100,101,102,103,104,105,106,107,108,109,110,111,112,113,114,115,116,117,118,119,120,121,122])),(.t 3)]⟩,⟨some 5,none,.bin 0 .geq (.t 4) (.c (.int .i64 0))⟩,⟨some 6,none,.mv (.t 5)⟩,⟨some 7,(some (6,false)),.mv (.t 0)⟩,⟨some 8,(some (6,false)),.bin 0 .eql (.t 7) (.c (.int .u8 46))⟩,⟨some 9,none,.pick (.t 6) (.c (.bool true)) (.t 8)⟩,⟨some 10,none,.mv (.t 9)⟩,⟨some 11,(some (10,false)),.mv (.t 0)⟩,⟨some 12,(some (10,false)),.bin 0 .eql (.t 11) (.c (.int .u8 63))⟩,⟨some 13,none,.pick (.t 10) (.c (.bool true)) (.t 12)⟩,⟨some 14,none,.mv (.t 13)⟩,⟨some 15,(some (14,false)),.mv (.t 0)⟩,⟨some 16,(some (14,false)),.bin 0 .eql (.t 15) (.c (.int .u8 42))⟩,⟨some 17,none,.pick (.t 14) (.c (.bool true)) (.t 16)⟩,⟨some 2,none,.mv (.t 17)⟩])
 (.ret))⟩
theorem c52 : compF Go.Proofs.Tryz.prog 52 = some a52 := by kernel_rfl
def a53 : AFn := ⟨29,[.t 2],.seq (.ops [⟨some 2,none,.mv (.c (.int .i64 0))⟩])
 (.seq (.seq (.ops [⟨some 4,none,.mv (.t 0)⟩,⟨some 5,none,.len true (.t 4)⟩,⟨some 6,none,.mv (.c (.int .i64 0))⟩])
 (.block 0 (.loop (.seq (.ops [⟨some 7,none,.bin 0 .lss (.t 6) (.t 5)⟩])
 (.seq (.cond (.t 7) (.skip) (.exit 0))
 (.seq (.block 1 (.seq (.ops [⟨some 8,none,.mv (.t 6)⟩,⟨some 3,none,.mv (.t 8)⟩])
 (.block 2 (.seq (.ops [⟨some 10,none,.mv (.t 0)⟩,⟨some 11,none,.mv (.t 3)⟩,⟨some 12,none,.idxs (.t 10) (.t 11)⟩,⟨some 13,none,.call 121 [(.c (.str [48,49,50,51,52,53,54,55,56,57,97,98,99,100,101,102,103,104,105,106,107,108,109,110,111,112,113,114,115,116,117,118,119,120,121,122])),(.t 12)]⟩,⟨some 14,none,.bin 0 .lss (.t 13) (.c (.int .i64 0))⟩,⟨some 9,none,.mv (.t 14)⟩])
 (.cond (.t 9) (.seq (.ops [⟨some 2,none,.mv (.c (.int .i64 9))⟩])
 (.ret)) (.seq (.any [(⟨some 16,none,.mv (.t 3)⟩,[]),(⟨some 17,none,.bin 0 .gtr (.t 16) (.c (.int .i64 0))⟩,[]),(⟨some 18,none,.mv (.t 17)⟩,[]),(⟨some 19,(some (18,true)),.mv (.t 0)⟩,[]),(⟨some 20,(some (18,true)),.mv (.t 3)⟩,[3]),(⟨some 21,(some (18,true)),.idxs (.t 19) (.t 20)⟩,[]),(⟨some 22,(some (18,true)),.mv (.t 0)⟩,[3,4,5]),(⟨some 23,(some (18,true)),.mv (.t 3)⟩,[3,4,5,6]),(⟨some 24,(some (18,true)),.bin 0 .sub (.t 23) (.c (.int .i64 1))⟩,[3,4,5,6]),(⟨some 25,(some (18,true)),.idxs (.t 22) (.t 24)⟩,[3,4,5]),(⟨some 26,(some (18,true)),.bin 0 .leq (.t 21) (.t 25)⟩,[]),(⟨some 27,none,.pick (.t 18) (.t 26) (.c (.bool false))⟩,[]),(⟨some 15,none,.mv (.t 27)⟩,[])])
 (.cond (.t 15) (.seq (.ops [⟨some 2,none,.mv (.c (.int .i64 7))⟩])
 (.ret)) (.skip))))))))
 (.ops [⟨some 28,none,.bin 0 .add (.t 6) (.c (.int .i64 1))⟩,⟨some 6,none,.mv (.t 28)⟩])))))))
 (.seq (.ops [⟨some 2,none,.mv (.c (.int .i64 0))⟩])
 (.ret)))⟩
theorem c53 : compF Go.Proofs.Tryz.prog 53 = some a53 := by kernel_rfl
def a54 : AFn := ⟨11,[.t 4],.seq (.ops [⟨some 2,none,.box 28 (.t 0)⟩,⟨some 4,none,.mv (.c (.int .i64 0))⟩])
 (.seq (.ops [⟨some 5,none,.load (some 2) (.t 2)⟩,⟨some 6,none,.call 32 [(.t 5)]⟩,⟨some 7,none,.mv (.t 1)⟩,⟨some 8,none,.call 11 [(.t 7)]⟩,⟨some 9,none,.bslice 36 1 2 [(.int .i64 0)] [(0,1,(.t 6)),(1,1,(.t 8))]⟩,⟨some 10,none,.call 122 [(.t 9)]⟩,⟨some 4,none,.mv (.t 10)⟩])
 (.ret))⟩
theorem c54 : compF Go.Proofs.Tryz.prog 54 = some a54 := by kernel_rfl
def a55 : AFn := ⟨42,[.t 4],.seq (.ops [⟨some 4,none,.mv (.c (.lit true 0 []))⟩])
 (.seq (.ops [⟨some 8,none,.mv (.t 0)⟩,⟨some 9,none,.mv (.t 1)⟩,⟨some 10,none,.call 123 [(.t 8),(.t 9)]⟩,⟨some 5,none,.mv (.t 10)⟩])
 (.seq (.seq (.ops [⟨some 11,none,.mv (.t 5)⟩,⟨some 12,none,.bin 0 .eql (.t 11) (.c (.int .i64 (-1)))⟩])
 (.cond (.t 12) (.seq (.ops [⟨some 13,none,.mv (.t 0)⟩,⟨some 4,none,.mv (.t 13)⟩])
 (.ret)) (.skip)))
 (.seq (.seq (.ops [⟨some 14,none,.mv (.t 5)⟩,⟨some 15,none,.bin 0 .add (.t 14) (.c (.int .i64 1))⟩,⟨some 6,none,.mv (.t 15)⟩])
 (.block 0 (.loop (.seq (.seq (.ops [⟨some 16,none,.mv (.t 6)⟩,⟨some 17,none,.mv (.t 0)⟩,⟨some 18,none,.len false (.t 17)⟩,⟨some 19,none,.bin 0 .lss (.t 16) (.t 18)⟩])
 (.cond (.t 19) (.skip) (.exit 0)))
 (.seq (.block 1 (.seq (.ops [⟨some 22,none,.mv (.t 0)⟩,⟨some 23,none,.mv (.t 6)⟩,⟨some 24,none,.iadr 2 (.t 22) (.t 23)⟩,⟨some 25,none,.load (some 2) (.t 24)⟩,⟨some 7,none,.alloc 34 [(.int .i64 0),(.int .i64 0)]⟩,⟨none,none,.store 2 (.t 7) (.t 25)⟩])
 (.seq (.ops [⟨some 26,none,.mv (.t 1)⟩,⟨some 27,none,.load (some 2) (.t 7)⟩,⟨some 28,none,.callv (.t 26) [(.t 27)]⟩,⟨some 29,none,.un .not (.t 28)⟩])
 (.cond (.t 29) (.seq (.ops [⟨some 30,none,.mv (.t 0)⟩,⟨some 31,none,.mv (.t 5)⟩,⟨some 32,none,.load (some 2) (.t 7)⟩,⟨some 33,none,.iadr 2 (.t 30) (.t 31)⟩,⟨none,none,.store 2 (.t 33) (.t 32)⟩])
 (.ops [⟨some 34,none,.mv (.t 5)⟩,⟨some 35,none,.bin 0 .add (.t 34) (.c (.int .i64 1))⟩,⟨some 5,none,.mv (.t 35)⟩])) (.skip)))))
 (.ops [⟨some 20,none,.mv (.t 6)⟩,⟨some 21,none,.bin 0 .add (.t 20) (.c (.int .i64 1))⟩,⟨some 6,none,.mv (.t 21)⟩]))))))
 (.seq (.ops [⟨some 36,none,.mv (.t 0)⟩,⟨some 37,none,.mv (.t 5)⟩,⟨some 38,none,.slc 2 (.t 36) (some (.t 37)) none⟩,⟨none,none,.clr [(.int .i64 0),(.int .i64 0)] (.t 38)⟩])
 (.seq (.ops [⟨some 39,none,.mv (.t 0)⟩,⟨some 40,none,.mv (.t 5)⟩,⟨some 41,none,.slc 2 (.t 39) none (some (.t 40))⟩,⟨some 4,none,.mv (.t 41)⟩])
 (.ret))))))⟩
theorem c55 : compF Go.Proofs.Tryz.prog 55 = some a55 := by kernel_rfl
def a56 : AFn := ⟨30,[.t 4],.seq (.ops [⟨some 3,none,.box 34 (.t 1)⟩,⟨some 4,none,.mv (.c (.lit true 0 []))⟩])
 (.seq (.ops [⟨some 5,none,.mv (.c (.lit true 0 []))⟩])
 (.seq (.seq (.ops [⟨some 8,none,.mv (.t 0)⟩,⟨some 9,none,.len false (.t 8)⟩,⟨some 10,none,.mv (.c (.int .i64 0))⟩])
 (.block 0 (.loop (.seq (.ops [⟨some 11,none,.bin 0 .lss (.t 10) (.t 9)⟩])
 (.seq (.cond (.t 11) (.skip) (.exit 0))
 (.seq (.block 1 (.seq (.ops [⟨some 12,none,.iadr 2 (.t 8) (.t 10)⟩,⟨some 13,none,.load (some 2) (.t 12)⟩,⟨some 7,none,.alloc 34 [(.int .i64 0),(.int .i64 0)]⟩,⟨none,none,.store 2 (.t 7) (.t 13)⟩])
 (.ops [⟨some 14,none,.mv (.t 5)⟩,⟨some 15,none,.fadr 0 (.t 3)⟩,⟨some 16,none,.load none (.t 15)⟩,⟨some 17,none,.fadr 0 (.t 7)⟩,⟨some 18,none,.load none (.t 17)⟩,⟨some 19,none,.bin 0 .add (.t 16) (.t 18)⟩,⟨some 20,none,.fadr 1 (.t 3)⟩,⟨some 21,none,.load none (.t 20)⟩,⟨some 22,none,.fadr 1 (.t 7)⟩,⟨some 23,none,.load none (.t 22)⟩,⟨some 24,none,.bin 0 .add (.t 21) (.t 23)⟩,⟨some 25,none,.build [(.int .i64 0),(.int .i64 0)] [(0,1,(.t 19)),(1,1,(.t 24))]⟩,⟨some 26,none,.bslice 34 2 1 [(.int .i64 0),(.int .i64 0)] [(0,2,(.t 25))]⟩,⟨some 27,none,.app 34 2 16 (.t 14) (.t 26)⟩,⟨some 5,none,.mv (.t 27)⟩])))
 (.ops [⟨some 28,none,.bin 0 .add (.t 10) (.c (.int .i64 1))⟩,⟨some 10,none,.mv (.t 28)⟩])))))))
 (.seq (.ops [⟨some 29,none,.mv (.t 5)⟩,⟨some 4,none,.mv (.t 29)⟩])
 (.ret))))⟩
theorem c56 : compF Go.Proofs.Tryz.prog 56 = some a56 := by kernel_rfl
def a57 : AFn := ⟨8,[.t 3],.seq (.ops [⟨some 2,none,.box 34 (.t 0)⟩,⟨some 3,none,.mv (.c (.bool false))⟩])
 (.seq (.ops [⟨some 4,none,.load (some 2) (.t 1)⟩,⟨some 5,none,.load (some 2) (.t 2)⟩,⟨some 6,none,.call 58 [(.t 4),(.t 5)]⟩,⟨some 7,none,.un .not (.t 6)⟩,⟨some 3,none,.mv (.t 7)⟩])
 (.ret))⟩
theorem c57 : compF Go.Proofs.Tryz.prog 57 = some a57 := by kernel_rfl
def a58 : AFn := ⟨9,[.t 4],.seq (.ops [⟨some 2,none,.box 28 (.t 0)⟩,⟨some 3,none,.box 34 (.t 1)⟩,⟨some 4,none,.mv (.c (.bool false))⟩])
 (.seq (.ops [⟨some 5,none,.load (some 2) (.t 2)⟩,⟨some 6,none,.load (some 2) (.t 3)⟩,⟨some 7,none,.call 60 [(.t 5),(.t 6)]⟩,⟨some 8,none,.bin 0 .eql (.t 7) (.c (.int .u8 63))⟩,⟨some 4,none,.mv (.t 8)⟩])
 (.ret))⟩
theorem c58 : compF Go.Proofs.Tryz.prog 58 = some a58 := by kernel_rfl
def a59 : AFn := ⟨29,[.t 2],.seq (.ops [⟨some 1,none,.box 28 (.t 0)⟩,⟨some 2,none,.mv (.c (.lit true 0 []))⟩])
 (.seq (.ops [⟨some 3,none,.mv (.c (.lit true 0 []))⟩])
 (.seq (.seq (.ops [⟨some 7,none,.fadr 0 (.t 1)⟩,⟨some 8,none,.load none (.t 7)⟩,⟨some 9,none,.len false (.t 8)⟩,⟨some 10,none,.mv (.c (.int .i64 0))⟩])
 (.block 0 (.loop (.seq (.ops [⟨some 11,none,.bin 0 .lss (.t 10) (.t 9)⟩])
 (.seq (.cond (.t 11) (.skip) (.exit 0))
 (.seq (.block 1 (.seq (.ops [⟨some 12,none,.mv (.t 10)⟩,⟨some 13,none,.iadr 1 (.t 8) (.t 10)⟩,⟨some 14,none,.load none (.t 13)⟩,⟨some 4,none,.mv (.t 12)⟩,⟨some 5,none,.mv (.t 14)⟩])
 (.seq (.ops [⟨some 15,none,.mv (.t 5)⟩,⟨some 16,none,.len true (.t 15)⟩,⟨some 17,none,.mv (.c (.int .i64 0))⟩])
 (.block 2 (.loop (.seq (.ops [⟨some 18,none,.bin 0 .lss (.t 17) (.t 16)⟩])
 (.seq (.cond (.t 18) (.skip) (.exit 2))
 (.seq (.block 3 (.seq (.ops [⟨some 19,none,.mv (.t 17)⟩,⟨some 6,none,.mv (.t 19)⟩])
 (.ops [⟨some 20,none,.mv (.t 3)⟩,⟨some 21,none,.mv (.t 6)⟩,⟨some 22,none,.mv (.t 4)⟩,⟨some 23,none,.build [(.int .i64 0),(.int .i64 0)] [(0,1,(.t 21)),(1,1,(.t 22))]⟩,⟨some 24,none,.bslice 34 2 1 [(.int .i64 0),(.int .i64 0)] [(0,2,(.t 23))]⟩,⟨some 25,none,.app 34 2 16 (.t 20) (.t 24)⟩,⟨some 3,none,.mv (.t 25)⟩])))
 (.ops [⟨some 26,none,.bin 0 .add (.t 17) (.c (.int .i64 1))⟩,⟨some 17,none,.mv (.t 26)⟩])))))))))
 (.ops [⟨some 27,none,.bin 0 .add (.t 10) (.c (.int .i64 1))⟩,⟨some 10,none,.mv (.t 27)⟩])))))))
 (.seq (.ops [⟨some 28,none,.mv (.t 3)⟩,⟨some 2,none,.mv (.t 28)⟩])
 (.ret))))⟩
theorem c59 : compF Go.Proofs.Tryz.prog 59 = some a59 := by kernel_rfl
def a60 : AFn := ⟨32,[.t 4],.seq (.ops [⟨some 2,none,.box 28 (.t 0)⟩,⟨some 3,none,.box 34 (.t 1)⟩,⟨some 4,none,.mv (.c (.int .u8 0))⟩])
 (.seq (.seq (.any [(⟨some 5,none,.fadr 1 (.t 3)⟩,[]),(⟨some 6,none,.load none (.t 5)⟩,[]),(⟨some 7,none,.fadr 0 (.t 2)⟩,[0,1]),(⟨some 8,none,.load none (.t 7)⟩,[0,1]),(⟨some 9,none,.len false (.t 8)⟩,[0,1]),(⟨some 10,none,.bin 0 .sub (.t 9) (.c (.int .i64 1))⟩,[0,1]),(⟨some 11,none,.call 46 [(.t 6),(.c (.int .i64 0)),(.t 10)]⟩,[]),(⟨some 12,none,.mv (.t 11)⟩,[]),(⟨some 13,(some (12,false)),.fadr 0 (.t 3)⟩,[]),(⟨some 14,(some (12,false)),.load none (.t 13)⟩,[]),(⟨some 15,(some (12,false)),.fadr 0 (.t 2)⟩,[8,9]),(⟨some 16,(some (12,false)),.load none (.t 15)⟩,[8,9]),(⟨some 17,(some (12,false)),.iadr 1 (.t 16) (.c (.int .i64 0))⟩,[8,9]),(⟨some 18,(some (12,false)),.load none (.t 17)⟩,[8,9]),(⟨some 19,(some (12,false)),.len true (.t 18)⟩,[8,9]),(⟨some 20,(some (12,false)),.bin 0 .sub (.t 19) (.c (.int .i64 1))⟩,[8,9]),(⟨some 21,(some (12,false)),.call 46 [(.t 14),(.c (.int .i64 0)),(.t 20)]⟩,[]),(⟨some 22,none,.pick (.t 12) (.c (.bool true)) (.t 21)⟩,[])])
 (.cond (.t 22) (.seq (.ops [⟨some 4,none,.mv (.c (.int .u8 46))⟩])
 (.ret)) (.skip)))
 (.seq (.any [(⟨some 23,none,.fadr 0 (.t 2)⟩,[]),(⟨some 24,none,.load none (.t 23)⟩,[]),(⟨some 25,none,.fadr 1 (.t 3)⟩,[0,1]),(⟨some 26,none,.load none (.t 25)⟩,[0,1]),(⟨some 27,none,.iadr 1 (.t 24) (.t 26)⟩,[]),(⟨some 28,none,.load none (.t 27)⟩,[]),(⟨some 29,none,.fadr 0 (.t 3)⟩,[0,1,2,3,4,5]),(⟨some 30,none,.load none (.t 29)⟩,[0,1,2,3,4,5]),(⟨some 31,none,.idxs (.t 28) (.t 30)⟩,[]),(⟨some 4,none,.mv (.t 31)⟩,[])])
 (.ret)))⟩
theorem c60 : compF Go.Proofs.Tryz.prog 60 = some a60 := by kernel_rfl
def a61 : AFn := ⟨9,[.t 2],.seq (.ops [⟨some 2,none,.mv (.c (.bool false))⟩])
 (.seq (.ops [⟨some 3,none,.mv (.t 0)⟩,⟨some 4,none,.call 101 [(.t 3)]⟩,⟨some 5,none,.mv (.t 4)⟩,⟨some 6,(some (5,false)),.mv (.t 0)⟩,⟨some 7,(some (5,false)),.bin 0 .eql (.t 6) (.c (.int .u8 42))⟩,⟨some 8,none,.pick (.t 5) (.c (.bool true)) (.t 7)⟩,⟨some 2,none,.mv (.t 8)⟩])
 (.ret))⟩
theorem c61 : compF Go.Proofs.Tryz.prog 61 = some a61 := by kernel_rfl
def a62 : AFn := ⟨8,[.t 3],.seq (.ops [⟨some 2,none,.box 34 (.t 0)⟩,⟨some 3,none,.mv (.c (.bool false))⟩])
 (.seq (.ops [⟨some 4,none,.load (some 2) (.t 1)⟩,⟨some 5,none,.load (some 2) (.t 2)⟩,⟨some 6,none,.call 58 [(.t 4),(.t 5)]⟩,⟨some 7,none,.un .not (.t 6)⟩,⟨some 3,none,.mv (.t 7)⟩])
 (.ret))⟩
theorem c62 : compF Go.Proofs.Tryz.prog 62 = some a62 := by kernel_rfl
def a63 : AFn := ⟨112,[.t 6],.seq (.ops [⟨some 3,none,.box 28 (.t 0)⟩,⟨some 6,none,.mv (.c (.lit true 0 []))⟩])
 (.seq (.ops [⟨some 24,none,.mmk .p (.int .i64 0)⟩,⟨some 7,none,.mv (.t 24)⟩])
 (.seq (.seq (.ops [⟨some 25,none,.mv (.t 2)⟩,⟨some 26,none,.len false (.t 25)⟩,⟨some 27,none,.mv (.c (.int .i64 0))⟩])
 (.block 0 (.loop (.seq (.ops [⟨some 28,none,.bin 0 .lss (.t 27) (.t 26)⟩])
 (.seq (.cond (.t 28) (.skip) (.exit 0))
 (.seq (.block 1 (.seq (.ops [⟨some 29,none,.mv (.t 27)⟩,⟨some 30,none,.iadr 2 (.t 25) (.t 27)⟩,⟨some 31,none,.load (some 2) (.t 30)⟩,⟨some 9,none,.alloc 34 [(.int .i64 0),(.int .i64 0)]⟩,⟨some 8,none,.mv (.t 29)⟩,⟨none,none,.store 2 (.t 9) (.t 31)⟩])
 (.ops [⟨some 32,none,.mv (.t 7)⟩,⟨some 33,none,.load (some 2) (.t 9)⟩,⟨some 34,none,.mv (.t 8)⟩,⟨none,none,.mup .p (.t 32) (.t 33) (.t 34)⟩])))
 (.ops [⟨some 35,none,.bin 0 .add (.t 27) (.c (.int .i64 1))⟩,⟨some 27,none,.mv (.t 35)⟩])))))))
 (.seq (.ops [⟨some 10,none,.mv (.c (.lit true 0 []))⟩])
 (.seq (.seq (.ops [⟨some 36,none,.mv (.t 2)⟩,⟨some 37,none,.len false (.t 36)⟩,⟨some 38,none,.mv (.c (.int .i64 0))⟩])
 (.block 2 (.loop (.seq (.ops [⟨some 39,none,.bin 0 .lss (.t 38) (.t 37)⟩])
 (.seq (.cond (.t 39) (.skip) (.exit 2))
 (.seq (.block 3 (.seq (.ops [⟨some 40,none,.iadr 2 (.t 36) (.t 38)⟩,⟨some 41,none,.load (some 2) (.t 40)⟩,⟨some 12,none,.alloc 34 [(.int .i64 0),(.int .i64 0)]⟩,⟨none,none,.store 2 (.t 12) (.t 41)⟩])
 (.seq (.ops [⟨some 42,none,.mv (.t 1)⟩,⟨some 43,none,.len false (.t 42)⟩,⟨some 44,none,.mv (.c (.int .i64 0))⟩])
 (.block 4 (.loop (.seq (.ops [⟨some 45,none,.bin 0 .lss (.t 44) (.t 43)⟩])
 (.seq (.cond (.t 45) (.skip) (.exit 4))
 (.seq (.block 5 (.seq (.ops [⟨some 46,none,.iadr 2 (.t 42) (.t 44)⟩,⟨some 47,none,.load (some 2) (.t 46)⟩,⟨some 14,none,.alloc 34 [(.int .i64 0),(.int .i64 0)]⟩,⟨none,none,.store 2 (.t 14) (.t 47)⟩])
 (.ops [⟨some 48,none,.mv (.t 10)⟩,⟨some 49,none,.fadr 0 (.t 12)⟩,⟨some 50,none,.load none (.t 49)⟩,⟨some 51,none,.fadr 0 (.t 14)⟩,⟨some 52,none,.load none (.t 51)⟩,⟨some 53,none,.bin 0 .sub (.t 50) (.t 52)⟩,⟨some 54,none,.fadr 1 (.t 12)⟩,⟨some 55,none,.load none (.t 54)⟩,⟨some 56,none,.fadr 1 (.t 14)⟩,⟨some 57,none,.load none (.t 56)⟩,⟨some 58,none,.bin 0 .sub (.t 55) (.t 57)⟩,⟨some 59,none,.build [(.int .i64 0),(.int .i64 0)] [(0,1,(.t 53)),(1,1,(.t 58))]⟩,⟨some 60,none,.bslice 34 2 1 [(.int .i64 0),(.int .i64 0)] [(0,2,(.t 59))]⟩,⟨some 61,none,.app 34 2 16 (.t 48) (.t 60)⟩,⟨some 10,none,.mv (.t 61)⟩])))
 (.ops [⟨some 62,none,.bin 0 .add (.t 44) (.c (.int .i64 1))⟩,⟨some 44,none,.mv (.t 62)⟩])))))))))
 (.ops [⟨some 63,none,.bin 0 .add (.t 38) (.c (.int .i64 1))⟩,⟨some 38,none,.mv (.t 63)⟩])))))))
 (.seq (.ops [⟨some 64,none,.mv (.t 10)⟩,⟨some 65,none,.call 124 [(.t 64),(.c (.fn 47 []))]⟩])
 (.seq (.ops [⟨some 15,none,.mv (.c (.lit true 0 []))⟩])
 (.seq (.seq (.ops [⟨some 66,none,.mv (.t 10)⟩,⟨some 67,none,.call 125 [(.t 66)]⟩,⟨some 68,none,.len false (.t 67)⟩,⟨some 69,none,.mv (.c (.int .i64 0))⟩])
 (.block 6 (.loop (.seq (.ops [⟨some 70,none,.bin 0 .lss (.t 69) (.t 68)⟩])
 (.seq (.cond (.t 70) (.skip) (.exit 6))
 (.seq (.block 7 (.seq (.ops [⟨some 71,none,.iadr 2 (.t 67) (.t 69)⟩,⟨some 72,none,.load (some 2) (.t 71)⟩,⟨some 17,none,.alloc 34 [(.int .i64 0),(.int .i64 0)]⟩,⟨none,none,.store 2 (.t 17) (.t 72)⟩])
 (.seq (.ops [⟨some 73,none,.load (some 2) (.t 17)⟩,⟨some 74,none,.build [(.int .i64 0),(.int .i64 0),(.int .u64 0)] [(0,2,(.t 73))]⟩,⟨some 18,none,.alloc 107 [(.int .i64 0),(.int .i64 0),(.int .u64 0)]⟩,⟨none,none,.store 3 (.t 18) (.t 74)⟩])
 (.seq (.ops [⟨some 19,none,.mv (.c (.bool true))⟩])
 (.seq (.seq (.ops [⟨some 75,none,.mv (.t 1)⟩,⟨some 76,none,.load (some 2) (.t 17)⟩,⟨some 77,none,.call 56 [(.t 75),(.t 76)]⟩,⟨some 78,none,.len false (.t 77)⟩,⟨some 79,none,.mv (.c (.int .i64 0))⟩])
 (.block 8 (.loop (.seq (.ops [⟨some 80,none,.bin 0 .lss (.t 79) (.t 78)⟩])
 (.seq (.cond (.t 80) (.skip) (.exit 8))
 (.seq (.block 9 (.seq (.ops [⟨some 81,none,.iadr 2 (.t 77) (.t 79)⟩,⟨some 82,none,.load (some 2) (.t 81)⟩,⟨some 21,none,.alloc 34 [(.int .i64 0),(.int .i64 0)]⟩,⟨none,none,.store 2 (.t 21) (.t 82)⟩])
 (.seq (.ops [⟨some 83,none,.mv (.t 19)⟩,⟨some 84,none,.mv (.t 83)⟩,⟨some 85,(some (84,true)),.load (some 2) (.t 3)⟩,⟨some 86,(some (84,true)),.load (some 2) (.t 21)⟩,⟨some 87,(some (84,true)),.call 60 [(.t 85),(.t 86)]⟩,⟨some 88,(some (84,true)),.call 61 [(.t 87)]⟩,⟨some 89,(some (84,true)),.un .not (.t 88)⟩,⟨some 90,none,.pick (.t 84) (.t 89) (.c (.bool false))⟩,⟨some 19,none,.mv (.t 90)⟩])
 (.seq (.ops [⟨some 92,none,.mv (.t 7)⟩,⟨some 93,none,.load (some 2) (.t 21)⟩,⟨some 94,none,.mlk true .p (.int .i64 0) (.t 92) (.t 93)⟩,⟨some 91,none,.mv (.t 94)⟩,⟨some 95,none,.ext (.t 91) 0⟩,⟨some 96,none,.ext (.t 91) 1⟩,⟨some 22,none,.mv (.t 95)⟩,⟨some 23,none,.mv (.t 96)⟩])
 (.seq (.ops [⟨some 97,none,.mv (.t 23)⟩])
 (.cond (.t 97) (.any [(⟨some 98,none,.fadr 2 (.t 18)⟩,[]),(⟨some 99,none,.load none (.t 98)⟩,[]),(⟨some 100,none,.mv (.t 22)⟩,[0,1]),(⟨some 101,none,.bin 0 .shl (.c (.int .u64 1)) (.t 100)⟩,[0,1]),(⟨some 102,none,.bin 0 .or (.t 99) (.t 101)⟩,[]),(⟨some 103,none,.fadr 2 (.t 18)⟩,[]),(⟨none,none,.store 1 (.t 103) (.t 102)⟩,[])]) (.skip)))))))
 (.ops [⟨some 104,none,.bin 0 .add (.t 79) (.c (.int .i64 1))⟩,⟨some 79,none,.mv (.t 104)⟩])))))))
 (.seq (.ops [⟨some 105,none,.mv (.t 19)⟩])
 (.cond (.t 105) (.ops [⟨some 106,none,.mv (.t 15)⟩,⟨some 107,none,.load (some 3) (.t 18)⟩,⟨some 108,none,.bslice 107 3 1 [(.int .i64 0),(.int .i64 0),(.int .u64 0)] [(0,3,(.t 107))]⟩,⟨some 109,none,.app 107 3 24 (.t 106) (.t 108)⟩,⟨some 15,none,.mv (.t 109)⟩]) (.skip))))))))
 (.ops [⟨some 110,none,.bin 0 .add (.t 69) (.c (.int .i64 1))⟩,⟨some 69,none,.mv (.t 110)⟩])))))))
 (.seq (.ops [⟨some 111,none,.mv (.t 15)⟩,⟨some 6,none,.mv (.t 111)⟩])
 (.ret)))))))))⟩
theorem c63 : compF Go.Proofs.Tryz.prog 63 = some a63 := by kernel_rfl
def a64 : AFn := ⟨80,[.t 4],.seq (.ops [⟨some 4,none,.mv (.c (.lit true 0 []))⟩])
 (.seq (.ops [⟨some 11,none,.mv (.t 1)⟩,⟨some 12,none,.bin 0 .shl (.c (.int .i64 1)) (.t 11)⟩,⟨some 13,none,.mks 3 1 8 [(.int .i64 0)] (.t 12)⟩,⟨some 5,none,.mv (.t 13)⟩])
 (.seq (.seq (.ops [⟨some 6,none,.mv (.c (.int .u64 1))⟩])
 (.block 0 (.loop (.seq (.seq (.ops [⟨some 14,none,.mv (.t 6)⟩,⟨some 15,none,.mv (.t 1)⟩,⟨some 16,none,.bin 0 .shl (.c (.int .u64 1)) (.t 15)⟩,⟨some 17,none,.bin 0 .lss (.t 14) (.t 16)⟩])
 (.cond (.t 17) (.skip) (.exit 0)))
 (.seq (.block 1 (.seq (.ops [⟨some 20,none,.mv (.t 0)⟩,⟨some 21,none,.len false (.t 20)⟩,⟨some 22,none,.mv (.c (.int .i64 0))⟩])
 (.block 2 (.loop (.seq (.ops [⟨some 23,none,.bin 0 .lss (.t 22) (.t 21)⟩])
 (.seq (.cond (.t 23) (.skip) (.exit 2))
 (.seq (.block 3 (.seq (.ops [⟨some 24,none,.iadr 3 (.t 20) (.t 22)⟩,⟨some 25,none,.load (some 3) (.t 24)⟩,⟨some 8,none,.alloc 107 [(.int .i64 0),(.int .i64 0),(.int .u64 0)]⟩,⟨none,none,.store 3 (.t 8) (.t 25)⟩])
 (.seq (.ops [⟨some 26,none,.mv (.t 6)⟩,⟨some 27,none,.fadr 2 (.t 8)⟩,⟨some 28,none,.load none (.t 27)⟩,⟨some 29,none,.bin 0 .andNot (.t 26) (.t 28)⟩,⟨some 9,none,.mv (.t 29)⟩])
 (.seq (.seq (.ops [⟨some 30,none,.fadr 2 (.t 8)⟩,⟨some 31,none,.load none (.t 30)⟩,⟨some 32,none,.mv (.t 6)⟩,⟨some 33,none,.bin 0 .andNot (.t 31) (.t 32)⟩,⟨some 34,none,.bin 0 .neq (.t 33) (.c (.int .u64 0))⟩,⟨some 35,none,.mv (.t 34)⟩,⟨some 36,(some (35,false)),.fadr 2 (.t 8)⟩,⟨some 37,(some (35,false)),.load none (.t 36)⟩,⟨some 38,(some (35,false)),.mv (.t 6)⟩,⟨some 39,(some (35,false)),.mv (.t 6)⟩,⟨some 40,(some (35,false)),.un .neg (.t 39)⟩,⟨some 41,(some (35,false)),.bin 0 .and (.t 38) (.t 40)⟩,⟨some 42,(some (35,false)),.bin 0 .and (.t 37) (.t 41)⟩,⟨some 43,(some (35,false)),.bin 0 .eql (.t 42) (.c (.int .u64 0))⟩,⟨some 44,none,.pick (.t 35) (.c (.bool true)) (.t 43)⟩,⟨some 45,none,.mv (.t 44)⟩,⟨some 46,(some (45,false)),.mv (.t 9)⟩,⟨some 47,(some (45,false)),.bin 0 .neq (.t 46) (.c (.int .u64 0))⟩,⟨some 48,(some (45,false)),.mv (.t 47)⟩,⟨some 49,(some (48,true)),.mv (.t 5)⟩,⟨some 50,(some (48,true)),.mv (.t 9)⟩,⟨some 51,(some (48,true)),.iadr 1 (.t 49) (.t 50)⟩,⟨some 52,(some (48,true)),.load none (.t 51)⟩,⟨some 53,(some (48,true)),.bin 0 .eql (.t 52) (.c (.int .i64 0))⟩,⟨some 54,(some (45,false)),.pick (.t 48) (.t 53) (.c (.bool false))⟩,⟨some 55,none,.pick (.t 45) (.c (.bool true)) (.t 54)⟩])
 (.cond (.t 55) (.exit 3) (.skip)))
 (.seq (.ops [⟨some 56,none,.mv (.t 5)⟩,⟨some 57,none,.mv (.t 9)⟩,⟨some 58,none,.iadr 1 (.t 56) (.t 57)⟩,⟨some 59,none,.load none (.t 58)⟩,⟨some 60,none,.bin 0 .add (.t 59) (.c (.int .i64 1))⟩,⟨some 10,none,.mv (.t 60)⟩])
 (.seq (.ops [⟨some 61,none,.mv (.t 5)⟩,⟨some 62,none,.mv (.t 6)⟩,⟨some 63,none,.iadr 1 (.t 61) (.t 62)⟩,⟨some 64,none,.load none (.t 63)⟩,⟨some 65,none,.bin 0 .eql (.t 64) (.c (.int .i64 0))⟩,⟨some 66,none,.mv (.t 65)⟩,⟨some 67,(some (66,false)),.mv (.t 10)⟩,⟨some 68,(some (66,false)),.mv (.t 5)⟩,⟨some 69,(some (66,false)),.mv (.t 6)⟩,⟨some 70,(some (66,false)),.iadr 1 (.t 68) (.t 69)⟩,⟨some 71,(some (66,false)),.load none (.t 70)⟩,⟨some 72,(some (66,false)),.bin 0 .lss (.t 67) (.t 71)⟩,⟨some 73,none,.pick (.t 66) (.c (.bool true)) (.t 72)⟩])
 (.cond (.t 73) (.ops [⟨some 74,none,.mv (.t 5)⟩,⟨some 75,none,.mv (.t 6)⟩,⟨some 76,none,.mv (.t 10)⟩,⟨some 77,none,.iadr 1 (.t 74) (.t 75)⟩,⟨none,none,.store 1 (.t 77) (.t 76)⟩]) (.skip))))))))
 (.ops [⟨some 78,none,.bin 0 .add (.t 22) (.c (.int .i64 1))⟩,⟨some 22,none,.mv (.t 78)⟩]))))))))
 (.ops [⟨some 18,none,.mv (.t 6)⟩,⟨some 19,none,.bin 0 .add (.t 18) (.c (.int .u64 1))⟩,⟨some 6,none,.mv (.t 19)⟩]))))))
 (.seq (.ops [⟨some 79,none,.mv (.t 5)⟩,⟨some 4,none,.mv (.t 79)⟩])
 (.ret))))⟩
theorem c64 : compF Go.Proofs.Tryz.prog 64 = some a64 := by kernel_rfl
def a65 : AFn := ⟨19,[.t 4],.seq (.ops [⟨some 4,none,.mv (.c (.int .i64 0))⟩])
 (.seq (.seq (.ops [⟨some 6,none,.mv (.t 0)⟩,⟨some 7,none,.len false (.t 6)⟩,⟨some 8,none,.mv (.c (.int .i64 0))⟩])
 (.block 0 (.loop (.seq (.ops [⟨some 9,none,.bin 0 .lss (.t 8) (.t 7)⟩])
 (.seq (.cond (.t 9) (.skip) (.exit 0))
 (.seq (.block 1 (.seq (.ops [⟨some 10,none,.mv (.t 8)⟩,⟨some 5,none,.mv (.t 10)⟩])
 (.seq (.ops [⟨some 11,none,.mv (.t 1)⟩,⟨some 12,none,.mv (.t 0)⟩,⟨some 13,none,.mv (.t 5)⟩,⟨some 14,none,.iadr 3 (.t 12) (.t 13)⟩,⟨some 15,none,.load (some 3) (.t 14)⟩,⟨some 16,none,.callv (.t 11) [(.t 15)]⟩])
 (.cond (.t 16) (.seq (.ops [⟨some 17,none,.mv (.t 5)⟩,⟨some 4,none,.mv (.t 17)⟩])
 (.ret)) (.skip)))))
 (.ops [⟨some 18,none,.bin 0 .add (.t 8) (.c (.int .i64 1))⟩,⟨some 8,none,.mv (.t 18)⟩])))))))
 (.seq (.ops [⟨some 4,none,.mv (.c (.int .i64 (-1)))⟩])
 (.ret)))⟩
theorem c65 : compF Go.Proofs.Tryz.prog 65 = some a65 := by kernel_rfl
def a66 : AFn := ⟨38,[.t 4],.seq (.ops [⟨some 3,none,.box 107 (.t 0)⟩,⟨some 4,none,.mv (.c (.bool false))⟩])
 (.seq (.ops [⟨some 6,none,.load none (.t 1)⟩,⟨some 7,none,.fadr 2 (.t 3)⟩,⟨some 8,none,.load none (.t 7)⟩,⟨some 9,none,.bin 0 .andNot (.t 6) (.t 8)⟩,⟨some 5,none,.mv (.t 9)⟩])
 (.seq (.any [(⟨some 10,none,.fadr 2 (.t 3)⟩,[]),(⟨some 11,none,.load none (.t 10)⟩,[]),(⟨some 12,none,.load none (.t 1)⟩,[0,1]),(⟨some 13,none,.bin 0 .andNot (.t 11) (.t 12)⟩,[]),(⟨some 14,none,.bin 0 .eql (.t 13) (.c (.int .u64 0))⟩,[]),(⟨some 15,none,.mv (.t 14)⟩,[]),(⟨some 16,(some (15,true)),.mv (.t 5)⟩,[]),(⟨some 17,(some (15,true)),.bin 0 .eql (.t 16) (.c (.int .u64 0))⟩,[]),(⟨some 18,(some (15,true)),.mv (.t 17)⟩,[]),(⟨some 19,(some (18,false)),.load none (.t 2)⟩,[]),(⟨some 20,(some (18,false)),.mv (.t 5)⟩,[9]),(⟨some 21,(some (18,false)),.iadr 1 (.t 19) (.t 20)⟩,[]),(⟨some 22,(some (18,false)),.load none (.t 21)⟩,[]),(⟨some 23,(some (18,false)),.bin 0 .gtr (.t 22) (.c (.int .i64 0))⟩,[]),(⟨some 24,(some (15,true)),.pick (.t 18) (.c (.bool true)) (.t 23)⟩,[]),(⟨some 25,none,.pick (.t 15) (.t 24) (.c (.bool false))⟩,[]),(⟨some 26,none,.mv (.t 25)⟩,[]),(⟨some 27,(some (26,true)),.load none (.t 2)⟩,[]),(⟨some 28,(some (26,true)),.load none (.t 1)⟩,[17]),(⟨some 29,(some (26,true)),.iadr 1 (.t 27) (.t 28)⟩,[]),(⟨some 30,(some (26,true)),.load none (.t 29)⟩,[]),(⟨some 31,(some (26,true)),.load none (.t 2)⟩,[17,18,19,20]),(⟨some 32,(some (26,true)),.mv (.t 5)⟩,[17,18,19,20,21]),(⟨some 33,(some (26,true)),.iadr 1 (.t 31) (.t 32)⟩,[17,18,19,20]),(⟨some 34,(some (26,true)),.load none (.t 33)⟩,[17,18,19,20]),(⟨some 35,(some (26,true)),.bin 0 .add (.t 34) (.c (.int .i64 1))⟩,[17,18,19,20]),(⟨some 36,(some (26,true)),.bin 0 .eql (.t 30) (.t 35)⟩,[]),(⟨some 37,none,.pick (.t 26) (.t 36) (.c (.bool false))⟩,[]),(⟨some 4,none,.mv (.t 37)⟩,[])])
 (.ret)))⟩
theorem c66 : compF Go.Proofs.Tryz.prog 66 = some a66 := by kernel_rfl
def a67 : AFn := ⟨12,[.t 6],.seq (.ops [⟨some 6,none,.mv (.c (.int .i64 0))⟩])
 (.seq (.seq (.ops [⟨some 7,none,.mv (.t 0)⟩,⟨some 8,none,.mv (.t 1)⟩,⟨some 9,none,.mv (.t 2)⟩,⟨some 10,none,.call 48 [(.t 7),(.t 8),(.t 9)]⟩,⟨some 11,none,.un .not (.t 10)⟩])
 (.cond (.t 11) (.seq (.ops [⟨some 6,none,.mv (.c (.int .i64 1))⟩])
 (.ret)) (.skip)))
 (.seq (.ops [⟨some 6,none,.mv (.c (.int .i64 0))⟩])
 (.ret)))⟩
theorem c67 : compF Go.Proofs.Tryz.prog 67 = some a67 := by kernel_rfl
def a68 : AFn := ⟨30,[.t 4],.seq (.ops [⟨some 3,none,.box 34 (.t 1)⟩,⟨some 4,none,.mv (.c (.lit true 0 []))⟩])
 (.seq (.ops [⟨some 5,none,.mv (.c (.lit true 0 []))⟩])
 (.seq (.seq (.ops [⟨some 8,none,.mv (.t 0)⟩,⟨some 9,none,.len false (.t 8)⟩,⟨some 10,none,.mv (.c (.int .i64 0))⟩])
 (.block 0 (.loop (.seq (.ops [⟨some 11,none,.bin 0 .lss (.t 10) (.t 9)⟩])
 (.seq (.cond (.t 11) (.skip) (.exit 0))
 (.seq (.block 1 (.seq (.ops [⟨some 12,none,.iadr 2 (.t 8) (.t 10)⟩,⟨some 13,none,.load (some 2) (.t 12)⟩,⟨some 7,none,.alloc 34 [(.int .i64 0),(.int .i64 0)]⟩,⟨none,none,.store 2 (.t 7) (.t 13)⟩])
 (.ops [⟨some 14,none,.mv (.t 5)⟩,⟨some 15,none,.fadr 0 (.t 3)⟩,⟨some 16,none,.load none (.t 15)⟩,⟨some 17,none,.fadr 0 (.t 7)⟩,⟨some 18,none,.load none (.t 17)⟩,⟨some 19,none,.bin 0 .add (.t 16) (.t 18)⟩,⟨some 20,none,.fadr 1 (.t 3)⟩,⟨some 21,none,.load none (.t 20)⟩,⟨some 22,none,.fadr 1 (.t 7)⟩,⟨some 23,none,.load none (.t 22)⟩,⟨some 24,none,.bin 0 .add (.t 21) (.t 23)⟩,⟨some 25,none,.build [(.int .i64 0),(.int .i64 0)] [(0,1,(.t 19)),(1,1,(.t 24))]⟩,⟨some 26,none,.bslice 34 2 1 [(.int .i64 0),(.int .i64 0)] [(0,2,(.t 25))]⟩,⟨some 27,none,.app 34 2 16 (.t 14) (.t 26)⟩,⟨some 5,none,.mv (.t 27)⟩])))
 (.ops [⟨some 28,none,.bin 0 .add (.t 10) (.c (.int .i64 1))⟩,⟨some 10,none,.mv (.t 28)⟩])))))))
 (.seq (.ops [⟨some 29,none,.mv (.t 5)⟩,⟨some 4,none,.mv (.t 29)⟩])
 (.ret))))⟩
theorem c68 : compF Go.Proofs.Tryz.prog 68 = some a68 := by kernel_rfl
def a69 : AFn := ⟨36,[.t 4],.seq (.ops [⟨some 2,none,.box 28 (.t 0)⟩,⟨some 4,none,.mv (.c (.lit true 0 []))⟩])
 (.seq (.ops [⟨some 5,none,.mv (.c (.lit true 0 []))⟩])
 (.seq (.seq (.ops [⟨some 10,none,.fadr 0 (.t 2)⟩,⟨some 11,none,.load none (.t 10)⟩,⟨some 12,none,.len false (.t 11)⟩,⟨some 13,none,.mv (.c (.int .i64 0))⟩])
 (.block 0 (.loop (.seq (.ops [⟨some 14,none,.bin 0 .lss (.t 13) (.t 12)⟩])
 (.seq (.cond (.t 14) (.skip) (.exit 0))
 (.seq (.block 1 (.seq (.ops [⟨some 15,none,.mv (.t 13)⟩,⟨some 16,none,.iadr 1 (.t 11) (.t 13)⟩,⟨some 17,none,.load none (.t 16)⟩,⟨some 6,none,.mv (.t 15)⟩,⟨some 7,none,.mv (.t 17)⟩])
 (.seq (.ops [⟨some 18,none,.mv (.t 7)⟩,⟨some 19,none,.len true (.t 18)⟩,⟨some 20,none,.mv (.c (.int .i64 0))⟩])
 (.block 2 (.loop (.seq (.ops [⟨some 21,none,.bin 0 .lss (.t 20) (.t 19)⟩])
 (.seq (.cond (.t 21) (.skip) (.exit 2))
 (.seq (.block 3 (.seq (.ops [⟨some 22,none,.mv (.t 20)⟩,⟨some 8,none,.mv (.t 22)⟩])
 (.seq (.ops [⟨some 23,none,.mv (.t 8)⟩,⟨some 24,none,.mv (.t 6)⟩,⟨some 25,none,.build [(.int .i64 0),(.int .i64 0)] [(0,1,(.t 23)),(1,1,(.t 24))]⟩,⟨some 9,none,.alloc 34 [(.int .i64 0),(.int .i64 0)]⟩,⟨none,none,.store 2 (.t 9) (.t 25)⟩])
 (.seq (.ops [⟨some 26,none,.mv (.t 1)⟩,⟨some 27,none,.load (some 2) (.t 9)⟩,⟨some 28,none,.callv (.t 26) [(.t 27)]⟩])
 (.cond (.t 28) (.ops [⟨some 29,none,.mv (.t 5)⟩,⟨some 30,none,.load (some 2) (.t 9)⟩,⟨some 31,none,.bslice 34 2 1 [(.int .i64 0),(.int .i64 0)] [(0,2,(.t 30))]⟩,⟨some 32,none,.app 34 2 16 (.t 29) (.t 31)⟩,⟨some 5,none,.mv (.t 32)⟩]) (.skip))))))
 (.ops [⟨some 33,none,.bin 0 .add (.t 20) (.c (.int .i64 1))⟩,⟨some 20,none,.mv (.t 33)⟩])))))))))
 (.ops [⟨some 34,none,.bin 0 .add (.t 13) (.c (.int .i64 1))⟩,⟨some 13,none,.mv (.t 34)⟩])))))))
 (.seq (.ops [⟨some 35,none,.mv (.t 5)⟩,⟨some 4,none,.mv (.t 35)⟩])
 (.ret))))⟩
theorem c69 : compF Go.Proofs.Tryz.prog 69 = some a69 := by kernel_rfl
def a70 : AFn := ⟨14,[.t 4],.seq (.ops [⟨some 3,none,.box 34 (.t 0)⟩,⟨some 4,none,.mv (.c (.bool false))⟩])
 (.seq (.ops [⟨some 5,none,.load (some 2) (.t 1)⟩,⟨some 6,none,.load (some 2) (.t 3)⟩,⟨some 7,none,.call 71 [(.t 5),(.t 6)]⟩,⟨some 8,none,.bin 0 .eql (.t 7) (.c (.int .u8 63))⟩,⟨some 9,none,.mv (.t 8)⟩,⟨some 10,(some (9,true)),.load none (.t 2)⟩,⟨some 11,(some (9,true)),.load (some 2) (.t 3)⟩,⟨some 12,(some (9,true)),.call 72 [(.t 10),(.t 11)]⟩,⟨some 13,none,.pick (.t 9) (.t 12) (.c (.bool false))⟩,⟨some 4,none,.mv (.t 13)⟩])
 (.ret))⟩
theorem c70 : compF Go.Proofs.Tryz.prog 70 = some a70 := by kernel_rfl
def a71 : AFn := ⟨34,[.t 4],.seq (.ops [⟨some 2,none,.box 28 (.t 0)⟩,⟨some 3,none,.box 34 (.t 1)⟩,⟨some 4,none,.mv (.c (.int .u8 0))⟩])
 (.seq (.seq (.any [(⟨some 5,none,.fadr 1 (.t 3)⟩,[]),(⟨some 6,none,.load none (.t 5)⟩,[]),(⟨some 7,none,.fadr 0 (.t 2)⟩,[0,1]),(⟨some 8,none,.load none (.t 7)⟩,[0,1]),(⟨some 9,none,.len false (.t 8)⟩,[0,1]),(⟨some 10,none,.bin 0 .sub (.t 9) (.c (.int .i64 1))⟩,[0,1]),(⟨some 11,none,.call 48 [(.t 6),(.c (.int .i64 0)),(.t 10)]⟩,[]),(⟨some 12,none,.un .not (.t 11)⟩,[]),(⟨some 13,none,.mv (.t 12)⟩,[]),(⟨some 14,(some (13,false)),.fadr 0 (.t 3)⟩,[]),(⟨some 15,(some (13,false)),.load none (.t 14)⟩,[]),(⟨some 16,(some (13,false)),.fadr 0 (.t 2)⟩,[9,10]),(⟨some 17,(some (13,false)),.load none (.t 16)⟩,[9,10]),(⟨some 18,(some (13,false)),.iadr 1 (.t 17) (.c (.int .i64 0))⟩,[9,10]),(⟨some 19,(some (13,false)),.load none (.t 18)⟩,[9,10]),(⟨some 20,(some (13,false)),.len true (.t 19)⟩,[9,10]),(⟨some 21,(some (13,false)),.bin 0 .sub (.t 20) (.c (.int .i64 1))⟩,[9,10]),(⟨some 22,(some (13,false)),.call 48 [(.t 15),(.c (.int .i64 0)),(.t 21)]⟩,[]),(⟨some 23,(some (13,false)),.un .not (.t 22)⟩,[]),(⟨some 24,none,.pick (.t 13) (.c (.bool true)) (.t 23)⟩,[])])
 (.cond (.t 24) (.seq (.ops [⟨some 4,none,.mv (.c (.int .u8 46))⟩])
 (.ret)) (.skip)))
 (.seq (.any [(⟨some 25,none,.fadr 0 (.t 2)⟩,[]),(⟨some 26,none,.load none (.t 25)⟩,[]),(⟨some 27,none,.fadr 1 (.t 3)⟩,[0,1]),(⟨some 28,none,.load none (.t 27)⟩,[0,1]),(⟨some 29,none,.iadr 1 (.t 26) (.t 28)⟩,[]),(⟨some 30,none,.load none (.t 29)⟩,[]),(⟨some 31,none,.fadr 0 (.t 3)⟩,[0,1,2,3,4,5]),(⟨some 32,none,.load none (.t 31)⟩,[0,1,2,3,4,5]),(⟨some 33,none,.idxs (.t 30) (.t 32)⟩,[]),(⟨some 4,none,.mv (.t 33)⟩,[])])
 (.ret)))⟩
theorem c71 : compF Go.Proofs.Tryz.prog 71 = some a71 := by kernel_rfl
def a72 : AFn := ⟨9,[.t 4],.seq (.ops [⟨some 3,none,.box 34 (.t 1)⟩,⟨some 4,none,.mv (.c (.bool false))⟩])
 (.seq (.ops [⟨some 5,none,.mv (.t 0)⟩,⟨some 6,none,.load (some 2) (.t 3)⟩,⟨some 7,none,.call 126 [(.t 5),(.t 6)]⟩,⟨some 8,none,.bin 0 .geq (.t 7) (.c (.int .i64 0))⟩,⟨some 4,none,.mv (.t 8)⟩])
 (.ret))⟩
theorem c72 : compF Go.Proofs.Tryz.prog 72 = some a72 := by kernel_rfl
def a73 : AFn := ⟨6,[.t 2],.seq (.ops [⟨some 1,none,.box 28 (.t 0)⟩,⟨some 2,none,.mv (.c (.lit true 0 []))⟩])
 (.seq (.ops [⟨some 3,none,.load (some 2) (.t 1)⟩,⟨some 4,none,.mkfn 127 [(.t 1)]⟩,⟨some 5,none,.call 69 [(.t 3),(.t 4)]⟩,⟨some 2,none,.mv (.t 5)⟩])
 (.ret))⟩
theorem c73 : compF Go.Proofs.Tryz.prog 73 = some a73 := by kernel_rfl
def a74 : AFn := ⟨4,[.t 2],.seq (.ops [⟨some 2,none,.mv (.c (.int .i64 0))⟩])
 (.seq (.seq (.ops [⟨some 3,none,.mv (.t 0)⟩])
 (.cond (.t 3) (.seq (.ops [⟨some 2,none,.mv (.c (.int .i64 1))⟩])
 (.ret)) (.skip)))
 (.seq (.ops [⟨some 2,none,.mv (.c (.int .i64 0))⟩])
 (.ret)))⟩
theorem c74 : compF Go.Proofs.Tryz.prog 74 = some a74 := by kernel_rfl
def a75 : AFn := ⟨10,[.t 4],.seq (.ops [⟨some 2,none,.box 28 (.t 0)⟩,⟨some 3,none,.box 34 (.t 1)⟩,⟨some 4,none,.mv (.c (.bool false))⟩])
 (.seq (.ops [⟨some 5,none,.load (some 2) (.t 2)⟩,⟨some 6,none,.load (some 2) (.t 3)⟩,⟨some 7,none,.call 71 [(.t 5),(.t 6)]⟩,⟨some 8,none,.call 121 [(.c (.str [48,49,50,51,52,53,54,55,56,57,97,98,99,100,101,102,103,104,105,106,107,108,109,110,111,112,113,114,115,116,117,118,119,120,121,122,42])),(.t 7)]⟩,⟨some 9,none,.bin 0 .geq (.t 8) (.c (.int .i64 0))⟩,⟨some 4,none,.mv (.t 9)⟩])
 (.ret))⟩
theorem c75 : compF Go.Proofs.Tryz.prog 75 = some a75 := by kernel_rfl
def a79 : AFn := ⟨14,[],.seq (.ops [⟨some 5,none,.mv (.t 0)⟩,⟨some 6,none,.len false (.t 5)⟩,⟨some 4,none,.mv (.t 6)⟩])
 (.ops [⟨some 7,none,.mv (.t 0)⟩,⟨some 8,none,.mv (.t 4)⟩,⟨some 9,none,.mv (.t 4)⟩,⟨some 10,none,.conv .u64 (.t 9)⟩,⟨some 11,none,.call 134 [(.t 10)]⟩,⟨some 12,none,.mv (.t 1)⟩,⟨some 13,none,.call 133 [(.t 7),(.c (.int .i64 0)),(.t 8),(.t 11),(.t 12)]⟩])⟩
theorem c79 : compF Go.Proofs.Tryz.prog 79 = some a79 := by kernel_rfl
def a82 : AFn := ⟨87,[.t 6],.seq (.ops [⟨some 3,none,.box 28 (.t 0)⟩,⟨some 6,none,.mv (.c (.lit true 0 []))⟩])
 (.seq (.ops [⟨some 7,none,.mv (.c (.lit true 0 []))⟩])
 (.seq (.seq (.ops [⟨some 16,none,.mv (.t 2)⟩,⟨some 17,none,.len false (.t 16)⟩,⟨some 18,none,.mv (.c (.int .i64 0))⟩])
 (.block 0 (.loop (.seq (.ops [⟨some 19,none,.bin 0 .lss (.t 18) (.t 17)⟩])
 (.seq (.cond (.t 19) (.skip) (.exit 0))
 (.seq (.block 1 (.seq (.ops [⟨some 20,none,.mv (.t 18)⟩,⟨some 21,none,.iadr 2 (.t 16) (.t 18)⟩,⟨some 22,none,.load (some 2) (.t 21)⟩,⟨some 9,none,.alloc 34 [(.int .i64 0),(.int .i64 0)]⟩,⟨some 8,none,.mv (.t 20)⟩,⟨none,none,.store 2 (.t 9) (.t 22)⟩])
 (.seq (.ops [⟨some 23,none,.mv (.t 1)⟩,⟨some 24,none,.len false (.t 23)⟩,⟨some 25,none,.mv (.c (.int .i64 0))⟩])
 (.block 2 (.loop (.seq (.ops [⟨some 26,none,.bin 0 .lss (.t 25) (.t 24)⟩])
 (.seq (.cond (.t 26) (.skip) (.exit 2))
 (.seq (.block 3 (.seq (.ops [⟨some 27,none,.iadr 2 (.t 23) (.t 25)⟩,⟨some 28,none,.load (some 2) (.t 27)⟩,⟨some 11,none,.alloc 34 [(.int .i64 0),(.int .i64 0)]⟩,⟨none,none,.store 2 (.t 11) (.t 28)⟩])
 (.seq (.ops [⟨some 29,none,.fadr 0 (.t 9)⟩,⟨some 30,none,.load none (.t 29)⟩,⟨some 31,none,.fadr 0 (.t 11)⟩,⟨some 32,none,.load none (.t 31)⟩,⟨some 33,none,.bin 0 .sub (.t 30) (.t 32)⟩,⟨some 34,none,.fadr 1 (.t 9)⟩,⟨some 35,none,.load none (.t 34)⟩,⟨some 36,none,.fadr 1 (.t 11)⟩,⟨some 37,none,.load none (.t 36)⟩,⟨some 38,none,.bin 0 .sub (.t 35) (.t 37)⟩,⟨some 39,none,.build [(.int .i64 0),(.int .i64 0)] [(0,1,(.t 33)),(1,1,(.t 38))]⟩,⟨some 40,none,.build [(.int .i64 0),(.int .i64 0),(.int .i64 0)] [(0,2,(.t 39))]⟩,⟨some 12,none,.alloc 123 [(.int .i64 0),(.int .i64 0),(.int .i64 0)]⟩,⟨none,none,.store 3 (.t 12) (.t 40)⟩])
 (.seq (.ops [⟨some 41,none,.mv (.t 1)⟩,⟨some 42,none,.fadr 0 (.t 12)⟩,⟨some 43,none,.load (some 2) (.t 42)⟩,⟨some 44,none,.call 68 [(.t 41),(.t 43)]⟩,⟨some 45,none,.mkfn 137 [(.t 3)]⟩,⟨some 46,none,.call 136 [(.t 44),(.t 45)]⟩,⟨some 13,none,.mv (.t 46)⟩])
 (.seq (.seq (.ops [⟨some 47,none,.mv (.t 2)⟩,⟨some 48,none,.len false (.t 47)⟩,⟨some 49,none,.mv (.c (.int .i64 0))⟩])
 (.block 4 (.loop (.seq (.ops [⟨some 50,none,.bin 0 .lss (.t 49) (.t 48)⟩])
 (.seq (.cond (.t 50) (.skip) (.exit 4))
 (.seq (.block 5 (.seq (.ops [⟨some 51,none,.mv (.t 49)⟩,⟨some 52,none,.iadr 2 (.t 47) (.t 49)⟩,⟨some 53,none,.load (some 2) (.t 52)⟩,⟨some 15,none,.alloc 34 [(.int .i64 0),(.int .i64 0)]⟩,⟨some 14,none,.mv (.t 51)⟩,⟨none,none,.store 2 (.t 15) (.t 53)⟩])
 (.seq (.any [(⟨some 54,none,.mv (.t 1)⟩,[]),(⟨some 55,none,.fadr 0 (.t 12)⟩,[0]),(⟨some 56,none,.load (some 2) (.t 55)⟩,[0]),(⟨some 57,none,.call 68 [(.t 54),(.t 56)]⟩,[]),(⟨some 58,none,.load (some 2) (.t 15)⟩,[0,1,2,3]),(⟨some 59,none,.call 72 [(.t 57),(.t 58)]⟩,[])])
 (.cond (.t 59) (.any [(⟨some 60,none,.fadr 2 (.t 12)⟩,[]),(⟨some 61,none,.load none (.t 60)⟩,[]),(⟨some 62,none,.mv (.t 14)⟩,[0,1]),(⟨some 63,none,.bin 0 .shl (.c (.int .i64 1)) (.t 62)⟩,[0,1]),(⟨some 64,none,.bin 0 .or (.t 61) (.t 63)⟩,[]),(⟨some 65,none,.fadr 2 (.t 12)⟩,[]),(⟨none,none,.store 1 (.t 65) (.t 64)⟩,[])]) (.skip)))))
 (.ops [⟨some 66,none,.bin 0 .add (.t 49) (.c (.int .i64 1))⟩,⟨some 49,none,.mv (.t 66)⟩])))))))
 (.seq (.ops [⟨some 67,none,.mv (.t 13)⟩,⟨some 68,none,.un .not (.t 67)⟩,⟨some 69,none,.mv (.t 68)⟩,⟨some 70,(some (69,true)),.fadr 2 (.t 12)⟩,⟨some 71,(some (69,true)),.load none (.t 70)⟩,⟨some 72,(some (69,true)),.mv (.t 8)⟩,⟨some 73,(some (69,true)),.bin 0 .shr (.t 71) (.t 72)⟩,⟨some 74,(some (69,true)),.bin 0 .and (.t 73) (.c (.int .i64 1))⟩,⟨some 75,(some (69,true)),.bin 0 .eql (.t 74) (.c (.int .i64 1))⟩,⟨some 76,none,.pick (.t 69) (.t 75) (.c (.bool false))⟩])
 (.cond (.t 76) (.ops [⟨some 77,none,.mv (.t 7)⟩,⟨some 78,none,.load (some 3) (.t 12)⟩,⟨some 79,none,.bslice 123 3 1 [(.int .i64 0),(.int .i64 0),(.int .i64 0)] [(0,3,(.t 78))]⟩,⟨some 80,none,.app 123 3 24 (.t 77) (.t 79)⟩,⟨some 7,none,.mv (.t 80)⟩]) (.skip))))))))
 (.ops [⟨some 81,none,.bin 0 .add (.t 25) (.c (.int .i64 1))⟩,⟨some 25,none,.mv (.t 81)⟩])))))))))
 (.ops [⟨some 82,none,.bin 0 .add (.t 18) (.c (.int .i64 1))⟩,⟨some 18,none,.mv (.t 82)⟩])))))))
 (.seq (.ops [⟨some 83,none,.mv (.t 7)⟩,⟨some 84,none,.call 138 [(.t 83),(.c (.fn 139 []))]⟩])
 (.seq (.ops [⟨some 85,none,.mv (.t 7)⟩,⟨some 86,none,.call 140 [(.t 85)]⟩,⟨some 6,none,.mv (.t 86)⟩])
 (.ret)))))⟩
theorem c82 : compF Go.Proofs.Tryz.prog 82 = some a82 := by kernel_rfl
def a83 : AFn := ⟨72,[.t 4],.seq (.ops [⟨some 4,none,.mv (.c (.lit true 0 []))⟩])
 (.seq (.ops [⟨some 10,none,.mv (.t 1)⟩,⟨some 11,none,.bin 0 .shl (.c (.int .i64 1)) (.t 10)⟩,⟨some 12,none,.mks 3 1 8 [(.int .i64 0)] (.t 11)⟩,⟨some 5,none,.mv (.t 12)⟩])
 (.seq (.seq (.ops [⟨some 6,none,.mv (.c (.int .i64 1))⟩])
 (.block 0 (.loop (.seq (.seq (.ops [⟨some 13,none,.mv (.t 6)⟩,⟨some 14,none,.mv (.t 5)⟩,⟨some 15,none,.len false (.t 14)⟩,⟨some 16,none,.bin 0 .lss (.t 13) (.t 15)⟩])
 (.cond (.t 16) (.skip) (.exit 0)))
 (.seq (.block 1 (.seq (.ops [⟨some 19,none,.mv (.t 5)⟩,⟨some 20,none,.mv (.t 6)⟩,⟨some 21,none,.iadr 1 (.t 19) (.t 20)⟩,⟨none,none,.store 1 (.t 21) (.c (.int .i64 (-1)))⟩])
 (.seq (.ops [⟨some 22,none,.mv (.t 0)⟩,⟨some 23,none,.len false (.t 22)⟩,⟨some 24,none,.mv (.c (.int .i64 0))⟩])
 (.block 2 (.loop (.seq (.ops [⟨some 25,none,.bin 0 .lss (.t 24) (.t 23)⟩])
 (.seq (.cond (.t 25) (.skip) (.exit 2))
 (.seq (.block 3 (.seq (.ops [⟨some 26,none,.iadr 3 (.t 22) (.t 24)⟩,⟨some 27,none,.load (some 3) (.t 26)⟩,⟨some 8,none,.alloc 123 [(.int .i64 0),(.int .i64 0),(.int .i64 0)]⟩,⟨none,none,.store 3 (.t 8) (.t 27)⟩])
 (.seq (.seq (.ops [⟨some 28,none,.mv (.t 6)⟩,⟨some 29,none,.fadr 2 (.t 8)⟩,⟨some 30,none,.load none (.t 29)⟩,⟨some 31,none,.bin 0 .and (.t 28) (.t 30)⟩,⟨some 32,none,.fadr 2 (.t 8)⟩,⟨some 33,none,.load none (.t 32)⟩,⟨some 34,none,.bin 0 .neq (.t 31) (.t 33)⟩,⟨some 35,none,.mv (.t 34)⟩,⟨some 36,(some (35,false)),.mv (.t 5)⟩,⟨some 37,(some (35,false)),.mv (.t 6)⟩,⟨some 38,(some (35,false)),.fadr 2 (.t 8)⟩,⟨some 39,(some (35,false)),.load none (.t 38)⟩,⟨some 40,(some (35,false)),.bin 0 .sub (.t 37) (.t 39)⟩,⟨some 41,(some (35,false)),.iadr 1 (.t 36) (.t 40)⟩,⟨some 42,(some (35,false)),.load none (.t 41)⟩,⟨some 43,(some (35,false)),.bin 0 .lss (.t 42) (.c (.int .i64 0))⟩,⟨some 44,none,.pick (.t 35) (.c (.bool true)) (.t 43)⟩])
 (.cond (.t 44) (.exit 3) (.skip)))
 (.seq (.ops [⟨some 45,none,.mv (.t 5)⟩,⟨some 46,none,.mv (.t 6)⟩,⟨some 47,none,.fadr 2 (.t 8)⟩,⟨some 48,none,.load none (.t 47)⟩,⟨some 49,none,.bin 0 .sub (.t 46) (.t 48)⟩,⟨some 50,none,.iadr 1 (.t 45) (.t 49)⟩,⟨some 51,none,.load none (.t 50)⟩,⟨some 52,none,.bin 0 .add (.t 51) (.c (.int .i64 1))⟩,⟨some 9,none,.mv (.t 52)⟩])
 (.seq (.ops [⟨some 53,none,.mv (.t 5)⟩,⟨some 54,none,.mv (.t 6)⟩,⟨some 55,none,.iadr 1 (.t 53) (.t 54)⟩,⟨some 56,none,.load none (.t 55)⟩,⟨some 57,none,.bin 0 .lss (.t 56) (.c (.int .i64 0))⟩,⟨some 58,none,.mv (.t 57)⟩,⟨some 59,(some (58,false)),.mv (.t 9)⟩,⟨some 60,(some (58,false)),.mv (.t 5)⟩,⟨some 61,(some (58,false)),.mv (.t 6)⟩,⟨some 62,(some (58,false)),.iadr 1 (.t 60) (.t 61)⟩,⟨some 63,(some (58,false)),.load none (.t 62)⟩,⟨some 64,(some (58,false)),.bin 0 .lss (.t 59) (.t 63)⟩,⟨some 65,none,.pick (.t 58) (.c (.bool true)) (.t 64)⟩])
 (.cond (.t 65) (.ops [⟨some 66,none,.mv (.t 5)⟩,⟨some 67,none,.mv (.t 6)⟩,⟨some 68,none,.mv (.t 9)⟩,⟨some 69,none,.iadr 1 (.t 66) (.t 67)⟩,⟨none,none,.store 1 (.t 69) (.t 68)⟩]) (.skip)))))))
 (.ops [⟨some 70,none,.bin 0 .add (.t 24) (.c (.int .i64 1))⟩,⟨some 24,none,.mv (.t 70)⟩])))))))))
 (.ops [⟨some 17,none,.mv (.t 6)⟩,⟨some 18,none,.bin 0 .add (.t 17) (.c (.int .i64 1))⟩,⟨some 6,none,.mv (.t 18)⟩]))))))
 (.seq (.ops [⟨some 71,none,.mv (.t 5)⟩,⟨some 4,none,.mv (.t 71)⟩])
 (.ret))))⟩
theorem c83 : compF Go.Proofs.Tryz.prog 83 = some a83 := by kernel_rfl
def a84 : AFn := ⟨19,[.t 4],.seq (.ops [⟨some 4,none,.mv (.c (.int .i64 0))⟩])
 (.seq (.seq (.ops [⟨some 6,none,.mv (.t 0)⟩,⟨some 7,none,.len false (.t 6)⟩,⟨some 8,none,.mv (.c (.int .i64 0))⟩])
 (.block 0 (.loop (.seq (.ops [⟨some 9,none,.bin 0 .lss (.t 8) (.t 7)⟩])
 (.seq (.cond (.t 9) (.skip) (.exit 0))
 (.seq (.block 1 (.seq (.ops [⟨some 10,none,.mv (.t 8)⟩,⟨some 5,none,.mv (.t 10)⟩])
 (.seq (.ops [⟨some 11,none,.mv (.t 1)⟩,⟨some 12,none,.mv (.t 0)⟩,⟨some 13,none,.mv (.t 5)⟩,⟨some 14,none,.iadr 3 (.t 12) (.t 13)⟩,⟨some 15,none,.load (some 3) (.t 14)⟩,⟨some 16,none,.callv (.t 11) [(.t 15)]⟩])
 (.cond (.t 16) (.seq (.ops [⟨some 17,none,.mv (.t 5)⟩,⟨some 4,none,.mv (.t 17)⟩])
 (.ret)) (.skip)))))
 (.ops [⟨some 18,none,.bin 0 .add (.t 8) (.c (.int .i64 1))⟩,⟨some 8,none,.mv (.t 18)⟩])))))))
 (.seq (.ops [⟨some 4,none,.mv (.c (.int .i64 (-1)))⟩])
 (.ret)))⟩
theorem c84 : compF Go.Proofs.Tryz.prog 84 = some a84 := by kernel_rfl
def a85 : AFn := ⟨27,[.t 4],.seq (.ops [⟨some 3,none,.box 123 (.t 0)⟩,⟨some 4,none,.mv (.c (.bool false))⟩])
 (.seq (.any [(⟨some 5,none,.load none (.t 1)⟩,[]),(⟨some 6,none,.fadr 2 (.t 3)⟩,[0]),(⟨some 7,none,.load none (.t 6)⟩,[0]),(⟨some 8,none,.bin 0 .and (.t 5) (.t 7)⟩,[]),(⟨some 9,none,.fadr 2 (.t 3)⟩,[0,1,2,3]),(⟨some 10,none,.load none (.t 9)⟩,[0,1,2,3]),(⟨some 11,none,.bin 0 .eql (.t 8) (.t 10)⟩,[]),(⟨some 12,none,.mv (.t 11)⟩,[]),(⟨some 13,(some (12,true)),.load none (.t 2)⟩,[]),(⟨some 14,(some (12,true)),.load none (.t 1)⟩,[8]),(⟨some 15,(some (12,true)),.fadr 2 (.t 3)⟩,[8,9]),(⟨some 16,(some (12,true)),.load none (.t 15)⟩,[8,9]),(⟨some 17,(some (12,true)),.bin 0 .sub (.t 14) (.t 16)⟩,[8]),(⟨some 18,(some (12,true)),.iadr 1 (.t 13) (.t 17)⟩,[]),(⟨some 19,(some (12,true)),.load none (.t 18)⟩,[]),(⟨some 20,(some (12,true)),.load none (.t 2)⟩,[8,9,10,11,12,13,14]),(⟨some 21,(some (12,true)),.load none (.t 1)⟩,[8,9,10,11,12,13,14,15]),(⟨some 22,(some (12,true)),.iadr 1 (.t 20) (.t 21)⟩,[8,9,10,11,12,13,14]),(⟨some 23,(some (12,true)),.load none (.t 22)⟩,[8,9,10,11,12,13,14]),(⟨some 24,(some (12,true)),.bin 0 .sub (.t 23) (.c (.int .i64 1))⟩,[8,9,10,11,12,13,14]),(⟨some 25,(some (12,true)),.bin 0 .eql (.t 19) (.t 24)⟩,[]),(⟨some 26,none,.pick (.t 12) (.t 25) (.c (.bool false))⟩,[]),(⟨some 4,none,.mv (.t 26)⟩,[])])
 (.ret))⟩
theorem c85 : compF Go.Proofs.Tryz.prog 85 = some a85 := by kernel_rfl
def a100 : AFn := ⟨6,[.t 2],.seq (.ops [⟨some 2,none,.mv (.c (.bool false))⟩])
 (.seq (.ops [⟨some 3,none,.mv (.t 0)⟩,⟨some 4,none,.s2b (.t 3)⟩,⟨some 5,none,.call 50 [(.t 4),(.c (.fn 154 []))]⟩,⟨some 2,none,.mv (.t 5)⟩])
 (.ret))⟩
theorem c100 : compF Go.Proofs.Tryz.prog 100 = some a100 := by kernel_rfl
def a101 : AFn := ⟨17,[.t 2],.seq (.ops [⟨some 2,none,.mv (.c (.bool false))⟩])
 (.seq (.ops [⟨some 3,none,.mv (.t 0)⟩,⟨some 4,none,.bin 0 .geq (.t 3) (.c (.int .u8 48))⟩,⟨some 5,none,.mv (.t 4)⟩,⟨some 6,(some (5,true)),.mv (.t 0)⟩,⟨some 7,(some (5,true)),.bin 0 .leq (.t 6) (.c (.int .u8 57))⟩,⟨some 8,none,.pick (.t 5) (.t 7) (.c (.bool false))⟩,⟨some 9,none,.mv (.t 8)⟩,⟨some 10,(some (9,false)),.mv (.t 0)⟩,⟨some 11,(some (9,false)),.bin 0 .geq (.t 10) (.c (.int .u8 97))⟩,⟨some 12,(some (9,false)),.mv (.t 11)⟩,⟨some 13,(some (12,true)),.mv (.t 0)⟩,⟨some 14,(some (12,true)),.bin 0 .leq (.t 13) (.c (.int .u8 122))⟩,⟨some 15,(some (9,false)),.pick (.t 12) (.t 14) (.c (.bool false))⟩,⟨some 16,none,.pick (.t 9) (.c (.bool true)) (.t 15)⟩,⟨some 2,none,.mv (.t 16)⟩])
 (.ret))⟩
theorem c101 : compF Go.Proofs.Tryz.prog 101 = some a101 := by kernel_rfl
def a102 : AFn := ⟨30,[.t 4,.t 5],.seq (.ops [⟨some 2,none,.box 28 (.t 0)⟩,⟨some 4,none,.mv (.c (.int .i64 0))⟩,⟨some 5,none,.mv (.c (.int .i64 0))⟩])
 (.seq (.seq (.ops [⟨some 9,none,.mv (.t 1)⟩,⟨some 10,none,.len false (.t 9)⟩,⟨some 11,none,.mv (.c (.int .i64 0))⟩])
 (.block 0 (.loop (.seq (.ops [⟨some 12,none,.bin 0 .lss (.t 11) (.t 10)⟩])
 (.seq (.cond (.t 12) (.skip) (.exit 0))
 (.seq (.block 1 (.seq (.ops [⟨some 13,none,.iadr 2 (.t 9) (.t 11)⟩,⟨some 14,none,.load (some 2) (.t 13)⟩,⟨some 7,none,.alloc 34 [(.int .i64 0),(.int .i64 0)]⟩,⟨none,none,.store 2 (.t 7) (.t 14)⟩])
 (.seq (.ops [⟨some 15,none,.load (some 2) (.t 2)⟩,⟨some 16,none,.load (some 2) (.t 7)⟩,⟨some 17,none,.call 60 [(.t 15),(.t 16)]⟩,⟨some 8,none,.mv (.t 17)⟩])
 (.seq (.seq (.ops [⟨some 18,none,.mv (.t 8)⟩,⟨some 19,none,.call 61 [(.t 18)]⟩])
 (.cond (.t 19) (.ops [⟨some 20,none,.mv (.t 5)⟩,⟨some 21,none,.bin 0 .add (.t 20) (.c (.int .i64 1))⟩,⟨some 5,none,.mv (.t 21)⟩]) (.skip)))
 (.seq (.ops [⟨some 22,none,.load (some 2) (.t 2)⟩,⟨some 23,none,.mv (.t 8)⟩,⟨some 24,none,.call 156 [(.t 22),(.t 23)]⟩])
 (.cond (.t 24) (.ops [⟨some 25,none,.mv (.t 4)⟩,⟨some 26,none,.bin 0 .add (.t 25) (.c (.int .i64 1))⟩,⟨some 4,none,.mv (.t 26)⟩]) (.skip)))))))
 (.ops [⟨some 27,none,.bin 0 .add (.t 11) (.c (.int .i64 1))⟩,⟨some 11,none,.mv (.t 27)⟩])))))))
 (.seq (.ops [⟨some 28,none,.mv (.t 4)⟩,⟨some 29,none,.mv (.t 5)⟩,⟨some 4,none,.mv (.t 28)⟩,⟨some 5,none,.mv (.t 29)⟩])
 (.ret)))⟩
theorem c102 : compF Go.Proofs.Tryz.prog 102 = some a102 := by kernel_rfl
def a103 : AFn := ⟨19,[.c 4 (some 2)],.seq (.ops [⟨some 4,none,.alloc 67 [(.int .i64 0),(.int .i64 0)]⟩])
 (.seq (.ops [⟨some 6,none,.mv (.t 0)⟩,⟨some 7,none,.mv (.t 0)⟩,⟨some 8,none,.un .neg (.t 7)⟩,⟨some 9,none,.mm true (.t 6) [(.t 8)]⟩,⟨some 10,none,.mv (.t 1)⟩,⟨some 11,none,.call 157 [(.t 9),(.t 10)]⟩,⟨some 5,none,.mv (.t 11)⟩])
 (.seq (.any [(⟨some 12,none,.mv (.t 0)⟩,[]),(⟨some 13,none,.mv (.t 5)⟩,[0]),(⟨some 14,none,.bin 0 .quo (.t 12) (.t 13)⟩,[]),(⟨some 15,none,.mv (.t 1)⟩,[0,1,2]),(⟨some 16,none,.mv (.t 5)⟩,[0,1,2,3]),(⟨some 17,none,.bin 0 .quo (.t 15) (.t 16)⟩,[0,1,2]),(⟨some 18,none,.build [(.int .i64 0),(.int .i64 0)] [(0,1,(.t 14)),(1,1,(.t 17))]⟩,[]),(⟨none,none,.store 2 (.t 4) (.t 18)⟩,[])])
 (.ret)))⟩
theorem c103 : compF Go.Proofs.Tryz.prog 103 = some a103 := by kernel_rfl
def a117 : AFn := ⟨16,[.t 4],.seq (.ops [⟨some 4,none,.mv (.c (.int .i64 0))⟩])
 (.seq (.seq (.ops [⟨some 5,none,.mv (.t 1)⟩,⟨some 6,none,.bin 0 .lss (.t 5) (.c (.int .i64 1))⟩])
 (.cond (.t 6) (.seq (.ops [⟨some 4,none,.mv (.c (.int .i64 0))⟩])
 (.ret)) (.skip)))
 (.seq (.ops [⟨some 7,none,.mv (.t 0)⟩,⟨some 8,none,.mv (.t 1)⟩,⟨some 9,none,.bin 0 .rem (.t 7) (.t 8)⟩,⟨some 0,none,.mv (.t 9)⟩])
 (.seq (.seq (.ops [⟨some 10,none,.mv (.t 0)⟩,⟨some 11,none,.bin 0 .lss (.t 10) (.c (.int .i64 0))⟩])
 (.cond (.t 11) (.ops [⟨some 12,none,.mv (.t 0)⟩,⟨some 13,none,.mv (.t 1)⟩,⟨some 14,none,.bin 0 .add (.t 12) (.t 13)⟩,⟨some 0,none,.mv (.t 14)⟩]) (.skip)))
 (.seq (.ops [⟨some 15,none,.mv (.t 0)⟩,⟨some 4,none,.mv (.t 15)⟩])
 (.ret)))))⟩
theorem c117 : compF Go.Proofs.Tryz.prog 117 = some a117 := by kernel_rfl
def a118 : AFn := ⟨18,[.t 2],.seq (.ops [⟨some 2,none,.mv (.c (.int .i64 0))⟩])
 (.seq (.ops [⟨some 3,none,.mv (.c (.int .i64 0))⟩])
 (.seq (.seq (.ops [⟨some 6,none,.mv (.t 0)⟩,⟨some 7,none,.len false (.t 6)⟩,⟨some 8,none,.mv (.c (.int .i64 0))⟩])
 (.block 0 (.loop (.seq (.ops [⟨some 9,none,.bin 0 .lss (.t 8) (.t 7)⟩])
 (.seq (.cond (.t 9) (.skip) (.exit 0))
 (.seq (.block 1 (.seq (.ops [⟨some 10,none,.iadr 1 (.t 6) (.t 8)⟩,⟨some 11,none,.load none (.t 10)⟩,⟨some 5,none,.mv (.t 11)⟩])
 (.seq (.ops [⟨some 12,none,.mv (.t 5)⟩,⟨some 13,none,.mv (.t 3)⟩,⟨some 14,none,.bin 0 .neq (.t 12) (.t 13)⟩])
 (.cond (.t 14) (.seq (.ops [⟨some 15,none,.mv (.t 5)⟩,⟨some 2,none,.mv (.t 15)⟩])
 (.ret)) (.skip)))))
 (.ops [⟨some 16,none,.bin 0 .add (.t 8) (.c (.int .i64 1))⟩,⟨some 8,none,.mv (.t 16)⟩])))))))
 (.seq (.ops [⟨some 17,none,.mv (.t 3)⟩,⟨some 2,none,.mv (.t 17)⟩])
 (.ret))))⟩
theorem c118 : compF Go.Proofs.Tryz.prog 118 = some a118 := by kernel_rfl
def a119 : AFn := ⟨20,[.t 4],.seq (.ops [⟨some 4,none,.mv (.c (.int .i64 0))⟩])
 (.seq (.ops [⟨some 7,none,.mv (.t 0)⟩,⟨some 8,none,.call 167 [(.t 7)]⟩,⟨some 5,none,.mv (.t 8)⟩])
 (.seq (.ops [⟨some 9,none,.mv (.t 1)⟩,⟨some 10,none,.call 167 [(.t 9)]⟩,⟨some 6,none,.mv (.t 10)⟩])
 (.seq (.seq (.ops [⟨some 11,none,.mv (.t 5)⟩])
 (.cond (.t 11) (.seq (.seq (.ops [⟨some 12,none,.mv (.t 6)⟩])
 (.cond (.t 12) (.seq (.ops [⟨some 4,none,.mv (.c (.int .i64 0))⟩])
 (.ret)) (.skip)))
 (.seq (.ops [⟨some 4,none,.mv (.c (.int .i64 (-1)))⟩])
 (.ret))) (.skip)))
 (.seq (.seq (.ops [⟨some 13,none,.mv (.t 6)⟩])
 (.cond (.t 13) (.seq (.ops [⟨some 4,none,.mv (.c (.int .i64 1))⟩])
 (.ret)) (.skip)))
 (.seq (.seq (.ops [⟨some 14,none,.mv (.t 0)⟩,⟨some 15,none,.mv (.t 1)⟩,⟨some 16,none,.bin 0 .lss (.t 14) (.t 15)⟩])
 (.cond (.t 16) (.seq (.ops [⟨some 4,none,.mv (.c (.int .i64 (-1)))⟩])
 (.ret)) (.skip)))
 (.seq (.seq (.ops [⟨some 17,none,.mv (.t 0)⟩,⟨some 18,none,.mv (.t 1)⟩,⟨some 19,none,.bin 0 .gtr (.t 17) (.t 18)⟩])
 (.cond (.t 19) (.seq (.ops [⟨some 4,none,.mv (.c (.int .i64 1))⟩])
 (.ret)) (.skip)))
 (.seq (.ops [⟨some 4,none,.mv (.c (.int .i64 0))⟩])
 (.ret))))))))⟩
theorem c119 : compF Go.Proofs.Tryz.prog 119 = some a119 := by kernel_rfl
def a120 : AFn := ⟨19,[.t 4],.seq (.ops [⟨some 4,none,.mv (.c (.int .i64 0))⟩])
 (.seq (.seq (.ops [⟨some 6,none,.mv (.t 0)⟩,⟨some 7,none,.len false (.t 6)⟩,⟨some 8,none,.mv (.c (.int .i64 0))⟩])
 (.block 0 (.loop (.seq (.ops [⟨some 9,none,.bin 0 .lss (.t 8) (.t 7)⟩])
 (.seq (.cond (.t 9) (.skip) (.exit 0))
 (.seq (.block 1 (.seq (.ops [⟨some 10,none,.mv (.t 8)⟩,⟨some 5,none,.mv (.t 10)⟩])
 (.seq (.ops [⟨some 11,none,.mv (.t 1)⟩,⟨some 12,none,.mv (.t 0)⟩,⟨some 13,none,.mv (.t 5)⟩,⟨some 14,none,.iadr 1 (.t 12) (.t 13)⟩,⟨some 15,none,.load none (.t 14)⟩,⟨some 16,none,.callv (.t 11) [(.t 15)]⟩])
 (.cond (.t 16) (.seq (.ops [⟨some 17,none,.mv (.t 5)⟩,⟨some 4,none,.mv (.t 17)⟩])
 (.ret)) (.skip)))))
 (.ops [⟨some 18,none,.bin 0 .add (.t 8) (.c (.int .i64 1))⟩,⟨some 8,none,.mv (.t 18)⟩])))))))
 (.seq (.ops [⟨some 4,none,.mv (.c (.int .i64 (-1)))⟩])
 (.ret)))⟩
theorem c120 : compF Go.Proofs.Tryz.prog 120 = some a120 := by kernel_rfl
def a121 : AFn := ⟨8,[.t 4],.seq (.ops [⟨some 4,none,.mv (.c (.int .i64 0))⟩])
 (.seq (.ops [⟨some 5,none,.mv (.t 0)⟩,⟨some 6,none,.mv (.t 1)⟩,⟨some 7,none,.call 168 [(.t 5),(.t 6)]⟩,⟨some 4,none,.mv (.t 7)⟩])
 (.ret))⟩
theorem c121 : compF Go.Proofs.Tryz.prog 121 = some a121 := by kernel_rfl
def a122 : AFn := ⟨15,[.t 2],.seq (.ops [⟨some 2,none,.mv (.c (.int .i64 0))⟩])
 (.seq (.seq (.ops [⟨some 5,none,.mv (.t 0)⟩,⟨some 6,none,.len false (.t 5)⟩,⟨some 7,none,.mv (.c (.int .i64 0))⟩])
 (.block 0 (.loop (.seq (.ops [⟨some 8,none,.bin 0 .lss (.t 7) (.t 6)⟩])
 (.seq (.cond (.t 8) (.skip) (.exit 0))
 (.seq (.block 1 (.seq (.ops [⟨some 9,none,.iadr 1 (.t 5) (.t 7)⟩,⟨some 10,none,.load none (.t 9)⟩,⟨some 4,none,.mv (.t 10)⟩])
 (.seq (.ops [⟨some 11,none,.mv (.t 4)⟩,⟨some 12,none,.bin 0 .neq (.t 11) (.c (.int .i64 0))⟩])
 (.cond (.t 12) (.seq (.ops [⟨some 13,none,.mv (.t 4)⟩,⟨some 2,none,.mv (.t 13)⟩])
 (.ret)) (.skip)))))
 (.ops [⟨some 14,none,.bin 0 .add (.t 7) (.c (.int .i64 1))⟩,⟨some 7,none,.mv (.t 14)⟩])))))))
 (.seq (.ops [⟨some 2,none,.mv (.c (.int .i64 0))⟩])
 (.ret)))⟩
theorem c122 : compF Go.Proofs.Tryz.prog 122 = some a122 := by kernel_rfl
def a123 : AFn := ⟨19,[.t 4],.seq (.ops [⟨some 4,none,.mv (.c (.int .i64 0))⟩])
 (.seq (.seq (.ops [⟨some 6,none,.mv (.t 0)⟩,⟨some 7,none,.len false (.t 6)⟩,⟨some 8,none,.mv (.c (.int .i64 0))⟩])
 (.block 0 (.loop (.seq (.ops [⟨some 9,none,.bin 0 .lss (.t 8) (.t 7)⟩])
 (.seq (.cond (.t 9) (.skip) (.exit 0))
 (.seq (.block 1 (.seq (.ops [⟨some 10,none,.mv (.t 8)⟩,⟨some 5,none,.mv (.t 10)⟩])
 (.seq (.ops [⟨some 11,none,.mv (.t 1)⟩,⟨some 12,none,.mv (.t 0)⟩,⟨some 13,none,.mv (.t 5)⟩,⟨some 14,none,.iadr 2 (.t 12) (.t 13)⟩,⟨some 15,none,.load (some 2) (.t 14)⟩,⟨some 16,none,.callv (.t 11) [(.t 15)]⟩])
 (.cond (.t 16) (.seq (.ops [⟨some 17,none,.mv (.t 5)⟩,⟨some 4,none,.mv (.t 17)⟩])
 (.ret)) (.skip)))))
 (.ops [⟨some 18,none,.bin 0 .add (.t 8) (.c (.int .i64 1))⟩,⟨some 8,none,.mv (.t 18)⟩])))))))
 (.seq (.ops [⟨some 4,none,.mv (.c (.int .i64 (-1)))⟩])
 (.ret)))⟩
theorem c123 : compF Go.Proofs.Tryz.prog 123 = some a123 := by kernel_rfl
def a124 : AFn := ⟨14,[],.seq (.ops [⟨some 5,none,.mv (.t 0)⟩,⟨some 6,none,.len false (.t 5)⟩,⟨some 4,none,.mv (.t 6)⟩])
 (.ops [⟨some 7,none,.mv (.t 0)⟩,⟨some 8,none,.mv (.t 4)⟩,⟨some 9,none,.mv (.t 4)⟩,⟨some 10,none,.conv .u64 (.t 9)⟩,⟨some 11,none,.call 134 [(.t 10)]⟩,⟨some 12,none,.mv (.t 1)⟩,⟨some 13,none,.call 169 [(.t 7),(.c (.int .i64 0)),(.t 8),(.t 11),(.t 12)]⟩])⟩
theorem c124 : compF Go.Proofs.Tryz.prog 124 = some a124 := by kernel_rfl
def a125 : AFn := ⟨61,[.t 2],.seq (.ops [⟨some 2,none,.mv (.c (.lit true 0 []))⟩])
 (.seq (.seq (.ops [⟨some 6,none,.mv (.t 0)⟩,⟨some 7,none,.len false (.t 6)⟩,⟨some 8,none,.bin 0 .lss (.t 7) (.c (.int .i64 2))⟩])
 (.cond (.t 8) (.seq (.ops [⟨some 9,none,.mv (.t 0)⟩,⟨some 2,none,.mv (.t 9)⟩])
 (.ret)) (.skip)))
 (.seq (.seq (.ops [⟨some 3,none,.mv (.c (.int .i64 1))⟩])
 (.block 0 (.loop (.seq (.seq (.ops [⟨some 10,none,.mv (.t 3)⟩,⟨some 11,none,.mv (.t 0)⟩,⟨some 12,none,.len false (.t 11)⟩,⟨some 13,none,.bin 0 .lss (.t 10) (.t 12)⟩])
 (.cond (.t 13) (.skip) (.exit 0)))
 (.seq (.block 1 (.seq (.any [(⟨some 16,none,.mv (.t 0)⟩,[]),(⟨some 17,none,.mv (.t 3)⟩,[0]),(⟨some 18,none,.iadr 2 (.t 16) (.t 17)⟩,[]),(⟨some 19,none,.load (some 2) (.t 18)⟩,[]),(⟨some 20,none,.mv (.t 0)⟩,[0,1,2,3]),(⟨some 21,none,.mv (.t 3)⟩,[0,1,2,3,4]),(⟨some 22,none,.bin 0 .sub (.t 21) (.c (.int .i64 1))⟩,[0,1,2,3,4]),(⟨some 23,none,.iadr 2 (.t 20) (.t 22)⟩,[0,1,2,3]),(⟨some 24,none,.load (some 2) (.t 23)⟩,[0,1,2,3]),(⟨some 25,none,.eqs false [0,0] (.t 19) (.t 24)⟩,[])])
 (.cond (.t 25) (.seq (.ops [⟨some 26,none,.mv (.t 0)⟩,⟨some 27,none,.mv (.t 3)⟩,⟨some 28,none,.slc 2 (.t 26) (some (.t 27)) none⟩,⟨some 4,none,.mv (.t 28)⟩])
 (.seq (.seq (.ops [⟨some 5,none,.mv (.c (.int .i64 1))⟩])
 (.block 2 (.loop (.seq (.seq (.ops [⟨some 29,none,.mv (.t 5)⟩,⟨some 30,none,.mv (.t 4)⟩,⟨some 31,none,.len false (.t 30)⟩,⟨some 32,none,.bin 0 .lss (.t 29) (.t 31)⟩])
 (.cond (.t 32) (.skip) (.exit 2)))
 (.seq (.block 3 (.seq (.any [(⟨some 35,none,.mv (.t 4)⟩,[]),(⟨some 36,none,.mv (.t 5)⟩,[0]),(⟨some 37,none,.iadr 2 (.t 35) (.t 36)⟩,[]),(⟨some 38,none,.load (some 2) (.t 37)⟩,[]),(⟨some 39,none,.mv (.t 4)⟩,[0,1,2,3]),(⟨some 40,none,.mv (.t 5)⟩,[0,1,2,3,4]),(⟨some 41,none,.bin 0 .sub (.t 40) (.c (.int .i64 1))⟩,[0,1,2,3,4]),(⟨some 42,none,.iadr 2 (.t 39) (.t 41)⟩,[0,1,2,3]),(⟨some 43,none,.load (some 2) (.t 42)⟩,[0,1,2,3]),(⟨some 44,none,.eqs true [0,0] (.t 38) (.t 43)⟩,[])])
 (.cond (.t 44) (.seq (.ops [⟨some 45,none,.mv (.t 0)⟩,⟨some 46,none,.mv (.t 3)⟩,⟨some 47,none,.mv (.t 4)⟩,⟨some 48,none,.mv (.t 5)⟩,⟨some 49,none,.iadr 2 (.t 47) (.t 48)⟩,⟨some 50,none,.load (some 2) (.t 49)⟩,⟨some 51,none,.iadr 2 (.t 45) (.t 46)⟩,⟨none,none,.store 2 (.t 51) (.t 50)⟩])
 (.ops [⟨some 52,none,.mv (.t 3)⟩,⟨some 53,none,.bin 0 .add (.t 52) (.c (.int .i64 1))⟩,⟨some 3,none,.mv (.t 53)⟩])) (.skip))))
 (.ops [⟨some 33,none,.mv (.t 5)⟩,⟨some 34,none,.bin 0 .add (.t 33) (.c (.int .i64 1))⟩,⟨some 5,none,.mv (.t 34)⟩]))))))
 (.seq (.ops [⟨some 54,none,.mv (.t 0)⟩,⟨some 55,none,.mv (.t 3)⟩,⟨some 56,none,.slc 2 (.t 54) (some (.t 55)) none⟩,⟨none,none,.clr [(.int .i64 0),(.int .i64 0)] (.t 56)⟩])
 (.seq (.ops [⟨some 57,none,.mv (.t 0)⟩,⟨some 58,none,.mv (.t 3)⟩,⟨some 59,none,.slc 2 (.t 57) none (some (.t 58))⟩,⟨some 2,none,.mv (.t 59)⟩])
 (.ret))))) (.skip))))
 (.ops [⟨some 14,none,.mv (.t 3)⟩,⟨some 15,none,.bin 0 .add (.t 14) (.c (.int .i64 1))⟩,⟨some 3,none,.mv (.t 15)⟩]))))))
 (.seq (.ops [⟨some 60,none,.mv (.t 0)⟩,⟨some 2,none,.mv (.t 60)⟩])
 (.ret))))⟩
theorem c125 : compF Go.Proofs.Tryz.prog 125 = some a125 := by kernel_rfl
def a126 : AFn := ⟨19,[.t 4],.seq (.ops [⟨some 3,none,.box 34 (.t 1)⟩,⟨some 4,none,.mv (.c (.int .i64 0))⟩])
 (.seq (.seq (.ops [⟨some 6,none,.mv (.t 0)⟩,⟨some 7,none,.len false (.t 6)⟩,⟨some 8,none,.mv (.c (.int .i64 0))⟩])
 (.block 0 (.loop (.seq (.ops [⟨some 9,none,.bin 0 .lss (.t 8) (.t 7)⟩])
 (.seq (.cond (.t 9) (.skip) (.exit 0))
 (.seq (.block 1 (.seq (.ops [⟨some 10,none,.mv (.t 8)⟩,⟨some 5,none,.mv (.t 10)⟩])
 (.seq (.any [(⟨some 11,none,.load (some 2) (.t 3)⟩,[]),(⟨some 12,none,.mv (.t 0)⟩,[0]),(⟨some 13,none,.mv (.t 5)⟩,[0,1]),(⟨some 14,none,.iadr 2 (.t 12) (.t 13)⟩,[0]),(⟨some 15,none,.load (some 2) (.t 14)⟩,[0]),(⟨some 16,none,.eqs false [0,0] (.t 11) (.t 15)⟩,[])])
 (.cond (.t 16) (.seq (.ops [⟨some 17,none,.mv (.t 5)⟩,⟨some 4,none,.mv (.t 17)⟩])
 (.ret)) (.skip)))))
 (.ops [⟨some 18,none,.bin 0 .add (.t 8) (.c (.int .i64 1))⟩,⟨some 8,none,.mv (.t 18)⟩])))))))
 (.seq (.ops [⟨some 4,none,.mv (.c (.int .i64 (-1)))⟩])
 (.ret)))⟩
theorem c126 : compF Go.Proofs.Tryz.prog 126 = some a126 := by kernel_rfl
def a127 : AFn := ⟨8,[.t 3],.seq (.ops [⟨some 2,none,.box 34 (.t 0)⟩,⟨some 3,none,.mv (.c (.bool false))⟩])
 (.seq (.ops [⟨some 4,none,.load (some 2) (.t 1)⟩,⟨some 5,none,.load (some 2) (.t 2)⟩,⟨some 6,none,.call 71 [(.t 4),(.t 5)]⟩,⟨some 7,none,.bin 0 .eql (.t 6) (.c (.int .u8 63))⟩,⟨some 3,none,.mv (.t 7)⟩])
 (.ret))⟩
theorem c127 : compF Go.Proofs.Tryz.prog 127 = some a127 := by kernel_rfl
def a133 : AFn := ⟨148,[],.seq (.ops [⟨some 10,none,.mv (.c (.bool true))⟩])
 (.seq (.ops [⟨some 11,none,.mv (.c (.bool true))⟩])
 (.block 0 (.loop (.block 1 (.seq (.ops [⟨some 21,none,.mv (.t 2)⟩,⟨some 22,none,.mv (.t 1)⟩,⟨some 23,none,.bin 0 .sub (.t 21) (.t 22)⟩,⟨some 12,none,.mv (.t 23)⟩])
 (.seq (.seq (.ops [⟨some 24,none,.mv (.t 12)⟩,⟨some 25,none,.bin 0 .leq (.t 24) (.c (.int .i64 12))⟩])
 (.cond (.t 25) (.seq (.ops [⟨some 26,none,.mv (.t 0)⟩,⟨some 27,none,.mv (.t 1)⟩,⟨some 28,none,.mv (.t 2)⟩,⟨some 29,none,.mv (.t 4)⟩,⟨some 30,none,.call 173 [(.t 26),(.t 27),(.t 28),(.t 29)]⟩])
 (.ret)) (.skip)))
 (.seq (.seq (.ops [⟨some 31,none,.mv (.t 3)⟩,⟨some 32,none,.bin 0 .eql (.t 31) (.c (.int .i64 0))⟩])
 (.cond (.t 32) (.seq (.ops [⟨some 33,none,.mv (.t 0)⟩,⟨some 34,none,.mv (.t 1)⟩,⟨some 35,none,.mv (.t 2)⟩,⟨some 36,none,.mv (.t 4)⟩,⟨some 37,none,.call 174 [(.t 33),(.t 34),(.t 35),(.t 36)]⟩])
 (.ret)) (.skip)))
 (.seq (.seq (.ops [⟨some 38,none,.mv (.t 10)⟩,⟨some 39,none,.un .not (.t 38)⟩])
 (.cond (.t 39) (.seq (.ops [⟨some 40,none,.mv (.t 0)⟩,⟨some 41,none,.mv (.t 1)⟩,⟨some 42,none,.mv (.t 2)⟩,⟨some 43,none,.mv (.t 4)⟩,⟨some 44,none,.call 175 [(.t 40),(.t 41),(.t 42),(.t 43)]⟩])
 (.ops [⟨some 45,none,.mv (.t 3)⟩,⟨some 46,none,.bin 0 .sub (.t 45) (.c (.int .i64 1))⟩,⟨some 3,none,.mv (.t 46)⟩])) (.skip)))
 (.seq (.ops [⟨some 48,none,.mv (.t 0)⟩,⟨some 49,none,.mv (.t 1)⟩,⟨some 50,none,.mv (.t 2)⟩,⟨some 51,none,.mv (.t 4)⟩,⟨some 52,none,.call 176 [(.t 48),(.t 49),(.t 50),(.t 51)]⟩,⟨some 47,none,.mv (.t 52)⟩,⟨some 53,none,.ext (.t 47) 0⟩,⟨some 54,none,.ext (.t 47) 1⟩,⟨some 13,none,.mv (.t 53)⟩,⟨some 14,none,.mv (.t 54)⟩])
 (.seq (.seq (.ops [⟨some 55,none,.mv (.t 14)⟩,⟨some 56,none,.bin 0 .eql (.t 55) (.c (.int .i64 2))⟩])
 (.cond (.t 56) (.seq (.ops [⟨some 57,none,.mv (.t 0)⟩,⟨some 58,none,.mv (.t 1)⟩,⟨some 59,none,.mv (.t 2)⟩,⟨some 60,none,.mv (.t 4)⟩,⟨some 61,none,.call 177 [(.t 57),(.t 58),(.t 59),(.t 60)]⟩])
 (.seq (.ops [⟨some 62,none,.mv (.t 2)⟩,⟨some 63,none,.bin 0 .sub (.t 62) (.c (.int .i64 1))⟩,⟨some 64,none,.mv (.t 13)⟩,⟨some 65,none,.mv (.t 1)⟩,⟨some 66,none,.bin 0 .sub (.t 64) (.t 65)⟩,⟨some 67,none,.bin 0 .sub (.t 63) (.t 66)⟩,⟨some 13,none,.mv (.t 67)⟩])
 (.ops [⟨some 14,none,.mv (.c (.int .i64 1))⟩]))) (.skip)))
 (.seq (.seq (.ops [⟨some 68,none,.mv (.t 10)⟩,⟨some 69,none,.mv (.t 68)⟩,⟨some 70,(some (69,true)),.mv (.t 11)⟩,⟨some 71,none,.pick (.t 69) (.t 70) (.c (.bool false))⟩,⟨some 72,none,.mv (.t 71)⟩,⟨some 73,(some (72,true)),.mv (.t 14)⟩,⟨some 74,(some (72,true)),.bin 0 .eql (.t 73) (.c (.int .i64 1))⟩,⟨some 75,none,.pick (.t 72) (.t 74) (.c (.bool false))⟩])
 (.cond (.t 75) (.seq (.ops [⟨some 76,none,.mv (.t 0)⟩,⟨some 77,none,.mv (.t 1)⟩,⟨some 78,none,.mv (.t 2)⟩,⟨some 79,none,.mv (.t 4)⟩,⟨some 80,none,.call 178 [(.t 76),(.t 77),(.t 78),(.t 79)]⟩])
 (.cond (.t 80) (.ret) (.skip))) (.skip)))
 (.seq (.seq (.any [(⟨some 81,none,.mv (.t 1)⟩,[]),(⟨some 82,none,.bin 0 .gtr (.t 81) (.c (.int .i64 0))⟩,[]),(⟨some 83,none,.mv (.t 82)⟩,[]),(⟨some 84,(some (83,true)),.mv (.t 4)⟩,[]),(⟨some 85,(some (83,true)),.mv (.t 0)⟩,[3]),(⟨some 86,(some (83,true)),.mv (.t 1)⟩,[3,4]),(⟨some 87,(some (83,true)),.bin 0 .sub (.t 86) (.c (.int .i64 1))⟩,[3,4]),(⟨some 88,(some (83,true)),.iadr 2 (.t 85) (.t 87)⟩,[3]),(⟨some 89,(some (83,true)),.load (some 2) (.t 88)⟩,[3]),(⟨some 90,(some (83,true)),.mv (.t 0)⟩,[3,4,5,6,7,8]),(⟨some 91,(some (83,true)),.mv (.t 13)⟩,[3,4,5,6,7,8,9]),(⟨some 92,(some (83,true)),.iadr 2 (.t 90) (.t 91)⟩,[3,4,5,6,7,8]),(⟨some 93,(some (83,true)),.load (some 2) (.t 92)⟩,[3,4,5,6,7,8]),(⟨some 94,(some (83,true)),.callv (.t 84) [(.t 89),(.t 93)]⟩,[]),(⟨some 95,(some (83,true)),.bin 0 .lss (.t 94) (.c (.int .i64 0))⟩,[]),(⟨some 96,(some (83,true)),.un .not (.t 95)⟩,[]),(⟨some 97,none,.pick (.t 83) (.t 96) (.c (.bool false))⟩,[])])
 (.cond (.t 97) (.seq (.ops [⟨some 98,none,.mv (.t 0)⟩,⟨some 99,none,.mv (.t 1)⟩,⟨some 100,none,.mv (.t 2)⟩,⟨some 101,none,.mv (.t 13)⟩,⟨some 102,none,.mv (.t 4)⟩,⟨some 103,none,.call 179 [(.t 98),(.t 99),(.t 100),(.t 101),(.t 102)]⟩,⟨some 15,none,.mv (.t 103)⟩])
 (.seq (.ops [⟨some 104,none,.mv (.t 15)⟩,⟨some 1,none,.mv (.t 104)⟩])
 (.exit 1))) (.skip)))
 (.seq (.ops [⟨some 106,none,.mv (.t 0)⟩,⟨some 107,none,.mv (.t 1)⟩,⟨some 108,none,.mv (.t 2)⟩,⟨some 109,none,.mv (.t 13)⟩,⟨some 110,none,.mv (.t 4)⟩,⟨some 111,none,.call 180 [(.t 106),(.t 107),(.t 108),(.t 109),(.t 110)]⟩,⟨some 105,none,.mv (.t 111)⟩,⟨some 112,none,.ext (.t 105) 0⟩,⟨some 113,none,.ext (.t 105) 1⟩,⟨some 16,none,.mv (.t 112)⟩,⟨some 17,none,.mv (.t 113)⟩])
 (.seq (.ops [⟨some 114,none,.mv (.t 17)⟩,⟨some 11,none,.mv (.t 114)⟩])
 (.seq (.ops [⟨some 115,none,.mv (.t 16)⟩,⟨some 116,none,.mv (.t 1)⟩,⟨some 117,none,.bin 0 .sub (.t 115) (.t 116)⟩,⟨some 118,none,.mv (.t 2)⟩,⟨some 119,none,.mv (.t 16)⟩,⟨some 120,none,.bin 0 .sub (.t 118) (.t 119)⟩,⟨some 18,none,.mv (.t 117)⟩,⟨some 19,none,.mv (.t 120)⟩])
 (.seq (.ops [⟨some 121,none,.mv (.t 12)⟩,⟨some 122,none,.bin 0 .quo (.t 121) (.c (.int .i64 8))⟩,⟨some 20,none,.mv (.t 122)⟩])
 (.seq (.ops [⟨some 123,none,.mv (.t 18)⟩,⟨some 124,none,.mv (.t 19)⟩,⟨some 125,none,.bin 0 .lss (.t 123) (.t 124)⟩])
 (.cond (.t 125) (.seq (.ops [⟨some 126,none,.mv (.t 18)⟩,⟨some 127,none,.mv (.t 20)⟩,⟨some 128,none,.bin 0 .geq (.t 126) (.t 127)⟩,⟨some 10,none,.mv (.t 128)⟩])
 (.seq (.ops [⟨some 129,none,.mv (.t 0)⟩,⟨some 130,none,.mv (.t 1)⟩,⟨some 131,none,.mv (.t 16)⟩,⟨some 132,none,.mv (.t 3)⟩,⟨some 133,none,.mv (.t 4)⟩,⟨some 134,none,.call 133 [(.t 129),(.t 130),(.t 131),(.t 132),(.t 133)]⟩])
 (.ops [⟨some 135,none,.mv (.t 16)⟩,⟨some 136,none,.bin 0 .add (.t 135) (.c (.int .i64 1))⟩,⟨some 1,none,.mv (.t 136)⟩]))) (.seq (.ops [⟨some 137,none,.mv (.t 19)⟩,⟨some 138,none,.mv (.t 20)⟩,⟨some 139,none,.bin 0 .geq (.t 137) (.t 138)⟩,⟨some 10,none,.mv (.t 139)⟩])
 (.seq (.ops [⟨some 140,none,.mv (.t 0)⟩,⟨some 141,none,.mv (.t 16)⟩,⟨some 142,none,.bin 0 .add (.t 141) (.c (.int .i64 1))⟩,⟨some 143,none,.mv (.t 2)⟩,⟨some 144,none,.mv (.t 3)⟩,⟨some 145,none,.mv (.t 4)⟩,⟨some 146,none,.call 133 [(.t 140),(.t 142),(.t 143),(.t 144),(.t 145)]⟩])
 (.ops [⟨some 147,none,.mv (.t 16)⟩,⟨some 2,none,.mv (.t 147)⟩])))))))))))))))))))))⟩
theorem c133 : compF Go.Proofs.Tryz.prog 133 = some a133 := by kernel_rfl
def a134 : AFn := ⟨8,[.t 2],.seq (.ops [⟨some 2,none,.mv (.c (.int .i64 0))⟩])
 (.seq (.cond (.c (.bool false)) (.seq (.ops [⟨some 3,none,.mv (.t 0)⟩,⟨some 4,none,.conv .u32 (.t 3)⟩,⟨some 5,none,.call 181 [(.t 4)]⟩,⟨some 2,none,.mv (.t 5)⟩])
 (.ret)) (.skip))
 (.seq (.ops [⟨some 6,none,.mv (.t 0)⟩,⟨some 7,none,.call 182 [(.t 6)]⟩,⟨some 2,none,.mv (.t 7)⟩])
 (.ret)))⟩
theorem c134 : compF Go.Proofs.Tryz.prog 134 = some a134 := by kernel_rfl
def a136 : AFn := ⟨9,[.t 4],.seq (.ops [⟨some 4,none,.mv (.c (.bool false))⟩])
 (.seq (.ops [⟨some 5,none,.mv (.t 0)⟩,⟨some 6,none,.mv (.t 1)⟩,⟨some 7,none,.call 123 [(.t 5),(.t 6)]⟩,⟨some 8,none,.bin 0 .geq (.t 7) (.c (.int .i64 0))⟩,⟨some 4,none,.mv (.t 8)⟩])
 (.ret))⟩
theorem c136 : compF Go.Proofs.Tryz.prog 136 = some a136 := by kernel_rfl
def a137 : AFn := ⟨7,[.t 3],.seq (.ops [⟨some 2,none,.box 34 (.t 0)⟩,⟨some 3,none,.mv (.c (.bool false))⟩])
 (.seq (.ops [⟨some 4,none,.load (some 2) (.t 1)⟩,⟨some 5,none,.load (some 2) (.t 2)⟩,⟨some 6,none,.call 75 [(.t 4),(.t 5)]⟩,⟨some 3,none,.mv (.t 6)⟩])
 (.ret))⟩
theorem c137 : compF Go.Proofs.Tryz.prog 137 = some a137 := by kernel_rfl
def a138 : AFn := ⟨14,[],.seq (.ops [⟨some 5,none,.mv (.t 0)⟩,⟨some 6,none,.len false (.t 5)⟩,⟨some 4,none,.mv (.t 6)⟩])
 (.ops [⟨some 7,none,.mv (.t 0)⟩,⟨some 8,none,.mv (.t 4)⟩,⟨some 9,none,.mv (.t 4)⟩,⟨some 10,none,.conv .u64 (.t 9)⟩,⟨some 11,none,.call 134 [(.t 10)]⟩,⟨some 12,none,.mv (.t 1)⟩,⟨some 13,none,.call 184 [(.t 7),(.c (.int .i64 0)),(.t 8),(.t 11),(.t 12)]⟩])⟩
theorem c138 : compF Go.Proofs.Tryz.prog 138 = some a138 := by kernel_rfl
def a140 : AFn := ⟨61,[.t 2],.seq (.ops [⟨some 2,none,.mv (.c (.lit true 0 []))⟩])
 (.seq (.seq (.ops [⟨some 6,none,.mv (.t 0)⟩,⟨some 7,none,.len false (.t 6)⟩,⟨some 8,none,.bin 0 .lss (.t 7) (.c (.int .i64 2))⟩])
 (.cond (.t 8) (.seq (.ops [⟨some 9,none,.mv (.t 0)⟩,⟨some 2,none,.mv (.t 9)⟩])
 (.ret)) (.skip)))
 (.seq (.seq (.ops [⟨some 3,none,.mv (.c (.int .i64 1))⟩])
 (.block 0 (.loop (.seq (.seq (.ops [⟨some 10,none,.mv (.t 3)⟩,⟨some 11,none,.mv (.t 0)⟩,⟨some 12,none,.len false (.t 11)⟩,⟨some 13,none,.bin 0 .lss (.t 10) (.t 12)⟩])
 (.cond (.t 13) (.skip) (.exit 0)))
 (.seq (.block 1 (.seq (.any [(⟨some 16,none,.mv (.t 0)⟩,[]),(⟨some 17,none,.mv (.t 3)⟩,[0]),(⟨some 18,none,.iadr 3 (.t 16) (.t 17)⟩,[]),(⟨some 19,none,.load (some 3) (.t 18)⟩,[]),(⟨some 20,none,.mv (.t 0)⟩,[0,1,2,3]),(⟨some 21,none,.mv (.t 3)⟩,[0,1,2,3,4]),(⟨some 22,none,.bin 0 .sub (.t 21) (.c (.int .i64 1))⟩,[0,1,2,3,4]),(⟨some 23,none,.iadr 3 (.t 20) (.t 22)⟩,[0,1,2,3]),(⟨some 24,none,.load (some 3) (.t 23)⟩,[0,1,2,3]),(⟨some 25,none,.eqs false [0,0,0] (.t 19) (.t 24)⟩,[])])
 (.cond (.t 25) (.seq (.ops [⟨some 26,none,.mv (.t 0)⟩,⟨some 27,none,.mv (.t 3)⟩,⟨some 28,none,.slc 3 (.t 26) (some (.t 27)) none⟩,⟨some 4,none,.mv (.t 28)⟩])
 (.seq (.seq (.ops [⟨some 5,none,.mv (.c (.int .i64 1))⟩])
 (.block 2 (.loop (.seq (.seq (.ops [⟨some 29,none,.mv (.t 5)⟩,⟨some 30,none,.mv (.t 4)⟩,⟨some 31,none,.len false (.t 30)⟩,⟨some 32,none,.bin 0 .lss (.t 29) (.t 31)⟩])
 (.cond (.t 32) (.skip) (.exit 2)))
 (.seq (.block 3 (.seq (.any [(⟨some 35,none,.mv (.t 4)⟩,[]),(⟨some 36,none,.mv (.t 5)⟩,[0]),(⟨some 37,none,.iadr 3 (.t 35) (.t 36)⟩,[]),(⟨some 38,none,.load (some 3) (.t 37)⟩,[]),(⟨some 39,none,.mv (.t 4)⟩,[0,1,2,3]),(⟨some 40,none,.mv (.t 5)⟩,[0,1,2,3,4]),(⟨some 41,none,.bin 0 .sub (.t 40) (.c (.int .i64 1))⟩,[0,1,2,3,4]),(⟨some 42,none,.iadr 3 (.t 39) (.t 41)⟩,[0,1,2,3]),(⟨some 43,none,.load (some 3) (.t 42)⟩,[0,1,2,3]),(⟨some 44,none,.eqs true [0,0,0] (.t 38) (.t 43)⟩,[])])
 (.cond (.t 44) (.seq (.ops [⟨some 45,none,.mv (.t 0)⟩,⟨some 46,none,.mv (.t 3)⟩,⟨some 47,none,.mv (.t 4)⟩,⟨some 48,none,.mv (.t 5)⟩,⟨some 49,none,.iadr 3 (.t 47) (.t 48)⟩,⟨some 50,none,.load (some 3) (.t 49)⟩,⟨some 51,none,.iadr 3 (.t 45) (.t 46)⟩,⟨none,none,.store 3 (.t 51) (.t 50)⟩])
 (.ops [⟨some 52,none,.mv (.t 3)⟩,⟨some 53,none,.bin 0 .add (.t 52) (.c (.int .i64 1))⟩,⟨some 3,none,.mv (.t 53)⟩])) (.skip))))
 (.ops [⟨some 33,none,.mv (.t 5)⟩,⟨some 34,none,.bin 0 .add (.t 33) (.c (.int .i64 1))⟩,⟨some 5,none,.mv (.t 34)⟩]))))))
 (.seq (.ops [⟨some 54,none,.mv (.t 0)⟩,⟨some 55,none,.mv (.t 3)⟩,⟨some 56,none,.slc 3 (.t 54) (some (.t 55)) none⟩,⟨none,none,.clr [(.int .i64 0),(.int .i64 0),(.int .i64 0)] (.t 56)⟩])
 (.seq (.ops [⟨some 57,none,.mv (.t 0)⟩,⟨some 58,none,.mv (.t 3)⟩,⟨some 59,none,.slc 3 (.t 57) none (some (.t 58))⟩,⟨some 2,none,.mv (.t 59)⟩])
 (.ret))))) (.skip))))
 (.ops [⟨some 14,none,.mv (.t 3)⟩,⟨some 15,none,.bin 0 .add (.t 14) (.c (.int .i64 1))⟩,⟨some 3,none,.mv (.t 15)⟩]))))))
 (.seq (.ops [⟨some 60,none,.mv (.t 0)⟩,⟨some 2,none,.mv (.t 60)⟩])
 (.ret))))⟩
theorem c140 : compF Go.Proofs.Tryz.prog 140 = some a140 := by kernel_rfl
def a154 : AFn := ⟨6,[.t 2],.seq (.ops [⟨some 2,none,.mv (.c (.bool false))⟩])
 (.seq (.ops [⟨some 3,none,.mv (.t 0)⟩,⟨some 4,none,.call 155 [(.t 3)]⟩,⟨some 5,none,.un .not (.t 4)⟩,⟨some 2,none,.mv (.t 5)⟩])
 (.ret))⟩
theorem c154 : compF Go.Proofs.Tryz.prog 154 = some a154 := by kernel_rfl
def a155 : AFn := ⟨17,[.t 2],.seq (.ops [⟨some 2,none,.mv (.c (.bool false))⟩])
 (.seq (.ops [⟨some 3,none,.mv (.t 0)⟩,⟨some 4,none,.call 101 [(.t 3)]⟩,⟨some 5,none,.mv (.t 4)⟩,⟨some 6,(some (5,false)),.mv (.t 0)⟩,⟨some 7,(some (5,false)),.bin 0 .eql (.t 6) (.c (.int .u8 46))⟩,⟨some 8,none,.pick (.t 5) (.c (.bool true)) (.t 7)⟩,⟨some 9,none,.mv (.t 8)⟩,⟨some 10,(some (9,false)),.mv (.t 0)⟩,⟨some 11,(some (9,false)),.bin 0 .eql (.t 10) (.c (.int .u8 63))⟩,⟨some 12,none,.pick (.t 9) (.c (.bool true)) (.t 11)⟩,⟨some 13,none,.mv (.t 12)⟩,⟨some 14,(some (13,false)),.mv (.t 0)⟩,⟨some 15,(some (13,false)),.bin 0 .eql (.t 14) (.c (.int .u8 42))⟩,⟨some 16,none,.pick (.t 13) (.c (.bool true)) (.t 15)⟩,⟨some 2,none,.mv (.t 16)⟩])
 (.ret))⟩
theorem c155 : compF Go.Proofs.Tryz.prog 155 = some a155 := by kernel_rfl
def a156 : AFn := ⟨14,[.t 4],.seq (.ops [⟨some 2,none,.box 28 (.t 0)⟩,⟨some 4,none,.mv (.c (.bool false))⟩])
 (.seq (.ops [⟨some 5,none,.mv (.t 1)⟩,⟨some 6,none,.call 101 [(.t 5)]⟩,⟨some 7,none,.mv (.t 6)⟩,⟨some 8,(some (7,true)),.fadr 1 (.t 2)⟩,⟨some 9,(some (7,true)),.load none (.t 8)⟩,⟨some 10,(some (7,true)),.mv (.t 1)⟩,⟨some 11,(some (7,true)),.call 121 [(.t 9),(.t 10)]⟩,⟨some 12,(some (7,true)),.bin 0 .geq (.t 11) (.c (.int .i64 0))⟩,⟨some 13,none,.pick (.t 7) (.t 12) (.c (.bool false))⟩,⟨some 4,none,.mv (.t 13)⟩])
 (.ret))⟩
theorem c156 : compF Go.Proofs.Tryz.prog 156 = some a156 := by kernel_rfl
def a157 : AFn := ⟨12,[.t 4],.seq (.ops [⟨some 4,none,.mv (.c (.int .i64 0))⟩])
 (.seq (.block 0 (.loop (.seq (.seq (.ops [⟨some 5,none,.mv (.t 1)⟩,⟨some 6,none,.bin 0 .neq (.t 5) (.c (.int .i64 0))⟩])
 (.cond (.t 6) (.skip) (.exit 0)))
 (.block 1 (.any [(⟨some 7,none,.mv (.t 1)⟩,[]),(⟨some 8,none,.mv (.t 0)⟩,[0]),(⟨some 9,none,.mv (.t 1)⟩,[0,1]),(⟨some 10,none,.bin 0 .rem (.t 8) (.t 9)⟩,[0]),(⟨some 0,none,.mv (.t 7)⟩,[2,3]),(⟨some 1,none,.mv (.t 10)⟩,[])])))))
 (.seq (.ops [⟨some 11,none,.mv (.t 0)⟩,⟨some 4,none,.mv (.t 11)⟩])
 (.ret)))⟩
theorem c157 : compF Go.Proofs.Tryz.prog 157 = some a157 := by kernel_rfl
def a167 : AFn := ⟨6,[.t 2],.seq (.ops [⟨some 2,none,.mv (.c (.bool false))⟩])
 (.seq (.ops [⟨some 3,none,.mv (.t 0)⟩,⟨some 4,none,.mv (.t 0)⟩,⟨some 5,none,.bin 0 .neq (.t 3) (.t 4)⟩,⟨some 2,none,.mv (.t 5)⟩])
 (.ret))⟩
theorem c167 : compF Go.Proofs.Tryz.prog 167 = some a167 := by kernel_rfl
def a168 : AFn := ⟨8,[.t 4],.seq (.ops [⟨some 4,none,.mv (.c (.int .i64 0))⟩])
 (.seq (.ops [⟨some 5,none,.mv (.t 0)⟩,⟨some 6,none,.mv (.t 1)⟩,⟨some 7,none,.call 200 [(.t 5),(.t 6)]⟩,⟨some 4,none,.mv (.t 7)⟩])
 (.ret))⟩
theorem c168 : compF Go.Proofs.Tryz.prog 168 = some a168 := by kernel_rfl
def a169 : AFn := ⟨148,[],.seq (.ops [⟨some 10,none,.mv (.c (.bool true))⟩])
 (.seq (.ops [⟨some 11,none,.mv (.c (.bool true))⟩])
 (.block 0 (.loop (.block 1 (.seq (.ops [⟨some 21,none,.mv (.t 2)⟩,⟨some 22,none,.mv (.t 1)⟩,⟨some 23,none,.bin 0 .sub (.t 21) (.t 22)⟩,⟨some 12,none,.mv (.t 23)⟩])
 (.seq (.seq (.ops [⟨some 24,none,.mv (.t 12)⟩,⟨some 25,none,.bin 0 .leq (.t 24) (.c (.int .i64 12))⟩])
 (.cond (.t 25) (.seq (.ops [⟨some 26,none,.mv (.t 0)⟩,⟨some 27,none,.mv (.t 1)⟩,⟨some 28,none,.mv (.t 2)⟩,⟨some 29,none,.mv (.t 4)⟩,⟨some 30,none,.call 201 [(.t 26),(.t 27),(.t 28),(.t 29)]⟩])
 (.ret)) (.skip)))
 (.seq (.seq (.ops [⟨some 31,none,.mv (.t 3)⟩,⟨some 32,none,.bin 0 .eql (.t 31) (.c (.int .i64 0))⟩])
 (.cond (.t 32) (.seq (.ops [⟨some 33,none,.mv (.t 0)⟩,⟨some 34,none,.mv (.t 1)⟩,⟨some 35,none,.mv (.t 2)⟩,⟨some 36,none,.mv (.t 4)⟩,⟨some 37,none,.call 202 [(.t 33),(.t 34),(.t 35),(.t 36)]⟩])
 (.ret)) (.skip)))
 (.seq (.seq (.ops [⟨some 38,none,.mv (.t 10)⟩,⟨some 39,none,.un .not (.t 38)⟩])
 (.cond (.t 39) (.seq (.ops [⟨some 40,none,.mv (.t 0)⟩,⟨some 41,none,.mv (.t 1)⟩,⟨some 42,none,.mv (.t 2)⟩,⟨some 43,none,.mv (.t 4)⟩,⟨some 44,none,.call 203 [(.t 40),(.t 41),(.t 42),(.t 43)]⟩])
 (.ops [⟨some 45,none,.mv (.t 3)⟩,⟨some 46,none,.bin 0 .sub (.t 45) (.c (.int .i64 1))⟩,⟨some 3,none,.mv (.t 46)⟩])) (.skip)))
 (.seq (.ops [⟨some 48,none,.mv (.t 0)⟩,⟨some 49,none,.mv (.t 1)⟩,⟨some 50,none,.mv (.t 2)⟩,⟨some 51,none,.mv (.t 4)⟩,⟨some 52,none,.call 204 [(.t 48),(.t 49),(.t 50),(.t 51)]⟩,⟨some 47,none,.mv (.t 52)⟩,⟨some 53,none,.ext (.t 47) 0⟩,⟨some 54,none,.ext (.t 47) 1⟩,⟨some 13,none,.mv (.t 53)⟩,⟨some 14,none,.mv (.t 54)⟩])
 (.seq (.seq (.ops [⟨some 55,none,.mv (.t 14)⟩,⟨some 56,none,.bin 0 .eql (.t 55) (.c (.int .i64 2))⟩])
 (.cond (.t 56) (.seq (.ops [⟨some 57,none,.mv (.t 0)⟩,⟨some 58,none,.mv (.t 1)⟩,⟨some 59,none,.mv (.t 2)⟩,⟨some 60,none,.mv (.t 4)⟩,⟨some 61,none,.call 205 [(.t 57),(.t 58),(.t 59),(.t 60)]⟩])
 (.seq (.ops [⟨some 62,none,.mv (.t 2)⟩,⟨some 63,none,.bin 0 .sub (.t 62) (.c (.int .i64 1))⟩,⟨some 64,none,.mv (.t 13)⟩,⟨some 65,none,.mv (.t 1)⟩,⟨some 66,none,.bin 0 .sub (.t 64) (.t 65)⟩,⟨some 67,none,.bin 0 .sub (.t 63) (.t 66)⟩,⟨some 13,none,.mv (.t 67)⟩])
 (.ops [⟨some 14,none,.mv (.c (.int .i64 1))⟩]))) (.skip)))
 (.seq (.seq (.ops [⟨some 68,none,.mv (.t 10)⟩,⟨some 69,none,.mv (.t 68)⟩,⟨some 70,(some (69,true)),.mv (.t 11)⟩,⟨some 71,none,.pick (.t 69) (.t 70) (.c (.bool false))⟩,⟨some 72,none,.mv (.t 71)⟩,⟨some 73,(some (72,true)),.mv (.t 14)⟩,⟨some 74,(some (72,true)),.bin 0 .eql (.t 73) (.c (.int .i64 1))⟩,⟨some 75,none,.pick (.t 72) (.t 74) (.c (.bool false))⟩])
 (.cond (.t 75) (.seq (.ops [⟨some 76,none,.mv (.t 0)⟩,⟨some 77,none,.mv (.t 1)⟩,⟨some 78,none,.mv (.t 2)⟩,⟨some 79,none,.mv (.t 4)⟩,⟨some 80,none,.call 206 [(.t 76),(.t 77),(.t 78),(.t 79)]⟩])
 (.cond (.t 80) (.ret) (.skip))) (.skip)))
 (.seq (.seq (.any [(⟨some 81,none,.mv (.t 1)⟩,[]),(⟨some 82,none,.bin 0 .gtr (.t 81) (.c (.int .i64 0))⟩,[]),(⟨some 83,none,.mv (.t 82)⟩,[]),(⟨some 84,(some (83,true)),.mv (.t 4)⟩,[]),(⟨some 85,(some (83,true)),.mv (.t 0)⟩,[3]),(⟨some 86,(some (83,true)),.mv (.t 1)⟩,[3,4]),(⟨some 87,(some (83,true)),.bin 0 .sub (.t 86) (.c (.int .i64 1))⟩,[3,4]),(⟨some 88,(some (83,true)),.iadr 2 (.t 85) (.t 87)⟩,[3]),(⟨some 89,(some (83,true)),.load (some 2) (.t 88)⟩,[3]),(⟨some 90,(some (83,true)),.mv (.t 0)⟩,[3,4,5,6,7,8]),(⟨some 91,(some (83,true)),.mv (.t 13)⟩,[3,4,5,6,7,8,9]),(⟨some 92,(some (83,true)),.iadr 2 (.t 90) (.t 91)⟩,[3,4,5,6,7,8]),(⟨some 93,(some (83,true)),.load (some 2) (.t 92)⟩,[3,4,5,6,7,8]),(⟨some 94,(some (83,true)),.callv (.t 84) [(.t 89),(.t 93)]⟩,[]),(⟨some 95,(some (83,true)),.bin 0 .lss (.t 94) (.c (.int .i64 0))⟩,[]),(⟨some 96,(some (83,true)),.un .not (.t 95)⟩,[]),(⟨some 97,none,.pick (.t 83) (.t 96) (.c (.bool false))⟩,[])])
 (.cond (.t 97) (.seq (.ops [⟨some 98,none,.mv (.t 0)⟩,⟨some 99,none,.mv (.t 1)⟩,⟨some 100,none,.mv (.t 2)⟩,⟨some 101,none,.mv (.t 13)⟩,⟨some 102,none,.mv (.t 4)⟩,⟨some 103,none,.call 207 [(.t 98),(.t 99),(.t 100),(.t 101),(.t 102)]⟩,⟨some 15,none,.mv (.t 103)⟩])
 (.seq (.ops [⟨some 104,none,.mv (.t 15)⟩,⟨some 1,none,.mv (.t 104)⟩])
 (.exit 1))) (.skip)))
 (.seq (.ops [⟨some 106,none,.mv (.t 0)⟩,⟨some 107,none,.mv (.t 1)⟩,⟨some 108,none,.mv (.t 2)⟩,⟨some 109,none,.mv (.t 13)⟩,⟨some 110,none,.mv (.t 4)⟩,⟨some 111,none,.call 208 [(.t 106),(.t 107),(.t 108),(.t 109),(.t 110)]⟩,⟨some 105,none,.mv (.t 111)⟩,⟨some 112,none,.ext (.t 105) 0⟩,⟨some 113,none,.ext (.t 105) 1⟩,⟨some 16,none,.mv (.t 112)⟩,⟨some 17,none,.mv (.t 113)⟩])
 (.seq (.ops [⟨some 114,none,.mv (.t 17)⟩,⟨some 11,none,.mv (.t 114)⟩])
 (.seq (.ops [⟨some 115,none,.mv (.t 16)⟩,⟨some 116,none,.mv (.t 1)⟩,⟨some 117,none,.bin 0 .sub (.t 115) (.t 116)⟩,⟨some 118,none,.mv (.t 2)⟩,⟨some 119,none,.mv (.t 16)⟩,⟨some 120,none,.bin 0 .sub (.t 118) (.t 119)⟩,⟨some 18,none,.mv (.t 117)⟩,⟨some 19,none,.mv (.t 120)⟩])
 (.seq (.ops [⟨some 121,none,.mv (.t 12)⟩,⟨some 122,none,.bin 0 .quo (.t 121) (.c (.int .i64 8))⟩,⟨some 20,none,.mv (.t 122)⟩])
 (.seq (.ops [⟨some 123,none,.mv (.t 18)⟩,⟨some 124,none,.mv (.t 19)⟩,⟨some 125,none,.bin 0 .lss (.t 123) (.t 124)⟩])
 (.cond (.t 125) (.seq (.ops [⟨some 126,none,.mv (.t 18)⟩,⟨some 127,none,.mv (.t 20)⟩,⟨some 128,none,.bin 0 .geq (.t 126) (.t 127)⟩,⟨some 10,none,.mv (.t 128)⟩])
 (.seq (.ops [⟨some 129,none,.mv (.t 0)⟩,⟨some 130,none,.mv (.t 1)⟩,⟨some 131,none,.mv (.t 16)⟩,⟨some 132,none,.mv (.t 3)⟩,⟨some 133,none,.mv (.t 4)⟩,⟨some 134,none,.call 169 [(.t 129),(.t 130),(.t 131),(.t 132),(.t 133)]⟩])
 (.ops [⟨some 135,none,.mv (.t 16)⟩,⟨some 136,none,.bin 0 .add (.t 135) (.c (.int .i64 1))⟩,⟨some 1,none,.mv (.t 136)⟩]))) (.seq (.ops [⟨some 137,none,.mv (.t 19)⟩,⟨some 138,none,.mv (.t 20)⟩,⟨some 139,none,.bin 0 .geq (.t 137) (.t 138)⟩,⟨some 10,none,.mv (.t 139)⟩])
 (.seq (.ops [⟨some 140,none,.mv (.t 0)⟩,⟨some 141,none,.mv (.t 16)⟩,⟨some 142,none,.bin 0 .add (.t 141) (.c (.int .i64 1))⟩,⟨some 143,none,.mv (.t 2)⟩,⟨some 144,none,.mv (.t 3)⟩,⟨some 145,none,.mv (.t 4)⟩,⟨some 146,none,.call 169 [(.t 140),(.t 142),(.t 143),(.t 144),(.t 145)]⟩])
 (.ops [⟨some 147,none,.mv (.t 16)⟩,⟨some 2,none,.mv (.t 147)⟩])))))))))))))))))))))⟩
theorem c169 : compF Go.Proofs.Tryz.prog 169 = some a169 := by kernel_rfl
def a173 : AFn := ⟨53,[],.seq (.ops [⟨some 10,none,.mv (.t 1)⟩,⟨some 11,none,.bin 0 .add (.t 10) (.c (.int .i64 1))⟩,⟨some 8,none,.mv (.t 11)⟩])
 (.block 0 (.loop (.seq (.seq (.ops [⟨some 12,none,.mv (.t 8)⟩,⟨some 13,none,.mv (.t 2)⟩,⟨some 14,none,.bin 0 .lss (.t 12) (.t 13)⟩])
 (.cond (.t 14) (.skip) (.exit 0)))
 (.seq (.block 1 (.seq (.ops [⟨some 17,none,.mv (.t 8)⟩,⟨some 9,none,.mv (.t 17)⟩])
 (.block 2 (.loop (.seq (.seq (.any [(⟨some 18,none,.mv (.t 9)⟩,[]),(⟨some 19,none,.mv (.t 1)⟩,[0]),(⟨some 20,none,.bin 0 .gtr (.t 18) (.t 19)⟩,[]),(⟨some 21,none,.mv (.t 20)⟩,[]),(⟨some 22,(some (21,true)),.mv (.t 3)⟩,[]),(⟨some 23,(some (21,true)),.mv (.t 0)⟩,[4]),(⟨some 24,(some (21,true)),.mv (.t 9)⟩,[4,5]),(⟨some 25,(some (21,true)),.iadr 2 (.t 23) (.t 24)⟩,[4]),(⟨some 26,(some (21,true)),.load (some 2) (.t 25)⟩,[4]),(⟨some 27,(some (21,true)),.mv (.t 0)⟩,[4,5,6,7,8]),(⟨some 28,(some (21,true)),.mv (.t 9)⟩,[4,5,6,7,8,9]),(⟨some 29,(some (21,true)),.bin 0 .sub (.t 28) (.c (.int .i64 1))⟩,[4,5,6,7,8,9]),(⟨some 30,(some (21,true)),.iadr 2 (.t 27) (.t 29)⟩,[4,5,6,7,8]),(⟨some 31,(some (21,true)),.load (some 2) (.t 30)⟩,[4,5,6,7,8]),(⟨some 32,(some (21,true)),.callv (.t 22) [(.t 26),(.t 31)]⟩,[]),(⟨some 33,(some (21,true)),.bin 0 .lss (.t 32) (.c (.int .i64 0))⟩,[]),(⟨some 34,none,.pick (.t 21) (.t 33) (.c (.bool false))⟩,[])])
 (.cond (.t 34) (.skip) (.exit 2)))
 (.seq (.block 3 (.any [(⟨some 37,none,.mv (.t 0)⟩,[]),(⟨some 38,none,.mv (.t 9)⟩,[0]),(⟨some 39,none,.mv (.t 0)⟩,[0,1]),(⟨some 40,none,.mv (.t 9)⟩,[0,1,2]),(⟨some 41,none,.bin 0 .sub (.t 40) (.c (.int .i64 1))⟩,[0,1,2]),(⟨some 42,none,.mv (.t 0)⟩,[0,1,2,3,4]),(⟨some 43,none,.mv (.t 9)⟩,[0,1,2,3,4,5]),(⟨some 44,none,.bin 0 .sub (.t 43) (.c (.int .i64 1))⟩,[0,1,2,3,4,5]),(⟨some 45,none,.iadr 2 (.t 42) (.t 44)⟩,[0,1,2,3,4]),(⟨some 46,none,.load (some 2) (.t 45)⟩,[0,1,2,3,4]),(⟨some 47,none,.mv (.t 0)⟩,[0,1,2,3,4,5,6,7,8,9]),(⟨some 48,none,.mv (.t 9)⟩,[0,1,2,3,4,5,6,7,8,9,10]),(⟨some 49,none,.iadr 2 (.t 47) (.t 48)⟩,[0,1,2,3,4,5,6,7,8,9]),(⟨some 50,none,.load (some 2) (.t 49)⟩,[0,1,2,3,4,5,6,7,8,9]),(⟨some 51,none,.iadr 2 (.t 37) (.t 38)⟩,[2,3,4]),(⟨none,none,.store 2 (.t 51) (.t 46)⟩,[2,3,4]),(⟨some 52,none,.iadr 2 (.t 39) (.t 41)⟩,[]),(⟨none,none,.store 2 (.t 52) (.t 50)⟩,[])]))
 (.ops [⟨some 35,none,.mv (.t 9)⟩,⟨some 36,none,.bin 0 .sub (.t 35) (.c (.int .i64 1))⟩,⟨some 9,none,.mv (.t 36)⟩])))))))
 (.ops [⟨some 15,none,.mv (.t 8)⟩,⟨some 16,none,.bin 0 .add (.t 15) (.c (.int .i64 1))⟩,⟨some 8,none,.mv (.t 16)⟩])))))⟩
theorem c173 : compF Go.Proofs.Tryz.prog 173 = some a173 := by kernel_rfl
def a182 : AFn := ⟨25,[.t 2],.seq (.ops [⟨some 2,none,.mv (.c (.int .i64 0))⟩])
 (.seq (.seq (.ops [⟨some 3,none,.mv (.t 0)⟩,⟨some 4,none,.bin 0 .geq (.t 3) (.c (.int .u64 4294967296))⟩])
 (.cond (.t 4) (.seq (.ops [⟨some 5,none,.mv (.t 0)⟩,⟨some 6,none,.bin 0 .shr (.t 5) (.c (.int .u64 32))⟩,⟨some 0,none,.mv (.t 6)⟩])
 (.ops [⟨some 2,none,.mv (.c (.int .i64 32))⟩])) (.skip)))
 (.seq (.seq (.ops [⟨some 7,none,.mv (.t 0)⟩,⟨some 8,none,.bin 0 .geq (.t 7) (.c (.int .u64 65536))⟩])
 (.cond (.t 8) (.seq (.ops [⟨some 9,none,.mv (.t 0)⟩,⟨some 10,none,.bin 0 .shr (.t 9) (.c (.int .u64 16))⟩,⟨some 0,none,.mv (.t 10)⟩])
 (.ops [⟨some 11,none,.mv (.t 2)⟩,⟨some 12,none,.bin 0 .add (.t 11) (.c (.int .i64 16))⟩,⟨some 2,none,.mv (.t 12)⟩])) (.skip)))
 (.seq (.seq (.ops [⟨some 13,none,.mv (.t 0)⟩,⟨some 14,none,.bin 0 .geq (.t 13) (.c (.int .u64 256))⟩])
 (.cond (.t 14) (.seq (.ops [⟨some 15,none,.mv (.t 0)⟩,⟨some 16,none,.bin 0 .shr (.t 15) (.c (.int .u64 8))⟩,⟨some 0,none,.mv (.t 16)⟩])
 (.ops [⟨some 17,none,.mv (.t 2)⟩,⟨some 18,none,.bin 0 .add (.t 17) (.c (.int .i64 8))⟩,⟨some 2,none,.mv (.t 18)⟩])) (.skip)))
 (.seq (.ops [⟨some 19,none,.mv (.t 2)⟩,⟨some 20,none,.mv (.t 0)⟩,⟨some 21,none,.conv .u8 (.t 20)⟩,⟨some 22,none,.idxs (.c (.str [0,1,2,2,3,3,3,3,4,4,4,4,4,4,4,4,5,5,5,5,5,5,5,5,5,5,5,5,5,5,5,5,6,6,6,6,6,6,6,6,6,6,6,6,6,6,6,6,6,6,6,6,6,6,6,6,6,6,6,6,6,6,6,6,7,7,7,7,7,7,7,7,7,7,7,7,7,7,7,7,7,7,7,7,7,7,7,7,7,7,7,7,7,7,7,7,7,7,7,7,7,7,7,7,7,7,7,7,7,7,7,7,7,7,7,7,7,7,7,7,7,7,7,7,7,7,7,7,8,8,8,8,8,8,8,8,8,8,8,8,8,8,8,8,8,8,8,8,8,8,8,8,8,8,8,8,8,8,8,8,8,8,8,8,8,8,8,8,8,8,8,8,8,8,8,8,8,8,8,8,8,8,8,8,8,8,8,8,8,8,8,8,8,8,8,8,8,8,8,8,8,8,8,8,8,8,8,8,8,8,8,8,8,8,8,8,8,8,8,8,8,8,8,8,8,8,8,8,8,8,8,8,8,8,8,8,8,8,8,8,8,8,8,8,8,8,8,8,8,8,8,8,8,8,8,8])) (.t 21)⟩,⟨some 23,none,.conv .i64 (.t 22)⟩,⟨some 24,none,.bin 0 .add (.t 19) (.t 23)⟩,⟨some 2,none,.mv (.t 24)⟩])
 (.ret)))))⟩
theorem c182 : compF Go.Proofs.Tryz.prog 182 = some a182 := by kernel_rfl
def a184 : AFn := ⟨148,[],.seq (.ops [⟨some 10,none,.mv (.c (.bool true))⟩])
 (.seq (.ops [⟨some 11,none,.mv (.c (.bool true))⟩])
 (.block 0 (.loop (.block 1 (.seq (.ops [⟨some 21,none,.mv (.t 2)⟩,⟨some 22,none,.mv (.t 1)⟩,⟨some 23,none,.bin 0 .sub (.t 21) (.t 22)⟩,⟨some 12,none,.mv (.t 23)⟩])
 (.seq (.seq (.ops [⟨some 24,none,.mv (.t 12)⟩,⟨some 25,none,.bin 0 .leq (.t 24) (.c (.int .i64 12))⟩])
 (.cond (.t 25) (.seq (.ops [⟨some 26,none,.mv (.t 0)⟩,⟨some 27,none,.mv (.t 1)⟩,⟨some 28,none,.mv (.t 2)⟩,⟨some 29,none,.mv (.t 4)⟩,⟨some 30,none,.call 222 [(.t 26),(.t 27),(.t 28),(.t 29)]⟩])
 (.ret)) (.skip)))
 (.seq (.seq (.ops [⟨some 31,none,.mv (.t 3)⟩,⟨some 32,none,.bin 0 .eql (.t 31) (.c (.int .i64 0))⟩])
 (.cond (.t 32) (.seq (.ops [⟨some 33,none,.mv (.t 0)⟩,⟨some 34,none,.mv (.t 1)⟩,⟨some 35,none,.mv (.t 2)⟩,⟨some 36,none,.mv (.t 4)⟩,⟨some 37,none,.call 223 [(.t 33),(.t 34),(.t 35),(.t 36)]⟩])
 (.ret)) (.skip)))
 (.seq (.seq (.ops [⟨some 38,none,.mv (.t 10)⟩,⟨some 39,none,.un .not (.t 38)⟩])
 (.cond (.t 39) (.seq (.ops [⟨some 40,none,.mv (.t 0)⟩,⟨some 41,none,.mv (.t 1)⟩,⟨some 42,none,.mv (.t 2)⟩,⟨some 43,none,.mv (.t 4)⟩,⟨some 44,none,.call 224 [(.t 40),(.t 41),(.t 42),(.t 43)]⟩])
 (.ops [⟨some 45,none,.mv (.t 3)⟩,⟨some 46,none,.bin 0 .sub (.t 45) (.c (.int .i64 1))⟩,⟨some 3,none,.mv (.t 46)⟩])) (.skip)))
 (.seq (.ops [⟨some 48,none,.mv (.t 0)⟩,⟨some 49,none,.mv (.t 1)⟩,⟨some 50,none,.mv (.t 2)⟩,⟨some 51,none,.mv (.t 4)⟩,⟨some 52,none,.call 225 [(.t 48),(.t 49),(.t 50),(.t 51)]⟩,⟨some 47,none,.mv (.t 52)⟩,⟨some 53,none,.ext (.t 47) 0⟩,⟨some 54,none,.ext (.t 47) 1⟩,⟨some 13,none,.mv (.t 53)⟩,⟨some 14,none,.mv (.t 54)⟩])
 (.seq (.seq (.ops [⟨some 55,none,.mv (.t 14)⟩,⟨some 56,none,.bin 0 .eql (.t 55) (.c (.int .i64 2))⟩])
 (.cond (.t 56) (.seq (.ops [⟨some 57,none,.mv (.t 0)⟩,⟨some 58,none,.mv (.t 1)⟩,⟨some 59,none,.mv (.t 2)⟩,⟨some 60,none,.mv (.t 4)⟩,⟨some 61,none,.call 226 [(.t 57),(.t 58),(.t 59),(.t 60)]⟩])
 (.seq (.ops [⟨some 62,none,.mv (.t 2)⟩,⟨some 63,none,.bin 0 .sub (.t 62) (.c (.int .i64 1))⟩,⟨some 64,none,.mv (.t 13)⟩,⟨some 65,none,.mv (.t 1)⟩,⟨some 66,none,.bin 0 .sub (.t 64) (.t 65)⟩,⟨some 67,none,.bin 0 .sub (.t 63) (.t 66)⟩,⟨some 13,none,.mv (.t 67)⟩])
 (.ops [⟨some 14,none,.mv (.c (.int .i64 1))⟩]))) (.skip)))
 (.seq (.seq (.ops [⟨some 68,none,.mv (.t 10)⟩,⟨some 69,none,.mv (.t 68)⟩,⟨some 70,(some (69,true)),.mv (.t 11)⟩,⟨some 71,none,.pick (.t 69) (.t 70) (.c (.bool false))⟩,⟨some 72,none,.mv (.t 71)⟩,⟨some 73,(some (72,true)),.mv (.t 14)⟩,⟨some 74,(some (72,true)),.bin 0 .eql (.t 73) (.c (.int .i64 1))⟩,⟨some 75,none,.pick (.t 72) (.t 74) (.c (.bool false))⟩])
 (.cond (.t 75) (.seq (.ops [⟨some 76,none,.mv (.t 0)⟩,⟨some 77,none,.mv (.t 1)⟩,⟨some 78,none,.mv (.t 2)⟩,⟨some 79,none,.mv (.t 4)⟩,⟨some 80,none,.call 227 [(.t 76),(.t 77),(.t 78),(.t 79)]⟩])
 (.cond (.t 80) (.ret) (.skip))) (.skip)))
 (.seq (.seq (.any [(⟨some 81,none,.mv (.t 1)⟩,[]),(⟨some 82,none,.bin 0 .gtr (.t 81) (.c (.int .i64 0))⟩,[]),(⟨some 83,none,.mv (.t 82)⟩,[]),(⟨some 84,(some (83,true)),.mv (.t 4)⟩,[]),(⟨some 85,(some (83,true)),.mv (.t 0)⟩,[3]),(⟨some 86,(some (83,true)),.mv (.t 1)⟩,[3,4]),(⟨some 87,(some (83,true)),.bin 0 .sub (.t 86) (.c (.int .i64 1))⟩,[3,4]),(⟨some 88,(some (83,true)),.iadr 3 (.t 85) (.t 87)⟩,[3]),(⟨some 89,(some (83,true)),.load (some 3) (.t 88)⟩,[3]),(⟨some 90,(some (83,true)),.mv (.t 0)⟩,[3,4,5,6,7,8]),(⟨some 91,(some (83,true)),.mv (.t 13)⟩,[3,4,5,6,7,8,9]),(⟨some 92,(some (83,true)),.iadr 3 (.t 90) (.t 91)⟩,[3,4,5,6,7,8]),(⟨some 93,(some (83,true)),.load (some 3) (.t 92)⟩,[3,4,5,6,7,8]),(⟨some 94,(some (83,true)),.callv (.t 84) [(.t 89),(.t 93)]⟩,[]),(⟨some 95,(some (83,true)),.bin 0 .lss (.t 94) (.c (.int .i64 0))⟩,[]),(⟨some 96,(some (83,true)),.un .not (.t 95)⟩,[]),(⟨some 97,none,.pick (.t 83) (.t 96) (.c (.bool false))⟩,[])])
 (.cond (.t 97) (.seq (.ops [⟨some 98,none,.mv (.t 0)⟩,⟨some 99,none,.mv (.t 1)⟩,⟨some 100,none,.mv (.t 2)⟩,⟨some 101,none,.mv (.t 13)⟩,⟨some 102,none,.mv (.t 4)⟩,⟨some 103,none,.call 228 [(.t 98),(.t 99),(.t 100),(.t 101),(.t 102)]⟩,⟨some 15,none,.mv (.t 103)⟩])
 (.seq (.ops [⟨some 104,none,.mv (.t 15)⟩,⟨some 1,none,.mv (.t 104)⟩])
 (.exit 1))) (.skip)))
 (.seq (.ops [⟨some 106,none,.mv (.t 0)⟩,⟨some 107,none,.mv (.t 1)⟩,⟨some 108,none,.mv (.t 2)⟩,⟨some 109,none,.mv (.t 13)⟩,⟨some 110,none,.mv (.t 4)⟩,⟨some 111,none,.call 229 [(.t 106),(.t 107),(.t 108),(.t 109),(.t 110)]⟩,⟨some 105,none,.mv (.t 111)⟩,⟨some 112,none,.ext (.t 105) 0⟩,⟨some 113,none,.ext (.t 105) 1⟩,⟨some 16,none,.mv (.t 112)⟩,⟨some 17,none,.mv (.t 113)⟩])
 (.seq (.ops [⟨some 114,none,.mv (.t 17)⟩,⟨some 11,none,.mv (.t 114)⟩])
 (.seq (.ops [⟨some 115,none,.mv (.t 16)⟩,⟨some 116,none,.mv (.t 1)⟩,⟨some 117,none,.bin 0 .sub (.t 115) (.t 116)⟩,⟨some 118,none,.mv (.t 2)⟩,⟨some 119,none,.mv (.t 16)⟩,⟨some 120,none,.bin 0 .sub (.t 118) (.t 119)⟩,⟨some 18,none,.mv (.t 117)⟩,⟨some 19,none,.mv (.t 120)⟩])
 (.seq (.ops [⟨some 121,none,.mv (.t 12)⟩,⟨some 122,none,.bin 0 .quo (.t 121) (.c (.int .i64 8))⟩,⟨some 20,none,.mv (.t 122)⟩])
 (.seq (.ops [⟨some 123,none,.mv (.t 18)⟩,⟨some 124,none,.mv (.t 19)⟩,⟨some 125,none,.bin 0 .lss (.t 123) (.t 124)⟩])
 (.cond (.t 125) (.seq (.ops [⟨some 126,none,.mv (.t 18)⟩,⟨some 127,none,.mv (.t 20)⟩,⟨some 128,none,.bin 0 .geq (.t 126) (.t 127)⟩,⟨some 10,none,.mv (.t 128)⟩])
 (.seq (.ops [⟨some 129,none,.mv (.t 0)⟩,⟨some 130,none,.mv (.t 1)⟩,⟨some 131,none,.mv (.t 16)⟩,⟨some 132,none,.mv (.t 3)⟩,⟨some 133,none,.mv (.t 4)⟩,⟨some 134,none,.call 184 [(.t 129),(.t 130),(.t 131),(.t 132),(.t 133)]⟩])
 (.ops [⟨some 135,none,.mv (.t 16)⟩,⟨some 136,none,.bin 0 .add (.t 135) (.c (.int .i64 1))⟩,⟨some 1,none,.mv (.t 136)⟩]))) (.seq (.ops [⟨some 137,none,.mv (.t 19)⟩,⟨some 138,none,.mv (.t 20)⟩,⟨some 139,none,.bin 0 .geq (.t 137) (.t 138)⟩,⟨some 10,none,.mv (.t 139)⟩])
 (.seq (.ops [⟨some 140,none,.mv (.t 0)⟩,⟨some 141,none,.mv (.t 16)⟩,⟨some 142,none,.bin 0 .add (.t 141) (.c (.int .i64 1))⟩,⟨some 143,none,.mv (.t 2)⟩,⟨some 144,none,.mv (.t 3)⟩,⟨some 145,none,.mv (.t 4)⟩,⟨some 146,none,.call 184 [(.t 140),(.t 142),(.t 143),(.t 144),(.t 145)]⟩])
 (.ops [⟨some 147,none,.mv (.t 16)⟩,⟨some 2,none,.mv (.t 147)⟩])))))))))))))))))))))⟩
theorem c184 : compF Go.Proofs.Tryz.prog 184 = some a184 := by kernel_rfl
def a201 : AFn := ⟨53,[],.seq (.ops [⟨some 10,none,.mv (.t 1)⟩,⟨some 11,none,.bin 0 .add (.t 10) (.c (.int .i64 1))⟩,⟨some 8,none,.mv (.t 11)⟩])
 (.block 0 (.loop (.seq (.seq (.ops [⟨some 12,none,.mv (.t 8)⟩,⟨some 13,none,.mv (.t 2)⟩,⟨some 14,none,.bin 0 .lss (.t 12) (.t 13)⟩])
 (.cond (.t 14) (.skip) (.exit 0)))
 (.seq (.block 1 (.seq (.ops [⟨some 17,none,.mv (.t 8)⟩,⟨some 9,none,.mv (.t 17)⟩])
 (.block 2 (.loop (.seq (.seq (.any [(⟨some 18,none,.mv (.t 9)⟩,[]),(⟨some 19,none,.mv (.t 1)⟩,[0]),(⟨some 20,none,.bin 0 .gtr (.t 18) (.t 19)⟩,[]),(⟨some 21,none,.mv (.t 20)⟩,[]),(⟨some 22,(some (21,true)),.mv (.t 3)⟩,[]),(⟨some 23,(some (21,true)),.mv (.t 0)⟩,[4]),(⟨some 24,(some (21,true)),.mv (.t 9)⟩,[4,5]),(⟨some 25,(some (21,true)),.iadr 2 (.t 23) (.t 24)⟩,[4]),(⟨some 26,(some (21,true)),.load (some 2) (.t 25)⟩,[4]),(⟨some 27,(some (21,true)),.mv (.t 0)⟩,[4,5,6,7,8]),(⟨some 28,(some (21,true)),.mv (.t 9)⟩,[4,5,6,7,8,9]),(⟨some 29,(some (21,true)),.bin 0 .sub (.t 28) (.c (.int .i64 1))⟩,[4,5,6,7,8,9]),(⟨some 30,(some (21,true)),.iadr 2 (.t 27) (.t 29)⟩,[4,5,6,7,8]),(⟨some 31,(some (21,true)),.load (some 2) (.t 30)⟩,[4,5,6,7,8]),(⟨some 32,(some (21,true)),.callv (.t 22) [(.t 26),(.t 31)]⟩,[]),(⟨some 33,(some (21,true)),.bin 0 .lss (.t 32) (.c (.int .i64 0))⟩,[]),(⟨some 34,none,.pick (.t 21) (.t 33) (.c (.bool false))⟩,[])])
 (.cond (.t 34) (.skip) (.exit 2)))
 (.seq (.block 3 (.any [(⟨some 37,none,.mv (.t 0)⟩,[]),(⟨some 38,none,.mv (.t 9)⟩,[0]),(⟨some 39,none,.mv (.t 0)⟩,[0,1]),(⟨some 40,none,.mv (.t 9)⟩,[0,1,2]),(⟨some 41,none,.bin 0 .sub (.t 40) (.c (.int .i64 1))⟩,[0,1,2]),(⟨some 42,none,.mv (.t 0)⟩,[0,1,2,3,4]),(⟨some 43,none,.mv (.t 9)⟩,[0,1,2,3,4,5]),(⟨some 44,none,.bin 0 .sub (.t 43) (.c (.int .i64 1))⟩,[0,1,2,3,4,5]),(⟨some 45,none,.iadr 2 (.t 42) (.t 44)⟩,[0,1,2,3,4]),(⟨some 46,none,.load (some 2) (.t 45)⟩,[0,1,2,3,4]),(⟨some 47,none,.mv (.t 0)⟩,[0,1,2,3,4,5,6,7,8,9]),(⟨some 48,none,.mv (.t 9)⟩,[0,1,2,3,4,5,6,7,8,9,10]),(⟨some 49,none,.iadr 2 (.t 47) (.t 48)⟩,[0,1,2,3,4,5,6,7,8,9]),(⟨some 50,none,.load (some 2) (.t 49)⟩,[0,1,2,3,4,5,6,7,8,9]),(⟨some 51,none,.iadr 2 (.t 37) (.t 38)⟩,[2,3,4]),(⟨none,none,.store 2 (.t 51) (.t 46)⟩,[2,3,4]),(⟨some 52,none,.iadr 2 (.t 39) (.t 41)⟩,[]),(⟨none,none,.store 2 (.t 52) (.t 50)⟩,[])]))
 (.ops [⟨some 35,none,.mv (.t 9)⟩,⟨some 36,none,.bin 0 .sub (.t 35) (.c (.int .i64 1))⟩,⟨some 9,none,.mv (.t 36)⟩])))))))
 (.ops [⟨some 15,none,.mv (.t 8)⟩,⟨some 16,none,.bin 0 .add (.t 15) (.c (.int .i64 1))⟩,⟨some 8,none,.mv (.t 16)⟩])))))⟩
theorem c201 : compF Go.Proofs.Tryz.prog 201 = some a201 := by kernel_rfl
def a222 : AFn := ⟨53,[],.seq (.ops [⟨some 10,none,.mv (.t 1)⟩,⟨some 11,none,.bin 0 .add (.t 10) (.c (.int .i64 1))⟩,⟨some 8,none,.mv (.t 11)⟩])
 (.block 0 (.loop (.seq (.seq (.ops [⟨some 12,none,.mv (.t 8)⟩,⟨some 13,none,.mv (.t 2)⟩,⟨some 14,none,.bin 0 .lss (.t 12) (.t 13)⟩])
 (.cond (.t 14) (.skip) (.exit 0)))
 (.seq (.block 1 (.seq (.ops [⟨some 17,none,.mv (.t 8)⟩,⟨some 9,none,.mv (.t 17)⟩])
 (.block 2 (.loop (.seq (.seq (.any [(⟨some 18,none,.mv (.t 9)⟩,[]),(⟨some 19,none,.mv (.t 1)⟩,[0]),(⟨some 20,none,.bin 0 .gtr (.t 18) (.t 19)⟩,[]),(⟨some 21,none,.mv (.t 20)⟩,[]),(⟨some 22,(some (21,true)),.mv (.t 3)⟩,[]),(⟨some 23,(some (21,true)),.mv (.t 0)⟩,[4]),(⟨some 24,(some (21,true)),.mv (.t 9)⟩,[4,5]),(⟨some 25,(some (21,true)),.iadr 3 (.t 23) (.t 24)⟩,[4]),(⟨some 26,(some (21,true)),.load (some 3) (.t 25)⟩,[4]),(⟨some 27,(some (21,true)),.mv (.t 0)⟩,[4,5,6,7,8]),(⟨some 28,(some (21,true)),.mv (.t 9)⟩,[4,5,6,7,8,9]),(⟨some 29,(some (21,true)),.bin 0 .sub (.t 28) (.c (.int .i64 1))⟩,[4,5,6,7,8,9]),(⟨some 30,(some (21,true)),.iadr 3 (.t 27) (.t 29)⟩,[4,5,6,7,8]),(⟨some 31,(some (21,true)),.load (some 3) (.t 30)⟩,[4,5,6,7,8]),(⟨some 32,(some (21,true)),.callv (.t 22) [(.t 26),(.t 31)]⟩,[]),(⟨some 33,(some (21,true)),.bin 0 .lss (.t 32) (.c (.int .i64 0))⟩,[]),(⟨some 34,none,.pick (.t 21) (.t 33) (.c (.bool false))⟩,[])])
 (.cond (.t 34) (.skip) (.exit 2)))
 (.seq (.block 3 (.any [(⟨some 37,none,.mv (.t 0)⟩,[]),(⟨some 38,none,.mv (.t 9)⟩,[0]),(⟨some 39,none,.mv (.t 0)⟩,[0,1]),(⟨some 40,none,.mv (.t 9)⟩,[0,1,2]),(⟨some 41,none,.bin 0 .sub (.t 40) (.c (.int .i64 1))⟩,[0,1,2]),(⟨some 42,none,.mv (.t 0)⟩,[0,1,2,3,4]),(⟨some 43,none,.mv (.t 9)⟩,[0,1,2,3,4,5]),(⟨some 44,none,.bin 0 .sub (.t 43) (.c (.int .i64 1))⟩,[0,1,2,3,4,5]),(⟨some 45,none,.iadr 3 (.t 42) (.t 44)⟩,[0,1,2,3,4]),(⟨some 46,none,.load (some 3) (.t 45)⟩,[0,1,2,3,4]),(⟨some 47,none,.mv (.t 0)⟩,[0,1,2,3,4,5,6,7,8,9]),(⟨some 48,none,.mv (.t 9)⟩,[0,1,2,3,4,5,6,7,8,9,10]),(⟨some 49,none,.iadr 3 (.t 47) (.t 48)⟩,[0,1,2,3,4,5,6,7,8,9]),(⟨some 50,none,.load (some 3) (.t 49)⟩,[0,1,2,3,4,5,6,7,8,9]),(⟨some 51,none,.iadr 3 (.t 37) (.t 38)⟩,[2,3,4]),(⟨none,none,.store 3 (.t 51) (.t 46)⟩,[2,3,4]),(⟨some 52,none,.iadr 3 (.t 39) (.t 41)⟩,[]),(⟨none,none,.store 3 (.t 52) (.t 50)⟩,[])]))
 (.ops [⟨some 35,none,.mv (.t 9)⟩,⟨some 36,none,.bin 0 .sub (.t 35) (.c (.int .i64 1))⟩,⟨some 9,none,.mv (.t 36)⟩])))))))
 (.ops [⟨some 15,none,.mv (.t 8)⟩,⟨some 16,none,.bin 0 .add (.t 15) (.c (.int .i64 1))⟩,⟨some 8,none,.mv (.t 16)⟩])))))⟩
theorem c222 : compF Go.Proofs.Tryz.prog 222 = some a222 := by kernel_rfl
end Go.Proofs.YtmgfcjblclanmaaGreatDoor
namespace Go.Proofs.YtmgfcjblclanmaaGreatDoor
open Go.RowKit
theorem below_c (x n : Int) (nid : Nat) (hn : n ≤ 9223372036854775807) : ACall Tryz.prog 117 [.int .i64 x,.int .i64 n] [] nid (.int .i64 (below x n)) [] := by
 refine acall_run c117 (by simp [a117]) ?_
 simp -dsimp only [a117,aqA,↓seqK,↓blkK,↓loopK,step,stepBin,eqB,Nat.add_assoc nid,↓reduceIte,simprocAttr]
 refine S2.dec (fun h => ?_) (fun h => ?_)
 ·simp -dsimp only [aqA,↓seqK,↓blkK,↓loopK,step,stepBin,eqB,Nat.add_assoc nid,↓reduceIte,simprocAttr]
  refine RetOK.pure (.inl rfl) rfl ?_
  simp [retPV,PVCov,getS,below,h]
 simp -dsimp only [aqA,↓seqK,↓blkK,↓loopK,step,stepBin,eqB,Nat.add_assoc nid,↓reduceIte,simprocAttr]
 refine ⟨by omega,S2.dec (fun h2 => ?_) (fun h2 => ?_)⟩
 ·simp -dsimp only [aqA,↓seqK,↓blkK,↓loopK,step,stepBin,eqB,Nat.add_assoc nid,↓reduceIte,simprocAttr]
  have := Int.lt_tmod_of_pos x (show 0 < n by omega)
  refine ⟨by unfold inI64; omega,RetOK.pure (.inl rfl) rfl ?_⟩
  have h3 : x.tmod n + n = x % n := by rw [Int.tmod_eq_emod]; split <;> rw [Int.tmod_eq_emod] at h2 <;> rename_i h6 <;> simp only [h6,if_true,if_false,not_false_eq_true] at h2 <;> have := Int.emod_nonneg x (show n ≠ 0 by omega) <;> omega
  simp [cvT,step,res,below,h,h3]
 ·simp -dsimp only [aqA,↓seqK,↓blkK,↓loopK,step,stepBin,eqB,Nat.add_assoc nid,↓reduceIte,simprocAttr]
  refine RetOK.pure (.inl rfl) rfl ?_
  have h3 : x.tmod n = x % n := by rw [Int.tmod_eq_emod]; split <;> rw [Int.tmod_eq_emod] at h2 <;> rename_i h6 <;> simp only [h6,if_true,if_false,not_false_eq_true] at h2 <;> have := Int.emod_lt_of_pos x (show 0 < n by omega) <;> omega
  simp [cvT,step,res,below,h,h3]
def strmC (nl : Bool) (A : List Int) (p : Nat) : Option ABlk := some (.box 25 [.lit nl A.length [.i .i64 fun i => A.getD i 0],.int .i64 p])
theorem strmC_low (n : Nat) (nl : Bool) (A : List Int) (p : Nat) : lowBlk n (strmC nl A p) = true := rfl
theorem next_c (s nid : Nat) (nl : Bool) (A : List Int) (p : Nat) (n : Int) (h : s < nid) (hp : p ≤ 1099511627775) (hA : A.length ≤ 17592186044416) (hn : n ≤ 9223372036854775807) :
    ACall Tryz.prog 45 [.ptr s 0,.int .i64 n] [(s,strmC nl A p)] nid (.int .i64 (nextV A p n)) [(s,strmC nl A (p + 1))] := by
  obtain ⟨e1,e2,e3,e4,e5,e6,e7,e8,e9⟩ := id_all h
  refine acall_run c45 (by simp [a45]) ?_
  simp -dsimp only [a45,strmC,aqA,↓seqK,↓blkK,↓loopK,step,stepBin,eqB,Nat.add_assoc nid,↓reduceIte,simprocAttr,e1,e2,e3,e4,e5,e6,e7,e8,e9]
  refine ⟨by unfold inI64; omega,S2.intro (fun h2 => ?_) (fun h2 => ?_)⟩
  · simp -dsimp only [aqA,↓seqK,↓blkK,↓loopK,step,stepBin,eqB,Nat.add_assoc nid,↓reduceIte,simprocAttr,e1,e2,e3,e4,e5,e6,e7,e8,e9]
    refine ⟨by unfold inI64; omega,CallO.pure (below_c _ _ _ hn) ?_⟩
    simp -dsimp only [aqA,↓seqK,↓blkK,↓loopK,step,stepBin,eqB,Nat.add_assoc nid,↓reduceIte,simprocAttr,e1,e2,e3,e4,e5,e6,e7,e8,e9]
    have h3 : A.length = 0 := by simpa using h2
    refine RetOK.same (.inl rfl) rfl (by simp [strmC,liveIds]; omega) ?_ ?_
    · simp [cvT,step,res,strmC]
    · simp [cvT,step,res,nextV,h3]
  · simp -dsimp only [aqA,↓seqK,↓blkK,↓loopK,step,stepBin,eqB,Nat.add_assoc nid,↓reduceIte,simprocAttr,e1,e2,e3,e4,e5,e6,e7,e8,e9]
    have h3 : 0 < A.length := by have : ¬ A.length = 0 := by simpa using h2
                                 omega
    have h4 : ∀ z : Nat,z ≤ 1099511627776 → IntKind.i64.wrap (z : Int) = z := fun z hz => IntWalk.i64_in _ (by omega)
    have h5 : p / A.length ≤ p := Nat.div_le_self _ _
    have h6 : p % A.length < A.length := Nat.mod_lt _ h3
    have h11 := h4 _ (show p / A.length ≤ 1099511627776 by omega)
    refine ⟨by unfold inI64; omega,by omega,by unfold inI64; omega,by omega,by omega,CallO.pure (below_c _ _ _ (by omega)) ?_⟩
    simp -dsimp only [aqA,↓seqK,↓blkK,↓loopK,step,stepBin,eqB,Nat.add_assoc nid,↓reduceIte,simprocAttr,h11,e1,e2,e3,e4,e5,e6,e7,e8,e9]
    have h7 := round_bd p A.length h3 (by omega)
    have h8 := below_bd (A.getD (p % A.length) 0) (n := 1073741824) (by omega)
    rw [← Int.natCast_emod,← Int.natCast_ediv] at h7
    generalize h9 : ((p / A.length : Nat) : Int) * (7919 + ((p % A.length : Nat) : Int)) = z at h7 ⊢
    refine ⟨by unfold inI64; omega,by unfold inI64; omega,by unfold inI64; omega,CallO.pure (below_c _ _ _ hn) ?_⟩
    simp -dsimp only [aqA,↓seqK,↓blkK,↓loopK,step,stepBin,eqB,Nat.add_assoc nid,↓reduceIte,simprocAttr,e1,e2,e3,e4,e5,e6,e7,e8,e9]
    refine RetOK.same (.inl rfl) rfl (by simp [strmC,liveIds]; omega) ?_ ?_
    · simp [cvT,step,res,strmC]
    · have h10 : A.length ≠ 0 := by omega
      simp [cvT,step,res,nextV,h10,← h9]
theorem range_c (s nid : Nat) (nl : Bool) (A : List Int) (p : Nat) (lo hi : Int) (h : s < nid) (hp : p ≤ 1099511627775) (hA : A.length ≤ 17592186044416) (h1 : lo ≤ hi) (hl : -1099511627776 ≤ lo) (hh : hi ≤ 1099511627776) :
  ACall Tryz.prog 42 [.ptr s 0,.int .i64 lo,.int .i64 hi] [(s,strmC nl A p)] nid (.int .i64 (rangeV A p lo hi)) [(s,strmC nl A (p + 1))] := by
 obtain ⟨e1,e2,e3,e4,e5,e6,e7,e8,e9⟩ := id_all h
 refine acall_run c42 (by simp [a42]) ?_
 simp -dsimp only [a42,aqA,↓seqK,↓blkK,↓loopK,step,stepBin,eqB,Nat.add_assoc nid,↓reduceIte,simprocAttr,e1,e2,e3,e4,e5,e6,e7,e8,e9]
 refine S2.dec (fun h => absurd h (by omega)) (fun h => ?_)
 simp -dsimp only [aqA,↓seqK,↓blkK,↓loopK,step,stepBin,eqB,Nat.add_assoc nid,↓reduceIte,simprocAttr,e1,e2,e3,e4,e5,e6,e7,e8,e9]
 refine ⟨by unfold inI64; omega,by unfold inI64; omega,CallO.on (next_c _ _ _ _ _ _ (by omega) hp hA (by omega)) (subH_hit _ _ _) ?_⟩
 simp -dsimp only [aqA,↓seqK,↓blkK,↓loopK,step,stepBin,eqB,Nat.add_assoc nid,↓reduceIte,simprocAttr,e1,e2,e3,e4,e5,e6,e7,e8,e9]
 have := nextV_bd A p (n := hi - lo + 1) (by omega)
 refine ⟨by unfold inI64; omega,RetOK.same (.inl rfl) rfl (by simp [strmC,liveIds]; omega) ?_ ?_⟩
 ·simp [cvT,step,res,strmC]
 ·simp [cvT,step,res,rangeV]
theorem flip_c (s nid : Nat) (nl : Bool) (A : List Int) (p : Nat) (n : Int) (h : s < nid) (hp : p ≤ 1099511627775) (hA : A.length ≤ 17592186044416) (hn : n ≤ 9223372036854775807) :
  ACall Tryz.prog 9 [.ptr s 0,.int .i64 n] [(s,strmC nl A p)] nid (.bool (flipV A p n)) [(s,strmC nl A (p + 1))] := by
 obtain ⟨e1,e2,e3,e4,e5,e6,e7,e8,e9⟩ := id_all h
 refine acall_run c9 (by simp [a9]) ?_
 simp -dsimp only [a9,aqA,↓seqK,↓blkK,↓loopK,step,stepBin,eqB,Nat.add_assoc nid,↓reduceIte,simprocAttr,e1,e2,e3,e4,e5,e6,e7,e8,e9]
 refine CallO.on (next_c _ _ _ _ _ _ (by omega) hp hA hn) (subH_hit _ _ _) ?_
 simp -dsimp only [aqA,↓seqK,↓blkK,↓loopK,step,stepBin,eqB,Nat.add_assoc nid,↓reduceIte,simprocAttr,e1,e2,e3,e4,e5,e6,e7,e8,e9]
 refine RetOK.same (.inl rfl) rfl (by simp [strmC,liveIds]; omega) ?_ ?_
 ·simp [cvT,step,res,strmC]
 ·simp [cvT,step,res,flipV]
theorem pick_c (s nid : Nat) (nl nl' : Bool) (A : List Int) (p : Nat) (n : Nat) (g : Nat → Int) (h : s < nid) (hp : p ≤ 1099511627775) (hA : A.length ≤ 17592186044416) (h1 : 0 < n) (hn : n ≤ 1099511627776) :
  ACall Tryz.prog 8 [.ptr s 0,.lit nl' n [.i .i64 g]] [(s,strmC nl A p)] nid (.int .i64 (g (pickI A p n))) [(s,strmC nl A (p + 1))] := by
 obtain ⟨e1,e2,e3,e4,e5,e6,e7,e8,e9⟩ := id_all h
 refine acall_run c8 (by simp [a8]) ?_
 simp -dsimp only [a8,aqA,↓seqK,↓blkK,↓loopK,step,stepBin,eqB,Nat.add_assoc nid,↓reduceIte,simprocAttr,e1,e2,e3,e4,e5,e6,e7,e8,e9]
 refine CallO.on (next_c _ _ _ _ _ _ (by omega) hp hA (by omega)) (subH_hit _ _ _) ?_
 simp -dsimp only [aqA,↓seqK,↓blkK,↓loopK,step,stepBin,eqB,Nat.add_assoc nid,↓reduceIte,simprocAttr,e1,e2,e3,e4,e5,e6,e7,e8,e9]
 have := nextV_bd A p (n := (n : Int)) (by omega)
 refine ⟨this,RetOK.same (.inl rfl) rfl (by simp [strmC,liveIds]; omega) ?_ ?_⟩
 ·simp [cvT,step,res,strmC]
 ·simp [cvT,step,res,pickI]
theorem CallX.pick_go {s id nid : Nat} {nl : Bool} {A : List Int} {p : Nat} {n T : Nat} {g : Nat → Int} {H : Heap} {K : PV → Heap → List Nat → Prop} (hs : getH H s = strmC nl A p) (hid : getH H id = some (.arr T n [.i .i64 g])) (hne : (s == id) = false) (h : s < nid) (hp : p ≤ 1099511627775) (hA : A.length ≤ 17592186044416) (h1 : 0 < n) (hn : n ≤ 1099511627776)
  (hK : K (.int .i64 (g (pickI A p n))) [(s,strmC nl A (p + 1)),(id,none)] [s,id]) : CallX Tryz.prog 8 [.ptr s 0,.sl id 0 n] H nid K := by
 refine CallX.given [id] (u := [(s,strmC nl A (p + 1))]) (fun nl' => ?_) (subH_get hs) (by simp [getH,hne]) hK
 have e : lends H [id] nl' [.ptr s 0,.sl id 0 n] = [.ptr s 0,.lit (nl' id) n [.i .i64 g]] := by simp [lends,lend,hid,noOs]
 rw [e]
 exact pick_c s _ nl _ A p n _ h hp hA h1 hn
theorem CallO.pick_go {s id nid : Nat} {nl : Bool} {A : List Int} {p : Nat} {n T : Nat} {g : Nat → Int} {H : Heap} {K : PV → Heap → Prop} (hs : getH H s = strmC nl A p) (hid : getH H id = some (.arr T n [.i .i64 g])) (hne : (s == id) = false) (h : s < nid) (hp : p ≤ 1099511627775) (hA : A.length ≤ 17592186044416) (h1 : 0 < n) (hn : n ≤ 1099511627776)
  (hK : K (.int .i64 (g (pickI A p n))) [(s,strmC nl A (p + 1)),(id,none)]) : CallOK Tryz.prog 8 [.ptr s 0,.sl id 0 n] H nid K :=
 CallO.x (CallX.pick_go hs hid hne h hp hA h1 hn hK)
end Go.Proofs.YtmgfcjblclanmaaGreatDoor
namespace Go.Proofs.YtmgfcjblclanmaaGreatDoor
open Go.RowKit
def arrI (l : List Int) : Option ABlk := some (.arr 3 l.length [.i .i64 fun i => l.getD i 0])
def litI (nl : Bool) (l : List Int) : PV := .lit nl l.length [.i .i64 fun i => l.getD i 0]
theorem out_c (x lo hi : Int) (nid : Nat) : ACall Tryz.prog 46 [.int .i64 x,.int .i64 lo,.int .i64 hi] [] nid (.bool (outB x lo hi)) [] := by
 refine acall_run c46 (by simp [a46]) ?_
 simp -dsimp only [a46,aqA,↓seqK,↓blkK,↓loopK,step,stepBin,eqB,Nat.add_assoc nid,↓reduceIte,simprocAttr]
 refine S2.dec (fun h => ?_) (fun h => ?_) <;> simp -dsimp only [aqA,↓seqK,↓blkK,↓loopK,step,stepBin,eqB,Nat.add_assoc nid,↓reduceIte,simprocAttr] <;> refine RetOK.pure (.inl rfl) rfl ?_ <;> simp [cvT,step,res,outB] <;> omega
theorem in_c (x lo hi : Int) (nid : Nat) : ACall Tryz.prog 48 [.int .i64 x,.int .i64 lo,.int .i64 hi] [] nid (.bool (!outB x lo hi)) [] := by
 refine acall_run c48 (by simp [a48]) ?_
 simp -dsimp only [a48,aqA,↓seqK,↓blkK,↓loopK,step,stepBin,eqB,Nat.add_assoc nid,↓reduceIte,simprocAttr]
 refine S2.dec (fun h => ?_) (fun h => ?_) <;> simp -dsimp only [aqA,↓seqK,↓blkK,↓loopK,step,stepBin,eqB,Nat.add_assoc nid,↓reduceIte,simprocAttr] <;> refine RetOK.pure (.inl rfl) rfl ?_ <;> simp [cvT,step,res,outB] <;> first | omega | (rw [Bool.eq_iff_iff]; simp; omega)
end Go.Proofs.YtmgfcjblclanmaaGreatDoor
namespace Go.Proofs.YtmgfcjblclanmaaGreatDoor
open Go.RowKit
def isBinV (c : Int) : Bool := (decide (48 ≤ c) && decide (c ≤ 57)) || (decide (97 ≤ c) && decide (c ≤ 122))
theorem isBin_c (c : Int) (nid : Nat) : ACall Tryz.prog 101 [.int .u8 c] [] nid (.bool (isBinV c)) [] := by
 refine acall_run c101 (by simp [a101]) ?_
 unfold isBinV
 simp -dsimp only [a101,aqT,aqU,aqN,aqP,↓seqK,↓blkK,↓loopK,step,stepBin,eqB,Nat.reduceBEq,Nat.reduceBeqDiff,Nat.add_assoc nid,Nat.reduceAdd,reduceCtorEq,↓reduceIte,Nat.reduceLeDiff,Nat.reduceBneDiff,Option.toList,← Int.ofNat_tmod,← Int.ofNat_tdiv,Nat.reduceLT]
 cases h1 : decide (48 ≤ c) <;> simp -dsimp only [aqT,aqU,aqN,aqP,↓seqK,↓blkK,↓loopK,step,stepBin,eqB,Nat.reduceBEq,Nat.reduceBeqDiff,Nat.add_assoc nid,Nat.reduceAdd,reduceCtorEq,↓reduceIte,Nat.reduceLeDiff,Nat.reduceBneDiff,Option.toList,← Int.ofNat_tmod,← Int.ofNat_tdiv,Nat.reduceLT]
 ·cases h3 : decide (97 ≤ c) <;> simp -dsimp only [aqT,aqU,aqN,aqP,↓seqK,↓blkK,↓loopK,step,stepBin,eqB,Nat.reduceBEq,Nat.reduceBeqDiff,Nat.add_assoc nid,Nat.reduceAdd,reduceCtorEq,↓reduceIte,Nat.reduceLeDiff,Nat.reduceBneDiff,Option.toList,← Int.ofNat_tmod,← Int.ofNat_tdiv,Nat.reduceLT]
  ·refine RetOK.pure (.inl rfl) rfl ?_
   simp [cvT,step,res,h1,h3]
  ·refine RetOK.pure (.inl rfl) rfl ?_
   simp [cvT,step,res,h1,h3]
 ·cases h2 : decide (c ≤ 57) <;> simp -dsimp only [aqT,aqU,aqN,aqP,↓seqK,↓blkK,↓loopK,step,stepBin,eqB,Nat.reduceBEq,Nat.reduceBeqDiff,Nat.add_assoc nid,Nat.reduceAdd,reduceCtorEq,↓reduceIte,Nat.reduceLeDiff,Nat.reduceBneDiff,Option.toList,← Int.ofNat_tmod,← Int.ofNat_tdiv,Nat.reduceLT]
  ·cases h3 : decide (97 ≤ c) <;> simp -dsimp only [aqT,aqU,aqN,aqP,↓seqK,↓blkK,↓loopK,step,stepBin,eqB,Nat.reduceBEq,Nat.reduceBeqDiff,Nat.add_assoc nid,Nat.reduceAdd,reduceCtorEq,↓reduceIte,Nat.reduceLeDiff,Nat.reduceBneDiff,Option.toList,← Int.ofNat_tmod,← Int.ofNat_tdiv,Nat.reduceLT] <;> refine RetOK.pure (.inl rfl) rfl ?_ <;> simp [cvT,step,res,h1,h2,h3]
  ·refine RetOK.pure (.inl rfl) rfl ?_
   simp [cvT,step,res,h1,h2]
theorem isPlace_c (c : Int) (nid : Nat) : ACall Tryz.prog 155 [.int .u8 c] [] nid (.bool (isBinV c || c == 46 || c == 63 || c == 42)) [] := by
 refine acall_run c155 (by simp [a155]) ?_
 simp -dsimp only [a155,aqT,aqU,aqN,aqP,↓seqK,↓blkK,↓loopK,step,stepBin,eqB,Nat.reduceBEq,Nat.reduceBeqDiff,Nat.add_assoc nid,Nat.reduceAdd,reduceCtorEq,↓reduceIte,Nat.reduceLeDiff,Nat.reduceBneDiff,Option.toList,← Int.ofNat_tmod,← Int.ofNat_tdiv,Nat.reduceLT]
 refine CallO.pure (isBin_c _ _) ?_
 simp -dsimp only [aqT,aqU,aqN,aqP,↓seqK,↓blkK,↓loopK,step,stepBin,eqB,Nat.reduceBEq,Nat.reduceBeqDiff,Nat.add_assoc nid,Nat.reduceAdd,reduceCtorEq,↓reduceIte,Nat.reduceLeDiff,Nat.reduceBneDiff,Option.toList,← Int.ofNat_tmod,← Int.ofNat_tdiv,Nat.reduceLT]
 cases h0 : isBinV c <;> simp -dsimp only [aqT,aqU,aqN,aqP,↓seqK,↓blkK,↓loopK,step,stepBin,eqB,Nat.reduceBEq,Nat.reduceBeqDiff,Nat.add_assoc nid,Nat.reduceAdd,reduceCtorEq,↓reduceIte,Nat.reduceLeDiff,Nat.reduceBneDiff,Option.toList,← Int.ofNat_tmod,← Int.ofNat_tdiv,Nat.reduceLT]
 ·cases h1 : (c == 46) <;> simp -dsimp only [aqT,aqU,aqN,aqP,↓seqK,↓blkK,↓loopK,step,stepBin,eqB,Nat.reduceBEq,Nat.reduceBeqDiff,Nat.add_assoc nid,Nat.reduceAdd,reduceCtorEq,↓reduceIte,Nat.reduceLeDiff,Nat.reduceBneDiff,Option.toList,← Int.ofNat_tmod,← Int.ofNat_tdiv,Nat.reduceLT,h1]
  ·cases h2 : (c == 63) <;> simp -dsimp only [aqT,aqU,aqN,aqP,↓seqK,↓blkK,↓loopK,step,stepBin,eqB,Nat.reduceBEq,Nat.reduceBeqDiff,Nat.add_assoc nid,Nat.reduceAdd,reduceCtorEq,↓reduceIte,Nat.reduceLeDiff,Nat.reduceBneDiff,Option.toList,← Int.ofNat_tmod,← Int.ofNat_tdiv,Nat.reduceLT,h2] <;> refine RetOK.pure (.inl rfl) rfl ?_ <;> simp [cvT,step,res,h1,h2]
  ·refine RetOK.pure (.inl rfl) rfl ?_
   simp [cvT,step,res]
 ·refine RetOK.pure (.inl rfl) rfl ?_
  simp [cvT,step,res]
theorem oddF_c (c : Int) (nid : Nat) : ACall Tryz.prog 154 [.int .u8 c] [] nid (.bool (!(isBinV c || c == 46 || c == 63 || c == 42))) [] := by
 refine acall_run c154 (by simp [a154]) ?_
 simp -dsimp only [a154,aqT,aqU,aqN,aqP,↓seqK,↓blkK,↓loopK,step,stepBin,eqB,Nat.reduceBEq,Nat.reduceBeqDiff,Nat.add_assoc nid,Nat.reduceAdd,reduceCtorEq,↓reduceIte,Nat.reduceLeDiff,Nat.reduceBneDiff,Option.toList,← Int.ofNat_tmod,← Int.ofNat_tdiv,Nat.reduceLT]
 refine CallO.pure (isPlace_c _ _) ?_
 simp -dsimp only [aqT,aqU,aqN,aqP,↓seqK,↓blkK,↓loopK,step,stepBin,eqB,Nat.reduceBEq,Nat.reduceBeqDiff,Nat.add_assoc nid,Nat.reduceAdd,reduceCtorEq,↓reduceIte,Nat.reduceLeDiff,Nat.reduceBneDiff,Option.toList,← Int.ofNat_tmod,← Int.ofNat_tdiv,Nat.reduceLT]
 refine RetOK.pure (.inl rfl) rfl ?_
 simp [cvT,step,res]
def placeB (c : Int) : Bool := isBinV c || c == 46 || c == 63 || c == 42
theorem indexF_c (nl : Bool) (n : Nat) (g : Nat → Int) (nid : Nat) (hn : n ≤ 1000000000) (h : ∀ i,i < n → placeB (g i) = true) : ACall Tryz.prog 120 [.lit nl n [.i .u8 g],.fn 154 []] [] nid (.int .i64 (-1)) [] := by
 refine acall_run c120 (by simp [a120]) ?_
 simp -dsimp only [a120,aqT,aqU,aqN,aqP,↓seqK,↓blkK,↓loopK,step,stepBin,eqB,Nat.reduceBEq,Nat.reduceBeqDiff,Nat.add_assoc nid,Nat.reduceAdd,reduceCtorEq,↓reduceIte,Nat.reduceLeDiff,Nat.reduceBneDiff,Option.toList,← Int.ofNat_tmod,← Int.ofNat_tdiv,Nat.reduceLT]
 refine LP.mkP (fun k : Nat => k ≤ n) (fun k : Nat => ⟨[(8,.int .i64 k),(7,.int .i64 n),(0,.lit nl n [.i .u8 g]),(1,.fn 154 [])],[],nid + 100,nid⟩) (fun k => n + 1 - k) 0 (by omega) (Cov.go [] [] ?_) (fun k hk => ?_)
 ·simp [cvT,step,res]
 simp -dsimp only [aqT,aqU,aqN,aqP,↓seqK,↓blkK,↓loopK,step,stepBin,eqB,Nat.reduceBEq,Nat.reduceBeqDiff,Nat.add_assoc nid,Nat.reduceAdd,reduceCtorEq,↓reduceIte,Nat.reduceLeDiff,Nat.reduceBneDiff,Option.toList,← Int.ofNat_tmod,← Int.ofNat_tdiv,Nat.reduceLT]
 refine S2.dec (fun h3 => ?_) (fun h3 => ?_) <;> simp -dsimp only [aqT,aqU,aqN,aqP,↓seqK,↓blkK,↓loopK,step,stepBin,eqB,Nat.reduceBEq,Nat.reduceBeqDiff,Nat.add_assoc nid,Nat.reduceAdd,reduceCtorEq,↓reduceIte,Nat.reduceLeDiff,Nat.reduceBneDiff,Option.toList,← Int.ofNat_tmod,← Int.ofNat_tdiv,Nat.reduceLT]
 ·refine ⟨by omega,CallO.pure (oddF_c _ _) ?_⟩
  have hp := h k (by omega)
  unfold placeB at hp
  rw [hp]
  simp -dsimp only [aqT,aqU,aqN,aqP,↓seqK,↓blkK,↓loopK,step,stepBin,eqB,Nat.reduceBEq,Nat.reduceBeqDiff,Nat.add_assoc nid,Nat.reduceAdd,reduceCtorEq,↓reduceIte,Nat.reduceLeDiff,Nat.reduceBneDiff,Option.toList,← Int.ofNat_tmod,← Int.ofNat_tdiv,Nat.reduceLT]
  refine ⟨by unfold inI64; omega,k + 1,⟨by omega,by omega⟩,Cov.go [] [] ?_⟩
  simp [cvT,step,res]
 ·refine RetOK.pure (.inl rfl) rfl ?_
  simp [cvT,step,res]
theorem odd_c' (s : List UInt8) (nid : Nat) (hn : s.length ≤ 1000000000) (h : ∀ i,i < s.length → placeB ((s.getD i 0).toNat : Nat) = true) : ACall Tryz.prog 100 [.str s] [] nid (.bool false) [] := by
 have hcf : ∀ nid,ACall Tryz.prog 50 [.lit false s.length [.i .u8 fun i => ((s.getD i 0).toNat : Nat)],.fn 154 []] [] nid (.bool false) [] := fun nid => by
  refine acall_run c50 (by simp [a50]) ?_
  simp -dsimp only [a50,aqT,aqU,aqN,aqP,↓seqK,↓blkK,↓loopK,step,stepBin,eqB,Nat.reduceBEq,Nat.reduceBeqDiff,Nat.add_assoc nid,Nat.reduceAdd,reduceCtorEq,↓reduceIte,Nat.reduceLeDiff,Nat.reduceBneDiff,Option.toList,← Int.ofNat_tmod,← Int.ofNat_tdiv,Nat.reduceLT]
  refine CallO.pure (indexF_c _ _ _ _ hn h) ?_
  simp -dsimp only [aqT,aqU,aqN,aqP,↓seqK,↓blkK,↓loopK,step,stepBin,eqB,Nat.reduceBEq,Nat.reduceBeqDiff,Nat.add_assoc nid,Nat.reduceAdd,reduceCtorEq,↓reduceIte,Nat.reduceLeDiff,Nat.reduceBneDiff,Option.toList,← Int.ofNat_tmod,← Int.ofNat_tdiv,Nat.reduceLT,Int.cast_ofNat_Int,Int.reduceBEq,Int.reduceBNe,Int.reduceLT,Int.reduceLE,Int.reduceAdd,Int.reduceSub,Int.reduceMul,Int.reduceToNat,Int.reduceNeg,Int.reduceTMod,Int.reduceEq,not_false_eq_true,Int.reducePow,Int.reduceFDiv,Nat.reducePow,Nat.reduceSub,Nat.reduceMul,Nat.min_eq_left,Nat.reduceEqDiff,BEq.rfl,Int.tdiv_one,LN_succ]
  refine RetOK.pure (.inl rfl) rfl ?_
  simp [cvT,step,res]
 refine acall_run c100 (by simp [a100]) ?_
 simp -dsimp only [a100,aqT,aqU,aqN,aqP,↓seqK,↓blkK,↓loopK,step,stepBin,eqB,Nat.reduceBEq,Nat.reduceBeqDiff,Nat.add_assoc nid,Nat.reduceAdd,reduceCtorEq,↓reduceIte,Nat.reduceLeDiff,Nat.reduceBneDiff,Option.toList,← Int.ofNat_tmod,← Int.ofNat_tdiv,Nat.reduceLT]
 refine CallO.pure (hcf _) ?_
 simp -dsimp only [aqT,aqU,aqN,aqP,↓seqK,↓blkK,↓loopK,step,stepBin,eqB,Nat.reduceBEq,Nat.reduceBeqDiff,Nat.add_assoc nid,Nat.reduceAdd,reduceCtorEq,↓reduceIte,Nat.reduceLeDiff,Nat.reduceBneDiff,Option.toList,← Int.ofNat_tmod,← Int.ofNat_tdiv,Nat.reduceLT]
 refine RetOK.pure (.inl rfl) rfl ?_
 simp [cvT,step,res]
theorem tested_c (c : Int) (nid : Nat) : ACall Tryz.prog 61 [.int .u8 c] [] nid (.bool (isBinV c || c == 42)) [] := by
 refine acall_run c61 (by simp [a61]) ?_
 simp -dsimp only [a61,aqT,aqU,aqN,aqP,↓seqK,↓blkK,↓loopK,step,stepBin,eqB,Nat.reduceBEq,Nat.reduceBeqDiff,Nat.add_assoc nid,Nat.reduceAdd,reduceCtorEq,↓reduceIte,Nat.reduceLeDiff,Nat.reduceBneDiff,Option.toList,← Int.ofNat_tmod,← Int.ofNat_tdiv,Nat.reduceLT]
 refine CallO.pure (isBin_c _ _) ?_
 cases h0 : isBinV c <;> cases h1 : (c == 42) <;>
  simp -dsimp only [aqT,aqU,aqN,aqP,↓seqK,↓blkK,↓loopK,step,stepBin,eqB,Nat.reduceBEq,Nat.reduceBeqDiff,Nat.add_assoc nid,Nat.reduceAdd,reduceCtorEq,↓reduceIte,Nat.reduceLeDiff,Nat.reduceBneDiff,Option.toList,← Int.ofNat_tmod,← Int.ofNat_tdiv,Nat.reduceLT,h0,h1] <;> refine RetOK.pure (.inl rfl) rfl ?_ <;> simp [cvT,step,res]
theorem gcd12_c (nid : Nat) : ACall Tryz.prog 157 [.int .i64 1,.int .i64 2] [] nid (.int .i64 1) [] := by
 refine acall_run c157 (by simp [a157]) ?_
 simp -dsimp only [a157,aqT,aqU,aqN,aqP,↓seqK,↓blkK,↓loopK,step,stepBin,eqB,Nat.reduceBEq,Nat.reduceBeqDiff,Nat.add_assoc nid,Nat.reduceAdd,reduceCtorEq,↓reduceIte,Nat.reduceLeDiff,Nat.reduceBneDiff,Option.toList,← Int.ofNat_tmod,← Int.ofNat_tdiv,Nat.reduceLT]
 refine LP.rounds 5 ?_
 simp -dsimp only [aqT,aqU,aqN,aqP,↓seqK,↓blkK,↓loopK,step,stepBin,eqB,Nat.reduceBEq,Nat.reduceBeqDiff,Nat.add_assoc nid,Nat.reduceAdd,reduceCtorEq,↓reduceIte,Nat.reduceLeDiff,Nat.reduceBneDiff,Option.toList,← Int.ofNat_tmod,← Int.ofNat_tdiv,Nat.reduceLT,Int.cast_ofNat_Int,Int.reduceBEq,Int.reduceBNe,Int.reduceLT,Int.reduceLE,Int.reduceAdd,Int.reduceSub,Int.reduceMul,Int.reduceToNat,Int.reduceNeg,Int.reduceTMod,Int.reduceEq,not_false_eq_true,Int.reducePow,Int.reduceFDiv,Nat.reducePow,Nat.reduceSub,Nat.reduceMul,Nat.min_eq_left,Nat.reduceEqDiff,BEq.rfl,Int.tdiv_one,LN_succ]
 refine RetOK.pure (.inl rfl) rfl ?_
 simp [cvT,step,res]
theorem frac12_c (nid : Nat) : ACall Tryz.prog 103 [.int .i64 1,.int .i64 2] [] nid (.agg [.int .i64 1,.int .i64 2]) [] := by
 refine acall_run c103 (by simp [a103]) ?_
 simp -dsimp only [a103,aqT,aqU,aqN,aqP,↓seqK,↓blkK,↓loopK,step,stepBin,eqB,Nat.reduceBEq,Nat.reduceBeqDiff,Nat.add_assoc nid,Nat.reduceAdd,reduceCtorEq,↓reduceIte,Nat.reduceLeDiff,Nat.reduceBneDiff,Option.toList,← Int.ofNat_tmod,← Int.ofNat_tdiv,Nat.reduceLT,Int.cast_ofNat_Int,Int.reduceBEq,Int.reduceBNe,Int.reduceLT,Int.reduceLE,Int.reduceAdd,Int.reduceSub,Int.reduceMul,Int.reduceToNat,Int.reduceNeg,Int.reduceTMod,Int.reduceEq,not_false_eq_true,Int.reducePow,Int.reduceFDiv,Nat.reducePow,Nat.reduceSub,Nat.reduceMul,Nat.min_eq_left,Nat.reduceEqDiff,BEq.rfl,Int.tdiv_one,LN_succ]
 have hm : max (1 : Int) (-1) = 1 := by decide
 rw [hm]
 refine ⟨by unfold inI64; omega,CallO.pure (gcd12_c _) ?_⟩
 simp -dsimp only [aqT,aqU,aqN,aqP,↓seqK,↓blkK,↓loopK,step,stepBin,eqB,Nat.reduceBEq,Nat.reduceBeqDiff,Nat.add_assoc nid,Nat.reduceAdd,reduceCtorEq,↓reduceIte,Nat.reduceLeDiff,Nat.reduceBneDiff,Option.toList,← Int.ofNat_tmod,← Int.ofNat_tdiv,Nat.reduceLT,Int.cast_ofNat_Int,Int.reduceBEq,Int.reduceBNe,Int.reduceLT,Int.reduceLE,Int.reduceAdd,Int.reduceSub,Int.reduceMul,Int.reduceToNat,Int.reduceNeg,Int.reduceTMod,Int.reduceEq,not_false_eq_true,Int.reducePow,Int.reduceFDiv,Nat.reducePow,Nat.reduceSub,Nat.reduceMul,Nat.min_eq_left,Nat.reduceEqDiff,BEq.rfl,Int.tdiv_one,LN_succ]
 have h1 : IntKind.i64.wrap 1 = 1 := by decide
 have h2 : IntKind.i64.wrap 2 = 2 := by decide
 rw [h1,h2]
 refine RetOK.go [] [] (.inl rfl) ?_
 simp [a103,cvT,step,res]
theorem indexBS_c (s : List UInt8) (c : Int) (nid : Nat) : ACall Tryz.prog 200 [.str s,.int .u8 c] [] nid (.int .i64 (Lib.indexByte s c.toNat.toUInt8)) [] := by
 intro C vs hb hl hr hs
 obtain ⟨v0,v1,rfl⟩ : ∃ a b,vs = [a,b] := by
  rcases vs with _ | ⟨a,_ | ⟨b,_ | ⟨c,r⟩⟩⟩
  ·simp at hl
  ·simp at hl
  ·exact ⟨a,b,rfl⟩
  ·simp at hl
 have r0 := (hr 0 _ v0 rfl rfl).str_inv
 have r1 := (hr 1 _ v1 rfl rfl).int_inv
 subst r0; subst r1
 refine .inr ⟨.int .i64 (Lib.indexByte s c.toNat.toUInt8),C.w0,?_,C.Y0,C.m0,.int,by simpa using hs.next (show nid ≤ nid + 4 by omega),Ev.refl _ _ _⟩
 rw [run_callFunc_extern (P := Tryz.prog) (f := 200) (fn := Tryz.f200) (e := Extern.BytealgIndexByte.indexByte) Tryz.func200 (by kernel_rfl) (by kernel_rfl) (by kernel_rfl) (by kernel_rfl)]
 have h := Lib.run_indexByteString (P := Tryz.prog) ⟨s.toArray⟩ c C.w0
 show ((Extern.BytealgIndexByte.indexByte #[.string ⟨s.toArray⟩,.int .u8 c]).run Tryz.prog C.w0).andThen _ = _
 rw [h]
 rfl
theorem indexB_c (s : List UInt8) (c : Int) (nid : Nat) : ACall Tryz.prog 121 [.str s,.int .u8 c] [] nid (.int .i64 (Lib.indexByte s c.toNat.toUInt8)) [] := by
 have h1 : ∀ nid,ACall Tryz.prog 168 [.str s,.int .u8 c] [] nid (.int .i64 (Lib.indexByte s c.toNat.toUInt8)) [] := fun nid => by
  refine acall_run c168 (by simp [a168]) ?_
  simp -dsimp only [a168,aqT,aqU,aqN,aqP,↓seqK,↓blkK,↓loopK,step,stepBin,eqB,Nat.reduceBEq,Nat.reduceBeqDiff,Nat.add_assoc nid,Nat.reduceAdd,reduceCtorEq,↓reduceIte,Nat.reduceLeDiff,Nat.reduceBneDiff,Option.toList,← Int.ofNat_tmod,← Int.ofNat_tdiv,Nat.reduceLT]
  refine CallO.pure (indexBS_c s c _) ?_
  simp -dsimp only [aqT,aqU,aqN,aqP,↓seqK,↓blkK,↓loopK,step,stepBin,eqB,Nat.reduceBEq,Nat.reduceBeqDiff,Nat.add_assoc nid,Nat.reduceAdd,reduceCtorEq,↓reduceIte,Nat.reduceLeDiff,Nat.reduceBneDiff,Option.toList,← Int.ofNat_tmod,← Int.ofNat_tdiv,Nat.reduceLT]
  refine RetOK.pure (.inl rfl) rfl ?_
  simp [cvT,step,res]
 refine acall_run c121 (by simp [a121]) ?_
 simp -dsimp only [a121,aqT,aqU,aqN,aqP,↓seqK,↓blkK,↓loopK,step,stepBin,eqB,Nat.reduceBEq,Nat.reduceBeqDiff,Nat.add_assoc nid,Nat.reduceAdd,reduceCtorEq,↓reduceIte,Nat.reduceLeDiff,Nat.reduceBneDiff,Option.toList,← Int.ofNat_tmod,← Int.ofNat_tdiv,Nat.reduceLT]
 refine CallO.pure (h1 _) ?_
 simp -dsimp only [aqT,aqU,aqN,aqP,↓seqK,↓blkK,↓loopK,step,stepBin,eqB,Nat.reduceBEq,Nat.reduceBeqDiff,Nat.add_assoc nid,Nat.reduceAdd,reduceCtorEq,↓reduceIte,Nat.reduceLeDiff,Nat.reduceBneDiff,Option.toList,← Int.ofNat_tmod,← Int.ofNat_tdiv,Nat.reduceLT]
 refine RetOK.pure (.inl rfl) rfl ?_
 simp [cvT,step,res]
def passedV (pass : List UInt8) (c : Int) : Bool := isBinV c && decide (0 ≤ Lib.indexByte pass c.toNat.toUInt8)
theorem passed_c (rows : PV) (pass : List UInt8) (c : Int) (nid : Nat) (nl : Bool) (n : Nat) (cols : List Col) (hr : rows = .lit nl n cols) : ACall Tryz.prog 156 [.agg [rows,.str pass],.int .u8 c] [] nid (.bool (passedV pass c)) [] := by
 subst hr
 refine acall_run c156 (by simp [a156]) ?_
 simp -dsimp only [a156,aqT,aqU,aqN,aqP,↓seqK,↓blkK,↓loopK,step,stepBin,eqB,Nat.reduceBEq,Nat.reduceBeqDiff,Nat.add_assoc nid,Nat.reduceAdd,reduceCtorEq,↓reduceIte,Nat.reduceLeDiff,Nat.reduceBneDiff,Option.toList,← Int.ofNat_tmod,← Int.ofNat_tdiv,Nat.reduceLT]
 refine CallO.pure (isBin_c _ _) ?_
 unfold passedV
 simp -dsimp only [aqT,aqU,aqN,aqP,↓seqK,↓blkK,↓loopK,step,stepBin,eqB,Nat.reduceBEq,Nat.reduceBeqDiff,Nat.add_assoc nid,Nat.reduceAdd,reduceCtorEq,↓reduceIte,Nat.reduceLeDiff,Nat.reduceBneDiff,Option.toList,← Int.ofNat_tmod,← Int.ofNat_tdiv,Nat.reduceLT]
 cases h0 : isBinV c <;> simp -dsimp only [aqT,aqU,aqN,aqP,↓seqK,↓blkK,↓loopK,step,stepBin,eqB,Nat.reduceBEq,Nat.reduceBeqDiff,Nat.add_assoc nid,Nat.reduceAdd,reduceCtorEq,↓reduceIte,Nat.reduceLeDiff,Nat.reduceBneDiff,Option.toList,← Int.ofNat_tmod,← Int.ofNat_tdiv,Nat.reduceLT]
 ·refine RetOK.pure (.inl rfl) rfl ?_
  simp [cvT,step,res]
 ·refine CallO.pure (indexB_c _ _ _) ?_
  simp -dsimp only [aqT,aqU,aqN,aqP,↓seqK,↓blkK,↓loopK,step,stepBin,eqB,Nat.reduceBEq,Nat.reduceBeqDiff,Nat.add_assoc nid,Nat.reduceAdd,reduceCtorEq,↓reduceIte,Nat.reduceLeDiff,Nat.reduceBneDiff,Option.toList,← Int.ofNat_tmod,← Int.ofNat_tdiv,Nat.reduceLT]
  refine RetOK.pure (.inl rfl) rfl ?_
  simp [cvT,step,res]
end Go.Proofs.YtmgfcjblclanmaaGreatDoor
namespace Go.Proofs.YtmgfcjblclanmaaGreatDoor
structure Waf where
 rows : List (List UInt8)
 pass : List UInt8
deriving DecidableEq
def byteI (b : UInt8) : Int := (b.toNat : Nat)
def wideOf (W : Waf) : Nat := (W.rows.getD 0 []).length
def dieV (W : Waf) (x y : Int) : Int := if outB y 0 ((W.rows.length : Int) - 1) = true then 46 else if outB x 0 ((wideOf W : Int) - 1) = true then 46 else byteI ((W.rows.getD y.toNat []).getD x.toNat 0)
def oddB (r : List UInt8) : Bool := r.any fun c => !placeB (byteI c)
def rowBad (wide : Nat) (r : List UInt8) : Int := if r = [] then 8 else if 60 < r.length then 2 else if r.length ≠ wide then 3 else if oddB r = true then 9 else 0
def passBad (p : List UInt8) (i : Nat) : Int := if isBinV (byteI (p.getD i 0)) = false then 9 else if 0 < i ∧ byteI (p.getD i 0) ≤ byteI (p.getD (i - 1) 0) then 7 else 0
def passV (p : List UInt8) : Int := firstBad (passBad p) (List.range p.length)
def waferV (W : Waf) : Int := if W.rows.length = 0 then 8 else if 60 < W.rows.length then 2 else if firstBad (rowBad (wideOf W)) W.rows ≠ 0 then firstBad (rowBad (wideOf W)) W.rows else passV W.pass
structure WafOk (W : Waf) : Prop where
 pos : 0 < W.rows.length
 len : W.rows.length ≤ 60
 row : ∀ r ∈ W.rows,r ≠ [] ∧ r.length ≤ 60 ∧ r.length = wideOf W ∧ oddB r = false
 bins : ∀ b ∈ W.pass,isBinV (byteI b) = true
theorem waferV_ok {W : Waf} (h : waferV W = 0) : WafOk W := by
 unfold waferV at h
 split at h; · cases h
 split at h; · cases h
 split at h; · contradiction
 rename_i h1 h2 h3
 have h3' : firstBad (rowBad (wideOf W)) W.rows = 0 := by simpa using h3
 refine ⟨by omega,by omega,fun r hr => ?_,fun b hb => ?_⟩
 ·have := firstBad_all h3' r hr
  unfold rowBad at this
  split at this; · cases this
  split at this; · cases this
  split at this; · cases this
  split at this; · cases this
  rename_i a1 a2 a3 a4
  exact ⟨a1,by omega,by omega,by simpa using a4⟩
 ·obtain ⟨i,hi,rfl⟩ := List.getElem_of_mem hb
  have := firstBad_all (f := passBad W.pass) h i (List.mem_range.2 hi)
  unfold passBad at this
  split at this; · cases this
  rename_i a1
  rw [List.getD_eq_getElem?_getD,List.getElem?_eq_getElem hi] at a1
  simpa using a1
theorem WafOk.wide {W : Waf} (h : WafOk W) : 0 < wideOf W ∧ wideOf W ≤ 60 := by
 have hm : W.rows.getD 0 [] ∈ W.rows := by
  rw [List.getD_eq_getElem?_getD,List.getElem?_eq_getElem h.pos]; exact List.getElem_mem _
 obtain ⟨h1,h2,h3,_⟩ := h.row _ hm
 have : 0 < (W.rows.getD 0 []).length := List.length_pos_iff.2 h1
 exact ⟨this,h2⟩
theorem WafOk.at {W : Waf} (h : WafOk W) {y : Nat} (hy : y < W.rows.length) : (W.rows.getD y []).length = wideOf W ∧ oddB (W.rows.getD y []) = false := by
 have hm : W.rows.getD y [] ∈ W.rows := by
  rw [List.getD_eq_getElem?_getD,List.getElem?_eq_getElem hy]; exact List.getElem_mem _
 exact (h.row _ hm).2.2
def rowPl (y n : Nat) : List Pt := (List.range n).map fun x => (((x : Nat) : Int),((y : Nat) : Int))
def plTo (W : Waf) (y : Nat) : List Pt := (List.range y).flatMap fun y => rowPl y (W.rows.getD y []).length
def plV (W : Waf) : List Pt := plTo W W.rows.length
theorem rowPl_len (y n : Nat) : (rowPl y n).length = n := by simp [rowPl]
theorem rowPl_succ (y n : Nat) : rowPl y (n + 1) = rowPl y n ++ [((n : Int),(y : Int))] := by simp [rowPl,List.range_succ]
theorem plTo_succ (W : Waf) (y : Nat) : plTo W (y + 1) = plTo W y ++ rowPl y (W.rows.getD y []).length := by simp [plTo,List.range_succ]
theorem plTo_len {W : Waf} (h : ∀ r ∈ W.rows,r.length ≤ 1000) : ∀ y,y ≤ W.rows.length → (plTo W y).length ≤ 1000 * y
 | 0,_ => by simp [plTo]
 | y + 1,hy => by
  have := plTo_len h y (by omega)
  have hm : W.rows.getD y [] ∈ W.rows := by
   rw [List.getD_eq_getElem?_getD,List.getElem?_eq_getElem (by omega : y < W.rows.length)]; exact List.getElem_mem _
  have := h _ hm
  rw [plTo_succ,List.length_append,rowPl_len]
  omega
theorem plV_mem {W : Waf} {p : Pt} (h : p ∈ plV W) : ∃ x y : Nat,p = ((x : Int),(y : Int)) ∧ y < W.rows.length ∧ x < (W.rows.getD y []).length := by
 unfold plV plTo rowPl at h
 rw [List.mem_flatMap] at h
 obtain ⟨y,hy,h⟩ := h
 rw [List.mem_map] at h
 obtain ⟨x,hx,rfl⟩ := h
 exact ⟨x,y,rfl,List.mem_range.1 hy,List.mem_range.1 hx⟩
theorem dieV_in {W : Waf} {x y : Nat} (hy : y < W.rows.length) (hx : x < wideOf W) : dieV W (x : Int) (y : Int) = byteI ((W.rows.getD y []).getD x 0) := by
 unfold dieV outB
 rw [if_neg (by simp; omega),if_neg (by simp; omega),Int.toNat_natCast,Int.toNat_natCast]
def binsL : List UInt8 := [48,49,50,51,52,53,54,55,56,57,97,98,99,100,101,102,103,104,105,106,107,108,109,110,111,112,113,114,115,116,117,118,119,120,121,122]
theorem bins_all : ((List.range 256).all fun n => decide (0 ≤ Lib.indexByte binsL n.toUInt8) == isBinV (n : Int)) = true := by kernel_rfl
theorem bins_ok (n : Nat) (hn : n < 256) : decide (0 ≤ Lib.indexByte binsL n.toUInt8) = isBinV (n : Int) := by
 have := List.all_eq_true.1 bins_all n (List.mem_range.2 hn)
 exact beq_iff_eq.1 this
theorem binsS_all : ((List.range 256).all fun n => decide (0 ≤ Lib.indexByte (binsL ++ [42]) n.toUInt8) == (isBinV (n : Int) || (n : Int) == 42)) = true := by kernel_rfl
theorem binsS_ok (n : Nat) (hn : n < 256) : decide (0 ≤ Lib.indexByte (binsL ++ [42]) n.toUInt8) = (isBinV (n : Int) || (n : Int) == 42) := by
 have := List.all_eq_true.1 binsS_all n (List.mem_range.2 hn)
 exact beq_iff_eq.1 this
def testedV (c : Int) : Bool := isBinV c || c == 42
def failedV (pass : List UInt8) (c : Int) : Bool := isBinV c && !passedV pass c
end Go.Proofs.YtmgfcjblclanmaaGreatDoor
namespace Go.Proofs.YtmgfcjblclanmaaGreatDoor
open Go.RowKit
theorem some_c (s nid : Nat) (nl nl' : Bool) (A : List Int) (p : Nat) (n : Nat) (g : Nat → List UInt8) (h : s < nid) (hp : p ≤ 1099511627775) (hA : A.length ≤ 17592186044416) (h1 : 0 < n) (hn : n ≤ 1099511627776) :
  ACall Tryz.prog 43 [.ptr s 0,.lit nl' n [.s g]] [(s,strmC nl A p)] nid (.str (g (pickI A p n))) [(s,strmC nl A (p + 1))] := by
 obtain ⟨e1,e2,e3,e4,e5,e6,e7,e8,e9⟩ := id_all h
 refine acall_run c43 (by simp [a43]) ?_
 simp -dsimp only [aqA,↓seqK,↓blkK,↓loopK,step,stepBin,eqB,Nat.add_assoc nid,↓reduceIte,simprocAttr,e1,e2,e3,e4,e5,e6,e7,e8,e9,a43]
 refine CallO.on (next_c _ _ _ _ _ _ (by omega) hp hA (by omega)) (subH_hit _ _ _) ?_
 simp -dsimp only [aqA,↓seqK,↓blkK,↓loopK,step,stepBin,eqB,Nat.add_assoc nid,↓reduceIte,simprocAttr,e1,e2,e3,e4,e5,e6,e7,e8,e9]
 have := nextV_bd A p (n := (n : Int)) (by omega)
 refine ⟨this,RetOK.same (.inl rfl) rfl (by simp [strmC,liveIds]; omega) ?_ ?_⟩
 ·simp [cvT,step,res,strmC]
 ·simp [cvT,step,res,pickI]
theorem CallX.some_go {s id nid : Nat} {nl : Bool} {A : List Int} {p : Nat} {n T : Nat} {g : Nat → List UInt8} {H : Heap} {K : PV → Heap → List Nat → Prop} (hs : getH H s = strmC nl A p) (hid : getH H id = some (.arr T n [.s g])) (hne : (s == id) = false) (h : s < nid) (hp : p ≤ 1099511627775) (hA : A.length ≤ 17592186044416) (h1 : 0 < n) (hn : n ≤ 1099511627776)
  (hK : K (.str (g (pickI A p n))) [(s,strmC nl A (p + 1)),(id,none)] [s,id]) : CallX Tryz.prog 43 [.ptr s 0,.sl id 0 n] H nid K := by
 refine CallX.given [id] (u := [(s,strmC nl A (p + 1))]) (fun nl' => ?_) (subH_get hs) (by simp [getH,hne]) hK
 have e : lends H [id] nl' [.ptr s 0,.sl id 0 n] = [.ptr s 0,.lit (nl' id) n [.s g]] := by simp [lends,lend,hid,noOs]
 rw [e]
 exact some_c s _ nl _ A p n _ h hp hA h1 hn
theorem CallO.some_go {s id nid : Nat} {nl : Bool} {A : List Int} {p : Nat} {n T : Nat} {g : Nat → List UInt8} {H : Heap} {K : PV → Heap → Prop} (hs : getH H s = strmC nl A p) (hid : getH H id = some (.arr T n [.s g])) (hne : (s == id) = false) (h : s < nid) (hp : p ≤ 1099511627775) (hA : A.length ≤ 17592186044416) (h1 : 0 < n) (hn : n ≤ 1099511627776)
  (hK : K (.str (g (pickI A p n))) [(s,strmC nl A (p + 1)),(id,none)]) : CallOK Tryz.prog 43 [.ptr s 0,.sl id 0 n] H nid K :=
 CallO.x (CallX.some_go hs hid hne h hp hA h1 hn hK)
theorem getD_all {α : Type} {P : α → Prop} {l : List α} {d : α} (h : ∀ x ∈ l,P x) {i : Nat} (hi : i < l.length) : P (l.getD i d) := by
 rw [List.getD_eq_getElem?_getD,List.getElem?_eq_getElem hi]
 exact h _ (List.getElem_mem _)
end Go.Proofs.YtmgfcjblclanmaaGreatDoor
namespace Go.Proofs.YtmgfcjblclanmaaGreatDoor
open Go.RowKit
theorem any_range {s : List UInt8} {F : UInt8 → Bool} : (List.range s.length).any (fun i => F (s.getD i 0)) = s.any F := by
 rw [Bool.eq_iff_iff,List.any_eq_true,List.any_eq_true]
 constructor
 ·rintro ⟨i,hi,h⟩
  have hi' := List.mem_range.1 hi
  refine ⟨s[i],List.getElem_mem _,?_⟩
  rwa [List.getD_eq_getElem?_getD,List.getElem?_eq_getElem hi'] at h
 ·rintro ⟨x,hx,h⟩
  obtain ⟨i,hi,rfl⟩ := List.getElem_of_mem hx
  refine ⟨i,List.mem_range.2 hi,?_⟩
  rw [List.getD_eq_getElem?_getD,List.getElem?_eq_getElem hi]
  exact h
theorem indexFB (f : Nat) (F : UInt8 → Bool) (hf : ∀ (b : UInt8) nid,ACall Tryz.prog f [.int .u8 ((b.toNat : Nat))] [] nid (.bool (F b)) []) (nl : Bool) (n : Nat) (g : Nat → UInt8) (nid : Nat) (hn : n ≤ 1000000000) :
  ∃ r : Int,(-1 ≤ r ∧ (0 ≤ r ↔ (List.range n).any (fun i => F (g i)) = true)) ∧ ACall Tryz.prog 120 [.lit nl n [.i .u8 fun i => ((g i).toNat : Nat)],.fn f []] [] nid (.int .i64 r) [] := by
 refine acall_ex c120 (by simp [a120]) ?_
 simp -dsimp only [aqT0,ROp0,aqA,↓seqK,↓blkK,↓loopK,step,stepBin,eqB,Nat.add_assoc nid,↓reduceIte,simprocAttr,LN_succ,a120]
 refine LP0.mkP (fun k : Nat => k ≤ n ∧ ∀ j,j < k → F (g j) = false) (fun k : Nat => ⟨[(8,.int .i64 k),(7,.int .i64 n),(0,.lit nl n [.i .u8 fun i => ((g i).toNat : Nat)]),(1,.fn f [])],[],nid + 100,nid⟩) (fun k => n + 1 - k) 0 ⟨by omega,fun j hj => by omega⟩ (Cov.go [] [] ?_) (fun k hk => ?_)
 ·simp [cvT,step,res]
 obtain ⟨hk,hall⟩ := hk
 simp -dsimp only [aqT0,ROp0,aqA,↓seqK,↓blkK,↓loopK,step,stepBin,eqB,Nat.add_assoc nid,↓reduceIte,simprocAttr,LN_succ]
 refine S2.dec (fun h3 => ?_) (fun h3 => ?_) <;> simp -dsimp only [aqT0,ROp0,aqA,↓seqK,↓blkK,↓loopK,step,stepBin,eqB,Nat.add_assoc nid,↓reduceIte,simprocAttr,LN_succ]
 ·have hkl : k < n := by omega
  refine ⟨by omega,CallX.pure (hf _ _) ?_⟩
  simp -dsimp only [aqT0,ROp0,aqA,↓seqK,↓blkK,↓loopK,step,stepBin,eqB,Nat.add_assoc nid,↓reduceIte,simprocAttr,LN_succ]
  refine S2.intro (fun h4 => ?_) (fun h4 => ?_) <;> simp -dsimp only [aqT0,ROp0,aqA,↓seqK,↓blkK,↓loopK,step,stepBin,eqB,Nat.add_assoc nid,↓reduceIte,simprocAttr,LN_succ]
  ·refine EndOK.mk (k : Int) ⟨by omega,⟨fun _ => List.any_eq_true.2 ⟨k,List.mem_range.2 hkl,h4⟩,fun _ => by omega⟩⟩ ?_
   refine RetOK.pure (.inl rfl) rfl ?_
   simp [cvT,step,res]
  ·refine ⟨by unfold inI64; omega,k + 1,⟨⟨by omega,fun j hj => ?_⟩,by omega⟩,Cov.go [] [] ?_⟩
   ·rcases (by omega : j < k ∨ j = k) with hj | hj
    ·exact hall j hj
    ·rw [hj]; exact h4
   ·simp [cvT,step,res]
 ·have hkn : k = n := by omega
  subst hkn
  refine EndOK.mk (-1 : Int) ⟨by omega,⟨fun h => by omega,fun h => ?_⟩⟩ ?_
  ·obtain ⟨i,hi,h⟩ := List.any_eq_true.1 h
   rw [hall i (List.mem_range.1 hi)] at h
   cases h
  ·refine RetOK.pure (.inl rfl) rfl ?_
   simp [cvT,step,res]
theorem containsFB (f : Nat) (F : UInt8 → Bool) (hf : ∀ (b : UInt8) nid,ACall Tryz.prog f [.int .u8 ((b.toNat : Nat))] [] nid (.bool (F b)) []) (nl : Bool) (n : Nat) (g : Nat → UInt8) (nid : Nat) (hn : n ≤ 1000000000) :
  ACall Tryz.prog 50 [.lit nl n [.i .u8 fun i => ((g i).toNat : Nat)],.fn f []] [] nid (.bool ((List.range n).any (fun i => F (g i)))) [] := by
 refine acall_run c50 (by simp [a50]) ?_
 simp -dsimp only [aqA,↓seqK,↓blkK,↓loopK,step,stepBin,eqB,Nat.add_assoc nid,↓reduceIte,simprocAttr,a50]
 refine CallO.onE (Hs := []) (indexFB f F hf nl n g _ hn) (subH_nil _) (fun r hr => ?_)
 simp -dsimp only [aqA,↓seqK,↓blkK,↓loopK,step,stepBin,eqB,Nat.add_assoc nid,↓reduceIte,simprocAttr,LN_succ]
 have e : decide (0 ≤ r) = (List.range n).any (fun i => F (g i)) := by
  rw [Bool.eq_iff_iff,decide_eq_true_eq]; exact hr.2
 rw [e]
 refine RetOK.pure (.inl rfl) rfl ?_
 simp [cvT,step,res]
theorem isDie_c (n : Nat) (hn : n < 256) (nid : Nat) : ACall Tryz.prog 52 [.int .u8 (n : Nat)] [] nid (.bool (placeB (n : Nat))) [] := by
 refine acall_run c52 (by simp [a52]) ?_
 simp -dsimp only [aqA,↓seqK,↓blkK,↓loopK,step,stepBin,eqB,Nat.add_assoc nid,↓reduceIte,simprocAttr,a52]
 refine CallO.pure (indexB_c binsL (n : Nat) _) ?_
 have hb := bins_ok n hn
 rw [Int.toNat_natCast]
 simp -dsimp only [aqA,↓seqK,↓blkK,↓loopK,step,stepBin,eqB,Nat.add_assoc nid,↓reduceIte,simprocAttr,hb]
 unfold placeB
 cases h0 : isBinV (n : Nat) <;> simp -dsimp only [aqA,↓seqK,↓blkK,↓loopK,step,stepBin,eqB,Nat.add_assoc nid,↓reduceIte,simprocAttr]
 ·cases h1 : (((n : Nat) : Int) == 46) <;> simp -dsimp only [aqA,↓seqK,↓blkK,↓loopK,step,stepBin,eqB,Nat.add_assoc nid,↓reduceIte,simprocAttr,h1]
  ·cases h2 : (((n : Nat) : Int) == 63) <;> simp -dsimp only [aqA,↓seqK,↓blkK,↓loopK,step,stepBin,eqB,Nat.add_assoc nid,↓reduceIte,simprocAttr,h2] <;> refine RetOK.pure (.inl rfl) rfl ?_ <;> simp [cvT,step,res,h1,h2]
  ·refine RetOK.pure (.inl rfl) rfl ?_
   simp [cvT,step,res]
 ·refine RetOK.pure (.inl rfl) rfl ?_
  simp [cvT,step,res]
def wafP (nl : Bool) (W : Waf) : PV := .agg [.lit nl W.rows.length [.s fun i => W.rows.getD i []],.str W.pass]
theorem odd_c2 (s : List UInt8) (nid : Nat) (hs : s.length ≤ 1000000000) : ACall Tryz.prog 100 [.str s] [] nid (.bool (oddB s)) [] := by
 refine acall_run c100 (by simp [a100]) ?_
 simp -dsimp only [aqA,↓seqK,↓blkK,↓loopK,step,stepBin,eqB,Nat.add_assoc nid,↓reduceIte,simprocAttr,a100]
 refine CallO.pure (containsFB 154 (fun c => !placeB (byteI c)) (fun c nid => oddF_c _ nid) false s.length (fun i => s.getD i 0) _ hs) ?_
 have e : (List.range s.length).any (fun i => !placeB (byteI (s.getD i 0))) = oddB s := any_range (F := fun c => !placeB (byteI c))
 rw [e]
 simp -dsimp only [aqA,↓seqK,↓blkK,↓loopK,step,stepBin,eqB,Nat.add_assoc nid,↓reduceIte,simprocAttr,LN_succ]
 refine RetOK.pure (.inl rfl) rfl ?_
 simp [cvT,step,res]
structure WafBd (W : Waf) : Prop where
 rows : W.rows.length ≤ 1000000
 row : ∀ r ∈ W.rows,r.length ≤ 1000000
 pass : W.pass.length ≤ 1000000
theorem WafBd.at {W : Waf} (h : WafBd W) (k : Nat) : (W.rows.getD k []).length ≤ 1000000 := by
 rw [List.getD_eq_getElem?_getD]
 cases hg : W.rows[k]? with
 | none => simp
 | some x => exact h.row x (List.mem_of_getElem? hg)
theorem waferV_row {W : Waf} (h0 : W.rows.length ≠ 0) (h1 : W.rows.length ≤ 60) {e : Int} (h : firstBad (rowBad (wideOf W)) W.rows = e) (he : e ≠ 0) : waferV W = e := by
 unfold waferV; rw [if_neg h0,if_neg (by omega),h,if_pos he]
theorem waferV_pass {W : Waf} (h0 : W.rows.length ≠ 0) (h1 : W.rows.length ≤ 60) (h : firstBad (rowBad (wideOf W)) W.rows = 0) : waferV W = passV W.pass := by
 unfold waferV; rw [if_neg h0,if_neg (by omega),h,if_neg (by simp)]
set_option maxHeartbeats 4000000 in
theorem checkWafer_all (nl : Bool) (W : Waf) (nid : Nat) (hW : WafBd W) : ACall Tryz.prog 32 [wafP nl W] [] nid (.int .i64 (waferV W)) [] := by
 have hR := hW.rows
 have hP := hW.pass
 refine acall_run c32 (by simp [a32]) ?_
 unfold wafP
 simp -dsimp only [a32,aqA,↓seqK,↓blkK,↓loopK,step,stepBin,eqB,Nat.add_assoc nid,↓reduceIte,simprocAttr,LN_succ]
 refine S2.intro (fun h0 => ?_) (fun h0 => ?_) <;> simp -dsimp only [aqA,↓seqK,↓blkK,↓loopK,step,stepBin,eqB,Nat.add_assoc nid,↓reduceIte,simprocAttr,LN_succ]
 ·have e : waferV W = 8 := by unfold waferV; rw [if_pos (by simpa using h0)]
  rw [e]
  refine RetOK.pure (.inl rfl) rfl ?_
  simp [cvT,step,res]
 have h0' : W.rows.length ≠ 0 := by simpa using h0
 refine S2.dec (fun h1 => ?_) (fun h1 => ?_) <;> simp -dsimp only [aqA,↓seqK,↓blkK,↓loopK,step,stepBin,eqB,Nat.add_assoc nid,↓reduceIte,simprocAttr,LN_succ]
 ·have e : waferV W = 2 := by unfold waferV; rw [if_neg h0',if_pos (by omega)]
  rw [e]
  refine RetOK.pure (.inl rfl) rfl ?_
  simp [cvT,step,res]
 have h1' : W.rows.length ≤ 60 := by omega
 refine LP.mkP (fun k : Nat => k ≤ W.rows.length ∧ firstBad (rowBad (wideOf W)) (W.rows.take k) = 0) (fun k : Nat => ⟨[(19,.int .i64 k),(18,.int .i64 W.rows.length),(17,.lit nl W.rows.length [.s fun i => W.rows.getD i []]),(1,.ptr nid 0)],[(nid,some (.box 28 [.lit nl W.rows.length [.s fun i => W.rows.getD i []],.str W.pass]))],nid + 100,nid⟩) (fun k => W.rows.length + 1 - k) 0 ⟨by omega,rfl⟩ (Cov.go [] [] ?_) (fun k hk => ?_)
 ·simp [cvT,step,res]
 obtain ⟨hk,hb⟩ := hk
 simp -dsimp only [aqA,↓seqK,↓blkK,↓loopK,step,stepBin,eqB,Nat.add_assoc nid,↓reduceIte,simprocAttr,LN_succ]
 refine S2.dec (fun h2 => ?_) (fun h2 => ?_) <;> simp -dsimp only [aqA,↓seqK,↓blkK,↓loopK,step,stepBin,eqB,Nat.add_assoc nid,↓reduceIte,simprocAttr,LN_succ]
 ·have hkl : k < W.rows.length := by omega
  obtain ⟨bad,good⟩ := rowsFB (d := []) hkl hb
  have hrl := hW.at k
  have hw0 : wideOf W = (W.rows.getD 0 []).length := rfl
  generalize hr : W.rows.getD k [] = r at *
  rw [beq_nil]
  have bad' : ∀ e : Int,rowBad (wideOf W) r = e → e ≠ 0 → waferV W = e := fun e h3 he => waferV_row h0' h1' (by rw [bad (by rw [h3]; exact he),h3]) he
  refine ⟨by omega,S2.dec (fun h3 => ?_) (fun h3 => ?_)⟩ <;> simp -dsimp only [aqA,↓seqK,↓blkK,↓loopK,step,stepBin,eqB,Nat.add_assoc nid,↓reduceIte,simprocAttr,LN_succ]
  ·rw [bad' 8 (by unfold rowBad; rw [if_pos h3]) (by decide)]
   refine RetOK.pure (.inl rfl) rfl ?_
   simp [cvT,step,res]
  refine S2.dec (fun h4 => ?_) (fun h4 => ?_) <;> simp -dsimp only [aqA,↓seqK,↓blkK,↓loopK,step,stepBin,eqB,Nat.add_assoc nid,↓reduceIte,simprocAttr,LN_succ]
  ·rw [bad' 2 (by unfold rowBad; rw [if_neg h3,if_pos (by omega)]) (by decide)]
   refine RetOK.pure (.inl rfl) rfl ?_
   simp [cvT,step,res]
  refine ⟨by omega,S2.intro (fun h5 => ?_) (fun h5 => ?_)⟩ <;> simp -dsimp only [aqA,↓seqK,↓blkK,↓loopK,step,stepBin,eqB,Nat.add_assoc nid,↓reduceIte,simprocAttr,LN_succ]
  ·have h5' : r.length ≠ wideOf W := by rw [hw0]; intro e; rw [e] at h5; simp at h5
   rw [bad' 3 (by unfold rowBad; rw [if_neg h3,if_neg (by omega),if_pos h5']) (by decide)]
   refine RetOK.pure (.inl rfl) rfl ?_
   simp [cvT,step,res]
  have h5' : r.length = wideOf W := by
   have h5a : ((r.length : Nat) : Int) = ((W.rows.getD 0 []).length : Nat) := by simpa only [bne_eq_false_iff_eq] using h5
   rw [hw0]; omega
  refine CallO.pure (odd_c2 r _ (by omega)) ?_
  simp -dsimp only [aqA,↓seqK,↓blkK,↓loopK,step,stepBin,eqB,Nat.add_assoc nid,↓reduceIte,simprocAttr,LN_succ]
  refine S2.intro (fun h6 => ?_) (fun h6 => ?_) <;> simp -dsimp only [aqA,↓seqK,↓blkK,↓loopK,step,stepBin,eqB,Nat.add_assoc nid,↓reduceIte,simprocAttr,LN_succ]
  ·rw [bad' 9 (by unfold rowBad; rw [if_neg h3,if_neg (by omega),if_neg (by omega),if_pos h6]) (by decide)]
   refine RetOK.pure (.inl rfl) rfl ?_
   simp [cvT,step,res]
  ·refine ⟨by unfold inI64; omega,k + 1,⟨⟨by omega,good (by unfold rowBad; rw [if_neg h3,if_neg (by omega),if_neg (by omega),if_neg (by simp [h6])])⟩,by omega⟩,Cov.go [] [] ?_⟩
   simp [cvT,step,res]
 have hkn : k = W.rows.length := by omega
 subst hkn
 rw [List.take_length] at hb
 rw [waferV_pass h0' h1' hb]
 refine LP.mkP (fun k : Nat => k ≤ W.pass.length ∧ firstBad (passBad W.pass) ((List.range W.pass.length).take k) = 0) (fun k : Nat => ⟨[(46,.int .i64 k),(45,.int .i64 W.pass.length),(1,.ptr nid 0)],[(nid,some (.box 28 [.lit nl W.rows.length [.s fun i => W.rows.getD i []],.str W.pass]))],nid + 300,nid⟩) (fun k => W.pass.length + 1 - k) 0 ⟨by omega,rfl⟩ (Cov.go [] [] ?_) (fun k hk => ?_)
 ·simp [cvT,step,res]
 obtain ⟨hk,hb⟩ := hk
 simp -dsimp only [aqA,↓seqK,↓blkK,↓loopK,step,stepBin,eqB,Nat.add_assoc nid,↓reduceIte,simprocAttr,LN_succ]
 refine S2.dec (fun h2 => ?_) (fun h2 => ?_) <;> simp -dsimp only [aqA,↓seqK,↓blkK,↓loopK,step,stepBin,eqB,Nat.add_assoc nid,↓reduceIte,simprocAttr,LN_succ]
 ·have hkl : k < W.pass.length := by omega
  obtain ⟨bad,good⟩ := rangeFB hkl hb
  refine ⟨by omega,CallO.pure (isBin_c _ _) ?_⟩
  simp -dsimp only [aqA,↓seqK,↓blkK,↓loopK,step,stepBin,eqB,Nat.add_assoc nid,↓reduceIte,simprocAttr,LN_succ]
  have hdef : passBad W.pass k = if isBinV (byteI (W.pass.getD k 0)) = false then 9 else if 0 < k ∧ byteI (W.pass.getD k 0) ≤ byteI (W.pass.getD (k - 1) 0) then 7 else 0 := rfl
  unfold byteI at hdef
  cases h3 : isBinV (((W.pass.getD k 0).toNat : Nat) : Int) <;> simp -dsimp only [aqA,↓seqK,↓blkK,↓loopK,step,stepBin,eqB,Nat.add_assoc nid,↓reduceIte,simprocAttr,LN_succ]
  ·rw [h3,if_pos rfl] at hdef
   have : passV W.pass = 9 := by unfold passV; rw [bad (by rw [hdef]; decide),hdef]
   rw [this]
   refine RetOK.pure (.inl rfl) rfl ?_
   simp [cvT,step,res]
  rw [h3,if_neg (by simp)] at hdef
  refine S2.dec (fun h4 => ?_) (fun h4 => ?_) <;> simp -dsimp only [aqA,↓seqK,↓blkK,↓loopK,step,stepBin,eqB,Nat.add_assoc nid,↓reduceIte,simprocAttr,LN_succ]
  ·have hk1 : ((k : Int) - 1).toNat = k - 1 := by omega
   rw [hk1]
   refine ⟨by omega,by unfold inI64; omega,by omega,S2.dec (fun h5 => ?_) (fun h5 => ?_)⟩ <;> simp -dsimp only [aqA,↓seqK,↓blkK,↓loopK,step,stepBin,eqB,Nat.add_assoc nid,↓reduceIte,simprocAttr,LN_succ]
   ·rw [if_pos ⟨by omega,h5⟩] at hdef
    have : passV W.pass = 7 := by unfold passV; rw [bad (by rw [hdef]; decide),hdef]
    rw [this]
    refine RetOK.pure (.inl rfl) rfl ?_
    simp [cvT,step,res]
   ·rw [if_neg (fun h => h5 h.2)] at hdef
    refine ⟨by unfold inI64; omega,k + 1,⟨⟨by omega,good hdef⟩,by omega⟩,Cov.go [] [] ?_⟩
    simp [cvT,step,res]
  ·rw [if_neg (fun h => h4 (by omega))] at hdef
   refine ⟨by unfold inI64; omega,k + 1,⟨⟨by omega,good hdef⟩,by omega⟩,Cov.go [] [] ?_⟩
   simp [cvT,step,res]
 ·have hkn : k = W.pass.length := by omega
  subst hkn
  have : passV W.pass = 0 := by unfold passV; rwa [List.take_of_length_le (by simp)] at hb
  rw [this]
  refine RetOK.pure (.inl rfl) rfl ?_
  simp [cvT,step,res]
theorem dieF_c (b : UInt8) (nid : Nat) : ACall Tryz.prog 51 [.int .u8 ((b.toNat : Nat))] [] nid (.bool (!placeB (byteI b))) [] := by
 refine acall_run c51 (by simp [a51]) ?_
 simp -dsimp only [aqA,↓seqK,↓blkK,↓loopK,step,stepBin,eqB,Nat.add_assoc nid,↓reduceIte,simprocAttr,a51]
 refine CallO.pure (isDie_c b.toNat (UInt8.toNat_lt b) _) ?_
 simp -dsimp only [aqA,↓seqK,↓blkK,↓loopK,step,stepBin,eqB,Nat.add_assoc nid,↓reduceIte,simprocAttr]
 refine RetOK.pure (.inl rfl) rfl ?_
 simp [cvT,step,res,byteI]
theorem bins_byte (b : UInt8) : decide (Lib.indexByte binsL b < 0) = !isBinV (byteI b) := by
 have h := bins_ok b.toNat (UInt8.toNat_lt b)
 have e : b.toNat.toUInt8 = b := by simp
 rw [e] at h
 unfold byteI
 rw [← h]
 by_cases h2 : 0 ≤ Lib.indexByte binsL b
 ·simp [h2]
 ·simp [h2]; omega
theorem passFault_c (P : List UInt8) (nid : Nat) (hP : P.length ≤ 1000000) : ACall Tryz.prog 53 [.str P] [] nid (.int .i64 (passV P)) [] := by
 refine acall_run c53 (by simp [a53]) ?_
 simp -dsimp only [a53,aqA,↓seqK,↓blkK,↓loopK,step,stepBin,eqB,Nat.add_assoc nid,↓reduceIte,simprocAttr,LN_succ]
 refine LP.mkP (fun k : Nat => k ≤ P.length ∧ firstBad (passBad P) ((List.range P.length).take k) = 0) (fun k : Nat => ⟨[(6,.int .i64 k),(5,.int .i64 P.length),(0,.str P)],[],nid + 300,nid⟩) (fun k => P.length + 1 - k) 0 ⟨by omega,rfl⟩ (Cov.go [] [] ?_) (fun k hk => ?_)
 ·simp [cvT,step,res]
 obtain ⟨hk,hb⟩ := hk
 simp -dsimp only [aqA,↓seqK,↓blkK,↓loopK,step,stepBin,eqB,Nat.add_assoc nid,↓reduceIte,simprocAttr,LN_succ]
 refine S2.dec (fun h2 => ?_) (fun h2 => ?_) <;> simp -dsimp only [aqA,↓seqK,↓blkK,↓loopK,step,stepBin,eqB,Nat.add_assoc nid,↓reduceIte,simprocAttr,LN_succ]
 ·have hkl : k < P.length := by omega
  obtain ⟨bad,good⟩ := rangeFB hkl hb
  refine ⟨by omega,CallO.pure (indexB_c binsL _ _) ?_⟩
  have hbb := bins_byte (P.getD k 0)
  have e : ((((P.getD k 0).toNat : Nat) : Int).toNat).toUInt8 = P.getD k 0 := by rw [Int.toNat_natCast]; simp
  rw [e]
  simp -dsimp only [aqA,↓seqK,↓blkK,↓loopK,step,stepBin,eqB,Nat.add_assoc nid,↓reduceIte,simprocAttr,LN_succ,hbb]
  have hdef : passBad P k = if isBinV (byteI (P.getD k 0)) = false then 9 else if 0 < k ∧ byteI (P.getD k 0) ≤ byteI (P.getD (k - 1) 0) then 7 else 0 := rfl
  unfold byteI at hdef ⊢
  cases h3 : isBinV (((P.getD k 0).toNat : Nat) : Int) <;> simp -dsimp only [aqA,↓seqK,↓blkK,↓loopK,step,stepBin,eqB,Nat.add_assoc nid,↓reduceIte,simprocAttr,LN_succ]
  ·rw [h3,if_pos rfl] at hdef
   have : passV P = 9 := by unfold passV; rw [bad (by rw [hdef]; decide),hdef]
   rw [this]
   refine RetOK.pure (.inl rfl) rfl ?_
   simp [cvT,step,res]
  rw [h3,if_neg (by simp)] at hdef
  refine S2.dec (fun h4 => ?_) (fun h4 => ?_) <;> simp -dsimp only [aqA,↓seqK,↓blkK,↓loopK,step,stepBin,eqB,Nat.add_assoc nid,↓reduceIte,simprocAttr,LN_succ]
  ·have hk1 : ((k : Int) - 1).toNat = k - 1 := by omega
   rw [hk1]
   refine ⟨by omega,by unfold inI64; omega,by omega,S2.dec (fun h5 => ?_) (fun h5 => ?_)⟩ <;> simp -dsimp only [aqA,↓seqK,↓blkK,↓loopK,step,stepBin,eqB,Nat.add_assoc nid,↓reduceIte,simprocAttr,LN_succ]
   ·rw [if_pos ⟨by omega,h5⟩] at hdef
    have : passV P = 7 := by unfold passV; rw [bad (by rw [hdef]; decide),hdef]
    rw [this]
    refine RetOK.pure (.inl rfl) rfl ?_
    simp [cvT,step,res]
   ·rw [if_neg (fun h => h5 h.2)] at hdef
    refine ⟨by unfold inI64; omega,k + 1,⟨⟨by omega,good hdef⟩,by omega⟩,Cov.go [] [] ?_⟩
    simp [cvT,step,res]
  ·rw [if_neg (fun h => h4 (by omega))] at hdef
   refine ⟨by unfold inI64; omega,k + 1,⟨⟨by omega,good hdef⟩,by omega⟩,Cov.go [] [] ?_⟩
   simp [cvT,step,res]
 ·have hkn : k = P.length := by omega
  subst hkn
  have : passV P = 0 := by unfold passV; rwa [List.take_of_length_le (by simp)] at hb
  rw [this]
  refine RetOK.pure (.inl rfl) rfl ?_
  simp [cvT,step,res]
set_option maxHeartbeats 4000000 in
theorem waferFault_all (nl : Bool) (W : Waf) (nid : Nat) (hW : WafBd W) : ACall Tryz.prog 14 [wafP nl W] [] nid (.int .i64 (waferV W)) [] := by
 have hR := hW.rows
 have hP := hW.pass
 refine acall_run c14 (by simp [a14]) ?_
 unfold wafP
 simp -dsimp only [a14,aqA,↓seqK,↓blkK,↓loopK,step,stepBin,eqB,Nat.add_assoc nid,↓reduceIte,simprocAttr,LN_succ]
 refine S2.intro (fun h0 => ?_) (fun h0 => ?_) <;> simp -dsimp only [aqA,↓seqK,↓blkK,↓loopK,step,stepBin,eqB,Nat.add_assoc nid,↓reduceIte,simprocAttr,LN_succ]
 ·have e : waferV W = 8 := by unfold waferV; rw [if_pos (by simpa using h0)]
  rw [e]
  refine RetOK.pure (.inl rfl) rfl ?_
  simp [cvT,step,res]
 have h0' : W.rows.length ≠ 0 := by simpa using h0
 refine S2.dec (fun h1 => ?_) (fun h1 => ?_) <;> simp -dsimp only [aqA,↓seqK,↓blkK,↓loopK,step,stepBin,eqB,Nat.add_assoc nid,↓reduceIte,simprocAttr,LN_succ]
 ·have e : waferV W = 2 := by unfold waferV; rw [if_neg h0',if_pos (by omega)]
  rw [e]
  refine RetOK.pure (.inl rfl) rfl ?_
  simp [cvT,step,res]
 have h1' : W.rows.length ≤ 60 := by omega
 refine LP.mkP (fun k : Nat => k ≤ W.rows.length ∧ firstBad (rowBad (wideOf W)) (W.rows.take k) = 0) (fun k : Nat => ⟨[(18,.int .i64 k),(17,.int .i64 W.rows.length),(16,.lit nl W.rows.length [.s fun i => W.rows.getD i []]),(1,.ptr nid 0)],[(nid,some (.box 28 [.lit nl W.rows.length [.s fun i => W.rows.getD i []],.str W.pass]))],nid + 100,nid⟩) (fun k => W.rows.length + 1 - k) 0 ⟨by omega,rfl⟩ (Cov.go [] [] ?_) (fun k hk => ?_)
 ·simp [cvT,step,res]
 obtain ⟨hk,hb⟩ := hk
 simp -dsimp only [aqA,↓seqK,↓blkK,↓loopK,step,stepBin,eqB,Nat.add_assoc nid,↓reduceIte,simprocAttr,LN_succ]
 refine S2.dec (fun h2 => ?_) (fun h2 => ?_) <;> simp -dsimp only [aqA,↓seqK,↓blkK,↓loopK,step,stepBin,eqB,Nat.add_assoc nid,↓reduceIte,simprocAttr,LN_succ]
 ·have hkl : k < W.rows.length := by omega
  obtain ⟨bad,good⟩ := rowsFB (d := []) hkl hb
  have hrl := hW.at k
  have hw0 : wideOf W = (W.rows.getD 0 []).length := rfl
  generalize hr : W.rows.getD k [] = r at *
  rw [beq_nil]
  have bad' : ∀ e : Int,rowBad (wideOf W) r = e → e ≠ 0 → waferV W = e := fun e h3 he => waferV_row h0' h1' (by rw [bad (by rw [h3]; exact he),h3]) he
  refine ⟨by omega,S2.dec (fun h3 => ?_) (fun h3 => ?_)⟩ <;> simp -dsimp only [aqA,↓seqK,↓blkK,↓loopK,step,stepBin,eqB,Nat.add_assoc nid,↓reduceIte,simprocAttr,LN_succ]
  ·rw [bad' 8 (by unfold rowBad; rw [if_pos h3]) (by decide)]
   refine RetOK.pure (.inl rfl) rfl ?_
   simp [cvT,step,res]
  refine S2.dec (fun h4 => ?_) (fun h4 => ?_) <;> simp -dsimp only [aqA,↓seqK,↓blkK,↓loopK,step,stepBin,eqB,Nat.add_assoc nid,↓reduceIte,simprocAttr,LN_succ]
  ·rw [bad' 2 (by unfold rowBad; rw [if_neg h3,if_pos (by omega)]) (by decide)]
   refine RetOK.pure (.inl rfl) rfl ?_
   simp [cvT,step,res]
  refine ⟨by omega,S2.intro (fun h5 => ?_) (fun h5 => ?_)⟩ <;> simp -dsimp only [aqA,↓seqK,↓blkK,↓loopK,step,stepBin,eqB,Nat.add_assoc nid,↓reduceIte,simprocAttr,LN_succ]
  ·have h5' : r.length ≠ wideOf W := by rw [hw0]; intro e; rw [e] at h5; simp at h5
   rw [bad' 3 (by unfold rowBad; rw [if_neg h3,if_neg (by omega),if_pos h5']) (by decide)]
   refine RetOK.pure (.inl rfl) rfl ?_
   simp [cvT,step,res]
  have h5' : r.length = wideOf W := by
   have h5a : ((r.length : Nat) : Int) = ((W.rows.getD 0 []).length : Nat) := by simpa only [bne_eq_false_iff_eq] using h5
   rw [hw0]; omega
  refine CallO.pure (containsFB 51 (fun c => !placeB (byteI c)) dieF_c false r.length (fun i => r.getD i 0) _ (by omega)) ?_
  rw [show (List.range r.length).any (fun i => !placeB (byteI (r.getD i 0))) = oddB r from any_range (F := fun c => !placeB (byteI c))]
  simp -dsimp only [aqA,↓seqK,↓blkK,↓loopK,step,stepBin,eqB,Nat.add_assoc nid,↓reduceIte,simprocAttr,LN_succ]
  refine S2.intro (fun h6 => ?_) (fun h6 => ?_) <;> simp -dsimp only [aqA,↓seqK,↓blkK,↓loopK,step,stepBin,eqB,Nat.add_assoc nid,↓reduceIte,simprocAttr,LN_succ]
  ·rw [bad' 9 (by unfold rowBad; rw [if_neg h3,if_neg (by omega),if_neg (by omega),if_pos h6]) (by decide)]
   refine RetOK.pure (.inl rfl) rfl ?_
   simp [cvT,step,res]
  ·refine ⟨by unfold inI64; omega,k + 1,⟨⟨by omega,good (by unfold rowBad; rw [if_neg h3,if_neg (by omega),if_neg (by omega),if_neg (by simp [h6])])⟩,by omega⟩,Cov.go [] [] ?_⟩
   simp [cvT,step,res]
 have hkn : k = W.rows.length := by omega
 subst hkn
 rw [List.take_length] at hb
 rw [waferV_pass h0' h1' hb]
 refine CallO.pure (passFault_c W.pass _ hP) ?_
 simp -dsimp only [aqA,↓seqK,↓blkK,↓loopK,step,stepBin,eqB,Nat.add_assoc nid,↓reduceIte,simprocAttr,LN_succ]
 refine RetOK.pure (.inl rfl) rfl ?_
 simp [cvT,step,res]
end Go.Proofs.YtmgfcjblclanmaaGreatDoor
