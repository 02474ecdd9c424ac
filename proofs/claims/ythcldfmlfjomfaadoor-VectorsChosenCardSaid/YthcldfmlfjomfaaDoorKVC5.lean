/-
  DERIVED: THE SHELF's CONTRACTS AT THIS DUMP, IN PLAIN WORDS (tools/lay-plain.mjs out of 'ZzShelf.lean', which tools/lay-shelf.mjs wrote): THE SAME DECLARATIONS UNDER THE SAME NAMES: 'import', 'namespace', 'open', 'def', 'theorem' AND NOTHING ELSE: no command of the shelf's: FOR A HAND-IN. Each laying: the table of numbers ('.._ren') and one theorem, a field a fact of the dump's own or the kernel's comparison; each contract: ONE APPLICATION.
-/
import Derived.Test.YthcldfmlfjomfaaDoorKVC4
import Derived.Test.YthcldfmlfjomfaaDoorProg
import Derived.Ground.NamesProg
import Derived.Shelf.Strings.SlTrimAscii
import Derived.Shelf.Strings.Repeat
import Derived.Shelf.Strings.Split
import Derived.Shelf.Strings.Cut
import Derived.Shelf.Strings.Search3
import Derived.Shelf.Sort.Plain
import Derived.Test.YthcldfmlfjomfaaDoorKVC3
import Derived.WalkKit
import Derived.Lib.Agree
import Derived.Test.YthcldfmlfjomfaaDoorKVC1
import Derived.Lib.IndexLaws
set_option linter.unusedVariables false
set_option linter.unusedSimpArgs false
set_option maxRecDepth 100000
namespace Go.Proofs
open Go.Shelf
def Tryd.lays160_ren : Go.Shelf.Ren := ⟨fun | 160 => 138 | 232 => 177 | 231 => 176 | 227 => 178 | 234 => 180 | 233 => 179 | 236 => 182 | 235 => 181 | 228 => 217 | 271 => 219 | 151 => 218 | 197 => 195 | 120 => 241 | 152 => 240 | 260 => 231 | 137 => 216 | 119 => 254 | 224 => 245 | 225 => 244 | 217 => 239 | 266 => 253 | n => n, fun | 9 => 9 | 4 => 4 | 3 => 3 | 5 => 5 | 117 => 189 | 116 => 188 | 0 => 0 | 124 => 192 | 21 => 21 | 105 => 200 | 46 => 95 | 119 => 239 | 139 => 242 | 138 => 241 | n => n, fun | 3 => 2 | 4 => 3 | n => n⟩
theorem Tryd.lays160 : Go.Proofs.Lays.n160 Tryd.prog Tryd.lays160_ren := {
  mixed := by kernel_rfl
  f119 := Tryd.func254.trans (congrArg some (by kernel_rfl))
  f120 := Tryd.func241.trans (congrArg some (by kernel_rfl))
  f137 := Tryd.func216.trans (congrArg some (by kernel_rfl))
  f151 := Tryd.func218.trans (congrArg some (by kernel_rfl))
  f152 := Tryd.func240.trans (congrArg some (by kernel_rfl))
  f160 := Tryd.func138.trans (congrArg some (by kernel_rfl))
  f197 := Tryd.func195.trans (congrArg some (by kernel_rfl))
  f217 := Tryd.func239.trans (congrArg some (by kernel_rfl))
  f224 := Tryd.func245.trans (congrArg some (by kernel_rfl))
  f225 := Tryd.func244.trans (congrArg some (by kernel_rfl))
  f227 := Tryd.func178.trans (congrArg some (by kernel_rfl))
  f228 := Tryd.func217.trans (congrArg some (by kernel_rfl))
  f231 := Tryd.func176.trans (congrArg some (by kernel_rfl))
  f232 := Tryd.func177.trans (congrArg some (by kernel_rfl))
  f233 := Tryd.func179.trans (congrArg some (by kernel_rfl))
  f234 := Tryd.func180.trans (congrArg some (by kernel_rfl))
  f235 := Tryd.func181.trans (congrArg some (by kernel_rfl))
  f236 := Tryd.func182.trans (congrArg some (by kernel_rfl))
  f260 := Tryd.func231.trans (congrArg some (by kernel_rfl))
  f266 := Tryd.func253.trans (congrArg some (by kernel_rfl))
  f271 := Tryd.func219.trans (congrArg some (by kernel_rfl))
  t0 := Tryd.underlying0
  a0 := Tryd.isAgg0
  z0 := Tryd.sizeOf0
  v0 := Tryd.zeroValue0
  t3 := Tryd.underlying3
  a3 := Tryd.isAgg3
  z3 := Tryd.sizeOf3
  v3 := Tryd.zeroValue3
  t4 := Tryd.underlying4
  a4 := Tryd.isAgg4
  z4 := Tryd.sizeOf4
  v4 := Tryd.zeroValue4
  t5 := Tryd.underlying5
  a5 := Tryd.isAgg5
  z5 := Tryd.sizeOf5
  v5 := Tryd.zeroValue5
  t9 := Tryd.underlying9
  a9 := Tryd.isAgg9
  z9 := Tryd.sizeOf9
  v9 := Tryd.zeroValue9
  t21 := Tryd.underlying21
  a21 := Tryd.isAgg21
  z21 := Tryd.sizeOf21
  v21 := Tryd.zeroValue21
  t46 := Tryd.underlying95
  a46 := Tryd.isAgg95
  z46 := Tryd.sizeOf95
  v46 := Tryd.zeroValue95
  t105 := Tryd.underlying200
  a105 := Tryd.isAgg200
  z105 := Tryd.sizeOf200
  v105 := Tryd.zeroValue200
  t116 := Tryd.underlying188
  a116 := Tryd.isAgg188
  z116 := Tryd.sizeOf188
  t117 := Tryd.underlying189
  a117 := Tryd.isAgg189
  z117 := Tryd.sizeOf189
  v117 := Tryd.zeroValue189
  t119 := Tryd.underlying239
  a119 := Tryd.isAgg239
  z119 := Tryd.sizeOf239
  t124 := Tryd.underlying192
  a124 := Tryd.isAgg192
  z124 := Tryd.sizeOf192
  v124 := Tryd.zeroValue192
  t138 := Tryd.underlying241
  a138 := Tryd.isAgg241
  z138 := Tryd.sizeOf241
  v138 := Tryd.zeroValue241
  t139 := Tryd.underlying242
  a139 := Tryd.isAgg242
  z139 := Tryd.sizeOf242
  v139 := Tryd.zeroValue242
  g3 := by kernel_rfl
  g4 := by kernel_rfl }
def Tryd.lays144_ren : Go.Shelf.Ren := ⟨fun | 144 => 154 | 143 => 191 | 219 => 222 | 217 => 239 | 225 => 244 | 224 => 245 | 267 => 246 | 266 => 253 | 314 => 255 | n => n, fun | 9 => 9 | 4 => 4 | 3 => 3 | 5 => 5 | 46 => 95 | 146 => 162 | 51 => 149 | n => n, fun | 1 => 0 | n => n⟩
theorem Tryd.lays144 : Go.Proofs.Lays.n144 Tryd.prog Tryd.lays144_ren := {
  mixed := by kernel_rfl
  f143 := Tryd.func191.trans (congrArg some (by kernel_rfl))
  f144 := Tryd.func154.trans (congrArg some (by kernel_rfl))
  f217 := Tryd.func239.trans (congrArg some (by kernel_rfl))
  f219 := Tryd.func222.trans (congrArg some (by kernel_rfl))
  f224 := Tryd.func245.trans (congrArg some (by kernel_rfl))
  f225 := Tryd.func244.trans (congrArg some (by kernel_rfl))
  f266 := Tryd.func253.trans (congrArg some (by kernel_rfl))
  f267 := Tryd.func246.trans (congrArg some (by kernel_rfl))
  f314 := Tryd.func255.trans (congrArg some (by kernel_rfl))
  t3 := Tryd.underlying3
  a3 := Tryd.isAgg3
  z3 := Tryd.sizeOf3
  v3 := Tryd.zeroValue3
  t4 := Tryd.underlying4
  a4 := Tryd.isAgg4
  z4 := Tryd.sizeOf4
  v4 := Tryd.zeroValue4
  t5 := Tryd.underlying5
  a5 := Tryd.isAgg5
  z5 := Tryd.sizeOf5
  v5 := Tryd.zeroValue5
  t9 := Tryd.underlying9
  a9 := Tryd.isAgg9
  z9 := Tryd.sizeOf9
  v9 := Tryd.zeroValue9
  t46 := Tryd.underlying95
  a46 := Tryd.isAgg95
  z46 := Tryd.sizeOf95
  v46 := Tryd.zeroValue95
  t51 := Tryd.underlying149
  a51 := Tryd.isAgg149
  z51 := Tryd.sizeOf149
  v51 := Tryd.zeroValue149
  t146 := Tryd.underlying162
  a146 := Tryd.isAgg162
  z146 := Tryd.sizeOf162
  v146 := Tryd.zeroValue162
  g1 := by kernel_rfl }
end Go.Proofs
namespace Go.Proofs.YthcldfmlfjomfaaDoor
open Go.RowKit Go.Shelf Go.Lib
theorem trim_cc (s cs : List UInt8) (nid : Nat) (hs : s.length ≤ 9223372036854775807) (hcs : cs.length < 4294967281) (ha : cs.all (fun b => decide (b.toNat < 128)) = true) : ACall Tryd.prog 138 [.str s, .str cs] [] nid (.str (Lib.trimS s cs)) [] :=
  acall_below (us := [.string ⟨s.toArray⟩, .string ⟨cs.toArray⟩]) nid Tryd.func138 (by kernel_rfl) (by kernel_rfl) rfl rfl (fun w => by
    have h := Any.strings_Trim_laid Tryd.lays160 (by kernel_rfl) ⟨s.toArray⟩ ⟨cs.toArray⟩ w (by simpa [ByteArray.size] using hs) (by simpa [ByteArray.size] using hcs) (ascii_of_all (by simpa using ha))
    have hf : Tryd.lays160_ren.f 160 = 138 := by kernel_rfl
    rw [hf] at h
    simpa using h)
end Go.Proofs.YthcldfmlfjomfaaDoor
namespace Go.Proofs.YthcldfmlfjomfaaDoor
def a6 : AFn := ⟨129, [.t 2], .seq (.ops [⟨(some 2), none, .mv (.c (.bool false))⟩])
 (.seq (.ops [⟨(some 16), none, .mv (.t 0)⟩, ⟨(some 17), none, .build [(.lit true 0 []), (.int .i64 0)] [(0, 1, (.t 16))]⟩, ⟨(some 18), none, .box 25 (.t 17)⟩, ⟨(some 3), none, .mv (.t 18)⟩])
 (.seq (.ops [⟨(some 20), none, .mv (.t 3)⟩, ⟨(some 21), none, .call 22 [(.t 20), (.c (.int .i64 5))]⟩, ⟨(some 19), none, .mv (.t 21)⟩, ⟨(some 22), none, .ext (.t 19) 0⟩, ⟨(some 23), none, .ext (.t 19) 1⟩, ⟨(some 4), none, .mv (.t 22)⟩, ⟨(some 5), none, .mv (.t 23)⟩])
 (.seq (.seq (.ops [⟨(some 24), none, .mv (.t 3)⟩, ⟨(some 25), none, .call 43 [(.t 24), (.c (.int .i64 10))]⟩])
 (.cond (.t 25) (.ops [⟨(some 26), none, .bslice 9 1 2 [(.str [])] [(0, 1, (.c (.str [48]))), (1, 1, (.c (.str [49])))]⟩, ⟨(some 27), none, .mv (.t 3)⟩, ⟨(some 28), none, .call 37 [(.t 27), (.c (.int .i64 5)), (.c (.int .i64 8))]⟩, ⟨(some 29), none, .call 44 [(.t 26), (.t 28)]⟩, ⟨(some 4), none, .mv (.c (.int .i64 1))⟩, ⟨(some 5), none, .mv (.t 29)⟩]) (.skip)))
 (.seq (.ops [⟨(some 30), none, .mv (.t 4)⟩, ⟨(some 31), none, .mv (.t 5)⟩, ⟨(some 32), none, .call 24 [(.t 30), (.t 31)]⟩, ⟨(some 6), none, .mv (.t 32)⟩])
 (.seq (.ops [⟨(some 34), none, .mv (.t 4)⟩, ⟨(some 35), none, .mv (.t 5)⟩, ⟨(some 36), none, .call 15 [(.t 34), (.t 35)]⟩, ⟨(some 33), none, .mv (.t 36)⟩, ⟨(some 37), none, .ext (.t 33) 0⟩, ⟨(some 38), none, .ext (.t 33) 1⟩, ⟨(some 7), none, .mv (.t 37)⟩, ⟨(some 8), none, .mv (.t 38)⟩])
 (.seq (.ops [⟨(some 39), none, .mv (.t 6)⟩, ⟨(some 40), none, .mv (.t 5)⟩, ⟨(some 41), none, .len false (.t 40)⟩, ⟨(some 42), none, .bin 0 .gtr (.t 41) (.c (.int .i64 14))⟩, ⟨(some 43), none, .call 46 [(.t 42), (.c (.int .i64 2))]⟩, ⟨(some 44), none, .bslice 29 1 2 [(.int .i64 0)] [(0, 1, (.t 39)), (1, 1, (.t 43))]⟩, ⟨(some 45), none, .call 45 [(.t 44)]⟩, ⟨(some 46), none, .mv (.t 6)⟩, ⟨(some 47), none, .mv (.t 5)⟩, ⟨(some 48), none, .len false (.t 47)⟩, ⟨(some 49), none, .bin 0 .gtr (.t 48) (.c (.int .i64 10))⟩, ⟨(some 50), none, .call 46 [(.t 49), (.c (.int .i64 2))]⟩, ⟨(some 51), none, .bslice 29 1 2 [(.int .i64 0)] [(0, 1, (.t 46)), (1, 1, (.t 50))]⟩, ⟨(some 52), none, .call 45 [(.t 51)]⟩, ⟨(some 9), none, .mv (.t 45)⟩, ⟨(some 10), none, .mv (.t 52)⟩])
 (.seq (.seq (.ops [⟨(some 53), none, .mv (.t 8)⟩, ⟨(some 54), none, .mv (.t 9)⟩, ⟨(some 55), none, .bin 0 .neq (.t 53) (.t 54)⟩, ⟨(some 56), none, .mv (.t 55)⟩, ⟨(some 57), (some (56, false)), .mv (.t 9)⟩, ⟨(some 58), (some (56, false)), .bin 0 .eql (.t 57) (.c (.int .i64 0))⟩, ⟨(some 59), (some (56, false)), .mv (.t 58)⟩, ⟨(some 60), (some (59, true)), .mv (.t 7)⟩, ⟨(some 61), (some (59, true)), .mv (.t 4)⟩, ⟨(some 62), (some (59, true)), .mv (.t 5)⟩, ⟨(some 63), (some (59, true)), .call 48 [(.t 61), (.t 62)]⟩, ⟨(some 64), (some (59, true)), .call 47 [(.t 60), (.t 63)]⟩, ⟨(some 65), (some (59, true)), .un .not (.t 64)⟩, ⟨(some 66), (some (56, false)), .pick (.t 59) (.t 65) (.c (.bool false))⟩, ⟨(some 67), none, .pick (.t 56) (.c (.bool true)) (.t 66)⟩, ⟨(some 68), none, .mv (.t 67)⟩, ⟨(some 69), (some (68, false)), .mv (.t 9)⟩, ⟨(some 70), (some (68, false)), .bin 0 .neq (.t 69) (.c (.int .i64 0))⟩, ⟨(some 71), (some (68, false)), .mv (.t 70)⟩, ⟨(some 72), (some (71, true)), .mv (.t 7)⟩, ⟨(some 73), (some (71, true)), .len false (.t 72)⟩, ⟨(some 74), (some (71, true)), .bin 0 .gtr (.t 73) (.c (.int .i64 0))⟩, ⟨(some 75), (some (68, false)), .pick (.t 71) (.t 74) (.c (.bool false))⟩, ⟨(some 76), none, .pick (.t 68) (.c (.bool true)) (.t 75)⟩])
 (.cond (.t 76) (.seq (.ops [⟨(some 2), none, .mv (.c (.bool false))⟩])
 (.ret)) (.skip)))
 (.seq (.seq (.ops [⟨(some 77), none, .mv (.t 10)⟩, ⟨(some 78), none, .bin 0 .eql (.t 77) (.c (.int .i64 0))⟩, ⟨(some 79), none, .mv (.t 78)⟩, ⟨(some 80), (some (79, true)), .mv (.t 5)⟩, ⟨(some 81), (some (79, true)), .len false (.t 80)⟩, ⟨(some 82), (some (79, true)), .bin 0 .gtr (.t 81) (.c (.int .i64 6))⟩, ⟨(some 83), none, .pick (.t 79) (.t 82) (.c (.bool false))⟩])
 (.cond (.t 83) (.seq (.ops [⟨(some 84), none, .call 36 []⟩, ⟨(some 2), none, .mv (.t 84)⟩])
 (.ret)) (.skip)))
 (.seq (.ops [⟨(some 86), none, .mv (.t 4)⟩, ⟨(some 87), none, .mv (.t 5)⟩, ⟨(some 88), none, .call 49 [(.t 86), (.t 87)]⟩, ⟨(some 85), none, .mv (.t 88)⟩, ⟨(some 89), none, .ext (.t 85) 0⟩, ⟨(some 90), none, .ext (.t 85) 1⟩, ⟨(some 91), none, .ext (.t 85) 2⟩, ⟨(some 11), none, .mv (.t 89)⟩, ⟨(some 12), none, .mv (.t 90)⟩, ⟨(some 13), none, .mv (.t 91)⟩])
 (.seq (.seq (.ops [⟨(some 92), none, .mv (.t 10)⟩, ⟨(some 93), none, .bin 0 .neq (.t 92) (.c (.int .i64 0))⟩])
 (.cond (.t 93) (.seq (.ops [⟨(some 94), none, .mv (.t 13)⟩, ⟨(some 95), none, .mv (.t 10)⟩, ⟨(some 96), none, .bin 0 .eql (.t 94) (.t 95)⟩, ⟨(some 97), none, .mv (.t 96)⟩, ⟨(some 98), (some (97, true)), .mv (.t 11)⟩, ⟨(some 99), (some (97, true)), .len false (.t 98)⟩, ⟨(some 100), (some (97, true)), .bin 0 .eql (.t 99) (.c (.int .i64 0))⟩, ⟨(some 101), none, .pick (.t 97) (.t 100) (.c (.bool false))⟩, ⟨(some 102), none, .mv (.t 101)⟩, ⟨(some 103), (some (102, true)), .mv (.t 12)⟩, ⟨(some 104), (some (102, true)), .bin 0 .eql (.t 103) (.c (.int .i64 0))⟩, ⟨(some 105), none, .pick (.t 102) (.t 104) (.c (.bool false))⟩, ⟨(some 106), none, .mv (.t 105)⟩, ⟨(some 107), (some (106, true)), .call 36 []⟩, ⟨(some 108), none, .pick (.t 106) (.t 107) (.c (.bool false))⟩, ⟨(some 2), none, .mv (.t 108)⟩])
 (.ret)) (.skip)))
 (.seq (.ops [⟨(some 110), none, .mv (.t 5)⟩, ⟨(some 111), none, .call 50 [(.t 110)]⟩, ⟨(some 109), none, .mv (.t 111)⟩, ⟨(some 112), none, .ext (.t 109) 0⟩, ⟨(some 113), none, .ext (.t 109) 1⟩, ⟨(some 14), none, .mv (.t 112)⟩, ⟨(some 15), none, .mv (.t 113)⟩])
 (.seq (.ops [⟨(some 114), none, .mv (.t 13)⟩, ⟨(some 115), none, .bin 0 .eql (.t 114) (.c (.int .i64 0))⟩, ⟨(some 116), none, .mv (.t 115)⟩, ⟨(some 117), (some (116, true)), .mv (.t 11)⟩, ⟨(some 118), (some (116, true)), .mv (.t 14)⟩, ⟨(some 119), (some (116, true)), .call 47 [(.t 117), (.t 118)]⟩, ⟨(some 120), none, .pick (.t 116) (.t 119) (.c (.bool false))⟩, ⟨(some 121), none, .mv (.t 120)⟩, ⟨(some 122), (some (121, true)), .mv (.t 12)⟩, ⟨(some 123), (some (121, true)), .mv (.t 15)⟩, ⟨(some 124), (some (121, true)), .bin 0 .eql (.t 122) (.t 123)⟩, ⟨(some 125), none, .pick (.t 121) (.t 124) (.c (.bool false))⟩, ⟨(some 126), none, .mv (.t 125)⟩, ⟨(some 127), (some (126, true)), .call 36 []⟩, ⟨(some 128), none, .pick (.t 126) (.t 127) (.c (.bool false))⟩, ⟨(some 2), none, .mv (.t 128)⟩])
 (.ret)))))))))))))⟩
theorem c6 : compF Go.Proofs.Tryd.prog 6 = some a6 := by kernel_rfl
def a15 : AFn := ⟨129, [.t 4, .t 5], .seq (.ops [⟨(some 4), none, .mv (.c (.lit true 0 []))⟩, ⟨(some 5), none, .mv (.c (.int .i64 0))⟩])
 (.seq (.seq (.ops [⟨(some 21), none, .mv (.t 0)⟩, ⟨(some 22), none, .mv (.t 1)⟩, ⟨(some 23), none, .call 26 [(.t 21), (.t 22)]⟩, ⟨(some 6), none, .mv (.t 23)⟩])
 (.seq (.ops [⟨(some 24), none, .mv (.t 6)⟩, ⟨(some 25), none, .bin 0 .neq (.t 24) (.c (.int .i64 0))⟩])
 (.cond (.t 25) (.seq (.ops [⟨(some 26), none, .mv (.t 6)⟩, ⟨(some 4), none, .mv (.c (.lit true 0 []))⟩, ⟨(some 5), none, .mv (.t 26)⟩])
 (.ret)) (.skip))))
 (.seq (.seq (.ops [⟨(some 27), none, .mv (.t 1)⟩, ⟨(some 28), none, .len false (.t 27)⟩, ⟨(some 29), none, .bin 0 .gtr (.t 28) (.c (.int .i64 14))⟩])
 (.cond (.t 29) (.seq (.ops [⟨(some 4), none, .mv (.c (.lit true 0 []))⟩, ⟨(some 5), none, .mv (.c (.int .i64 2))⟩])
 (.ret)) (.skip)))
 (.seq (.ops [⟨(some 30), none, .mv (.t 0)⟩, ⟨(some 31), none, .mks 95 1 8 [(.int .u64 0)] (.t 30)⟩, ⟨(some 7), none, .mv (.t 31)⟩])
 (.seq (.seq (.ops [⟨(some 32), none, .mv (.t 1)⟩, ⟨(some 33), none, .len false (.t 32)⟩, ⟨(some 34), none, .mv (.c (.int .i64 0))⟩])
 (.block 0 (.loop (.seq (.ops [⟨(some 35), none, .bin 0 .lss (.t 34) (.t 33)⟩])
 (.seq (.cond (.t 35) (.skip) (.exit 0))
 (.seq (.block 1 (.seq (.ops [⟨(some 36), none, .mv (.t 34)⟩, ⟨(some 37), none, .iadr 1 (.t 32) (.t 34)⟩, ⟨(some 38), none, .load none (.t 37)⟩, ⟨(some 8), none, .mv (.t 36)⟩, ⟨(some 9), none, .mv (.t 38)⟩])
 (.seq (.ops [⟨(some 39), none, .mv (.t 0)⟩, ⟨(some 40), none, .mv (.c (.int .i64 0))⟩])
 (.block 2 (.loop (.seq (.ops [⟨(some 41), none, .bin 0 .lss (.t 40) (.t 39)⟩])
 (.seq (.cond (.t 41) (.skip) (.exit 2))
 (.seq (.block 3 (.seq (.ops [⟨(some 42), none, .mv (.t 40)⟩, ⟨(some 10), none, .mv (.t 42)⟩])
 (.any [(⟨(some 43), none, .mv (.t 7)⟩, []), (⟨(some 44), none, .mv (.t 10)⟩, [0]), (⟨(some 45), none, .iadr 1 (.t 43) (.t 44)⟩, []), (⟨(some 46), none, .load none (.t 45)⟩, []), (⟨(some 47), none, .mv (.t 9)⟩, [0, 1, 2, 3]), (⟨(some 48), none, .mv (.t 10)⟩, [0, 1, 2, 3, 4]), (⟨(some 49), none, .idxs (.t 47) (.t 48)⟩, [0, 1, 2, 3]), (⟨(some 50), none, .bin 0 .sub (.t 49) (.c (.int .u8 48))⟩, [0, 1, 2, 3]), (⟨(some 51), none, .conv .u64 (.t 50)⟩, [0, 1, 2, 3]), (⟨(some 52), none, .mv (.t 8)⟩, [0, 1, 2, 3, 4, 5, 6, 7, 8]), (⟨(some 53), none, .bin 0 .shl (.t 51) (.t 52)⟩, [0, 1, 2, 3]), (⟨(some 54), none, .bin 0 .or (.t 46) (.t 53)⟩, []), (⟨(some 55), none, .iadr 1 (.t 43) (.t 44)⟩, []), (⟨none, none, .store 1 (.t 55) (.t 54)⟩, [])])))
 (.ops [⟨(some 56), none, .bin 0 .add (.t 40) (.c (.int .i64 1))⟩, ⟨(some 40), none, .mv (.t 56)⟩])))))))))
 (.ops [⟨(some 57), none, .bin 0 .add (.t 34) (.c (.int .i64 1))⟩, ⟨(some 34), none, .mv (.t 57)⟩])))))))
 (.seq (.ops [⟨(some 58), none, .mv (.t 1)⟩, ⟨(some 59), none, .len false (.t 58)⟩, ⟨(some 60), none, .bin 0 .shl (.c (.int .u64 1)) (.t 59)⟩, ⟨(some 61), none, .bin 0 .sub (.t 60) (.c (.int .u64 1))⟩, ⟨(some 11), none, .mv (.t 61)⟩])
 (.seq (.ops [⟨(some 63), none, .mv (.t 7)⟩, ⟨(some 64), none, .mv (.t 11)⟩, ⟨(some 65), none, .call 75 [(.t 63), (.t 64)]⟩, ⟨(some 62), none, .mv (.t 65)⟩, ⟨(some 66), none, .ext (.t 62) 0⟩, ⟨(some 67), none, .ext (.t 62) 1⟩, ⟨(some 12), none, .mv (.t 66)⟩, ⟨(some 13), none, .mv (.t 67)⟩])
 (.seq (.seq (.ops [⟨(some 68), none, .mv (.t 1)⟩, ⟨(some 69), none, .len false (.t 68)⟩, ⟨(some 70), none, .bin 0 .shl (.c (.int .u64 1)) (.t 69)⟩, ⟨(some 71), none, .mv (.c (.int .u64 0))⟩])
 (.block 4 (.loop (.seq (.ops [⟨(some 72), none, .bin 0 .lss (.t 71) (.t 70)⟩])
 (.seq (.cond (.t 72) (.skip) (.exit 4))
 (.seq (.block 5 (.seq (.ops [⟨(some 73), none, .mv (.t 71)⟩, ⟨(some 14), none, .mv (.t 73)⟩])
 (.seq (.ops [⟨(some 74), none, .mv (.t 14)⟩, ⟨(some 75), none, .call 76 [(.t 74)]⟩, ⟨(some 76), none, .mv (.t 11)⟩, ⟨(some 77), none, .call 76 [(.t 76)]⟩, ⟨(some 78), none, .bin 0 .sub (.t 75) (.t 77)⟩, ⟨(some 15), none, .mv (.t 78)⟩])
 (.seq (.seq (.ops [⟨(some 79), none, .mv (.t 14)⟩, ⟨(some 80), none, .mv (.t 11)⟩, ⟨(some 81), none, .bin 0 .xor (.t 79) (.t 80)⟩, ⟨(some 16), none, .mv (.t 81)⟩])
 (.seq (.ops [⟨(some 82), none, .mv (.t 15)⟩, ⟨(some 83), none, .bin 0 .gtr (.t 82) (.c (.int .i64 0))⟩, ⟨(some 84), none, .mv (.t 83)⟩, ⟨(some 85), (some (84, false)), .mv (.t 15)⟩, ⟨(some 86), (some (84, false)), .bin 0 .eql (.t 85) (.c (.int .i64 0))⟩, ⟨(some 87), (some (84, false)), .mv (.t 86)⟩, ⟨(some 88), (some (87, true)), .mv (.t 14)⟩, ⟨(some 89), (some (87, true)), .mv (.t 16)⟩, ⟨(some 90), (some (87, true)), .mv (.t 16)⟩, ⟨(some 91), (some (87, true)), .un .neg (.t 90)⟩, ⟨(some 92), (some (87, true)), .bin 0 .and (.t 89) (.t 91)⟩, ⟨(some 93), (some (87, true)), .bin 0 .and (.t 88) (.t 92)⟩, ⟨(some 94), (some (87, true)), .bin 0 .eql (.t 93) (.c (.int .u64 0))⟩, ⟨(some 95), (some (84, false)), .pick (.t 87) (.t 94) (.c (.bool false))⟩, ⟨(some 96), none, .pick (.t 84) (.c (.bool true)) (.t 95)⟩])
 (.cond (.t 96) (.exit 5) (.skip))))
 (.seq (.ops [⟨(some 98), none, .mv (.t 7)⟩, ⟨(some 99), none, .mv (.t 14)⟩, ⟨(some 100), none, .call 75 [(.t 98), (.t 99)]⟩, ⟨(some 97), none, .mv (.t 100)⟩, ⟨(some 101), none, .ext (.t 97) 0⟩, ⟨(some 102), none, .ext (.t 97) 1⟩, ⟨(some 17), none, .mv (.t 101)⟩, ⟨(some 18), none, .mv (.t 102)⟩])
 (.seq (.ops [⟨(some 103), none, .mv (.t 17)⟩, ⟨(some 104), none, .mv (.t 12)⟩, ⟨(some 105), none, .bin 0 .eql (.t 103) (.t 104)⟩, ⟨(some 106), none, .mv (.t 105)⟩, ⟨(some 107), (some (106, true)), .mv (.t 18)⟩, ⟨(some 108), (some (106, true)), .mv (.t 13)⟩, ⟨(some 109), (some (106, true)), .call 77 [(.t 107), (.t 108)]⟩, ⟨(some 110), none, .pick (.t 106) (.t 109) (.c (.bool false))⟩])
 (.cond (.t 110) (.ops [⟨(some 111), none, .mv (.t 14)⟩, ⟨(some 11), none, .mv (.t 111)⟩]) (.skip))))))))
 (.ops [⟨(some 112), none, .bin 0 .add (.t 71) (.c (.int .u64 1))⟩, ⟨(some 71), none, .mv (.t 112)⟩])))))))
 (.seq (.ops [⟨(some 19), none, .mv (.c (.lit true 0 []))⟩])
 (.seq (.seq (.ops [⟨(some 113), none, .mv (.t 1)⟩, ⟨(some 114), none, .len false (.t 113)⟩, ⟨(some 115), none, .mv (.c (.int .i64 0))⟩])
 (.block 6 (.loop (.seq (.ops [⟨(some 116), none, .bin 0 .lss (.t 115) (.t 114)⟩])
 (.seq (.cond (.t 116) (.skip) (.exit 6))
 (.seq (.block 7 (.seq (.ops [⟨(some 117), none, .mv (.t 115)⟩, ⟨(some 20), none, .mv (.t 117)⟩])
 (.seq (.ops [⟨(some 118), none, .mv (.t 11)⟩, ⟨(some 119), none, .mv (.t 20)⟩, ⟨(some 120), none, .bin 0 .shr (.t 118) (.t 119)⟩, ⟨(some 121), none, .bin 0 .and (.t 120) (.c (.int .u64 1))⟩, ⟨(some 122), none, .bin 0 .eql (.t 121) (.c (.int .u64 1))⟩])
 (.cond (.t 122) (.ops [⟨(some 123), none, .mv (.t 19)⟩, ⟨(some 124), none, .mv (.t 20)⟩, ⟨(some 125), none, .bslice 3 1 1 [(.int .i64 0)] [(0, 1, (.t 124))]⟩, ⟨(some 126), none, .app 3 1 8 (.t 123) (.t 125)⟩, ⟨(some 19), none, .mv (.t 126)⟩]) (.skip)))))
 (.ops [⟨(some 127), none, .bin 0 .add (.t 115) (.c (.int .i64 1))⟩, ⟨(some 115), none, .mv (.t 127)⟩])))))))
 (.seq (.ops [⟨(some 128), none, .mv (.t 19)⟩, ⟨(some 4), none, .mv (.t 128)⟩, ⟨(some 5), none, .mv (.c (.int .i64 0))⟩])
 (.ret)))))))))))⟩
theorem c15 : compF Go.Proofs.Tryd.prog 15 = some a15 := by kernel_rfl
def a16 : AFn := ⟨30, [.t 2, .t 3], .seq (.ops [⟨(some 1), none, .box 3 (.t 0)⟩, ⟨(some 2), none, .mv (.c (.lit true 0 []))⟩, ⟨(some 3), none, .mv (.c (.int .i64 0))⟩])
 (.seq (.seq (.ops [⟨(some 8), none, .load none (.t 1)⟩, ⟨(some 9), none, .call 78 [(.t 8)]⟩, ⟨(some 4), none, .mv (.t 9)⟩])
 (.seq (.ops [⟨(some 10), none, .mv (.t 4)⟩, ⟨(some 11), none, .bin 0 .neq (.t 10) (.c (.int .i64 0))⟩])
 (.cond (.t 11) (.seq (.ops [⟨(some 12), none, .mv (.t 4)⟩, ⟨(some 2), none, .mv (.c (.lit true 0 []))⟩, ⟨(some 3), none, .mv (.t 12)⟩])
 (.ret)) (.skip))))
 (.seq (.ops [⟨(some 13), none, .mkfn 80 [(.t 1)]⟩, ⟨(some 14), none, .call 79 [(.c (.int .i64 0)), (.t 13)]⟩, ⟨(some 5), none, .mv (.t 14)⟩])
 (.seq (.ops [⟨(some 6), none, .mv (.c (.lit true 0 []))⟩])
 (.seq (.seq (.ops [⟨(some 15), none, .load none (.t 1)⟩, ⟨(some 16), none, .mv (.c (.int .i64 0))⟩])
 (.block 0 (.loop (.seq (.ops [⟨(some 17), none, .bin 0 .lss (.t 16) (.t 15)⟩])
 (.seq (.cond (.t 17) (.skip) (.exit 0))
 (.seq (.block 1 (.seq (.ops [⟨(some 18), none, .mv (.t 16)⟩, ⟨(some 7), none, .mv (.t 18)⟩])
 (.ops [⟨(some 19), none, .mv (.t 6)⟩, ⟨(some 20), none, .mv (.t 7)⟩, ⟨(some 21), none, .bin 0 .add (.t 20) (.c (.int .i64 1))⟩, ⟨(some 22), none, .mv (.t 5)⟩, ⟨(some 23), none, .call 81 [(.t 21), (.t 22)]⟩, ⟨(some 24), none, .bslice 9 1 1 [(.str [])] [(0, 1, (.t 23))]⟩, ⟨(some 25), none, .app 9 1 16 (.t 19) (.t 24)⟩, ⟨(some 6), none, .mv (.t 25)⟩])))
 (.ops [⟨(some 26), none, .bin 0 .add (.t 16) (.c (.int .i64 1))⟩, ⟨(some 16), none, .mv (.t 26)⟩])))))))
 (.seq (.ops [⟨(some 27), none, .mv (.t 6)⟩, ⟨(some 28), none, .mv (.t 5)⟩, ⟨(some 29), none, .call 73 [(.t 27), (.t 28)]⟩, ⟨(some 2), none, .mv (.t 29)⟩, ⟨(some 3), none, .mv (.c (.int .i64 0))⟩])
 (.ret))))))⟩
theorem c16 : compF Go.Proofs.Tryd.prog 16 = some a16 := by kernel_rfl
def a20 : AFn := ⟨26, [.t 4], .seq (.ops [⟨(some 4), none, .mv (.c (.bool false))⟩])
 (.seq (.seq (.ops [⟨(some 6), none, .mv (.t 0)⟩, ⟨(some 7), none, .len false (.t 6)⟩, ⟨(some 8), none, .mv (.t 1)⟩, ⟨(some 9), none, .len false (.t 8)⟩, ⟨(some 10), none, .bin 0 .neq (.t 7) (.t 9)⟩])
 (.cond (.t 10) (.seq (.ops [⟨(some 4), none, .mv (.c (.bool false))⟩])
 (.ret)) (.skip)))
 (.seq (.seq (.ops [⟨(some 11), none, .mv (.t 0)⟩, ⟨(some 12), none, .len false (.t 11)⟩, ⟨(some 13), none, .mv (.c (.int .i64 0))⟩])
 (.block 0 (.loop (.seq (.ops [⟨(some 14), none, .bin 0 .lss (.t 13) (.t 12)⟩])
 (.seq (.cond (.t 14) (.skip) (.exit 0))
 (.seq (.block 1 (.seq (.ops [⟨(some 15), none, .mv (.t 13)⟩, ⟨(some 5), none, .mv (.t 15)⟩])
 (.seq (.any [(⟨(some 16), none, .mv (.t 0)⟩, []), (⟨(some 17), none, .mv (.t 5)⟩, [0]), (⟨(some 18), none, .iadr 1 (.t 16) (.t 17)⟩, []), (⟨(some 19), none, .load none (.t 18)⟩, []), (⟨(some 20), none, .mv (.t 1)⟩, [0, 1, 2, 3]), (⟨(some 21), none, .mv (.t 5)⟩, [0, 1, 2, 3, 4]), (⟨(some 22), none, .iadr 1 (.t 20) (.t 21)⟩, [0, 1, 2, 3]), (⟨(some 23), none, .load none (.t 22)⟩, [0, 1, 2, 3]), (⟨(some 24), none, .bin 1 .neq (.t 19) (.t 23)⟩, [])])
 (.cond (.t 24) (.seq (.ops [⟨(some 4), none, .mv (.c (.bool false))⟩])
 (.ret)) (.skip)))))
 (.ops [⟨(some 25), none, .bin 0 .add (.t 13) (.c (.int .i64 1))⟩, ⟨(some 13), none, .mv (.t 25)⟩])))))))
 (.seq (.ops [⟨(some 4), none, .mv (.c (.bool true))⟩])
 (.ret))))⟩
theorem c20 : compF Go.Proofs.Tryd.prog 20 = some a20 := by kernel_rfl
def a21 : AFn := ⟨50, [.t 0], .seq (.ops [⟨(some 0), none, .mv (.c (.bool false))⟩])
 (.seq (.ops [⟨(some 9), none, .call 82 [(.c (.int .i64 4)), (.c (.int .i64 1))]⟩, ⟨(some 8), none, .mv (.t 9)⟩, ⟨(some 10), none, .ext (.t 8) 0⟩, ⟨(some 11), none, .ext (.t 8) 1⟩, ⟨(some 1), none, .mv (.t 10)⟩, ⟨(some 2), none, .mv (.t 11)⟩])
 (.seq (.ops [⟨(some 13), none, .call 16 [(.c (.int .i64 3))]⟩, ⟨(some 12), none, .mv (.t 13)⟩, ⟨(some 14), none, .ext (.t 12) 0⟩, ⟨(some 15), none, .ext (.t 12) 1⟩, ⟨(some 3), none, .mv (.t 14)⟩, ⟨(some 4), none, .mv (.t 15)⟩])
 (.seq (.ops [⟨(some 17), none, .bslice 9 1 1 [(.str [])] [(0, 1, (.c (.str [49, 120])))]⟩, ⟨(some 18), none, .build [(.lit true 0 []), (.str [])] [(0, 1, (.t 17)), (1, 1, (.c (.str [49])))]⟩, ⟨(some 19), none, .call 83 [(.t 18)]⟩, ⟨(some 16), none, .mv (.t 19)⟩, ⟨(some 20), none, .ext (.t 16) 0⟩, ⟨(some 21), none, .ext (.t 16) 1⟩, ⟨(some 22), none, .ext (.t 16) 2⟩, ⟨(some 5), none, .alloc 61 [(.int .i64 0), (.int .i64 0)]⟩, ⟨none, none, .store 2 (.t 5) (.t 20)⟩, ⟨(some 6), none, .mv (.t 21)⟩, ⟨(some 7), none, .mv (.t 22)⟩])
 (.seq (.ops [⟨(some 23), none, .mv (.t 2)⟩, ⟨(some 24), none, .bin 0 .eql (.t 23) (.c (.int .i64 0))⟩, ⟨(some 25), none, .mv (.t 24)⟩, ⟨(some 26), (some (25, true)), .mv (.t 1)⟩, ⟨(some 27), (some (25, true)), .bin 1 .eql (.t 26) (.c (.str [49, 49, 48]))⟩, ⟨(some 28), none, .pick (.t 25) (.t 27) (.c (.bool false))⟩, ⟨(some 29), none, .mv (.t 28)⟩, ⟨(some 30), (some (29, true)), .mv (.t 4)⟩, ⟨(some 31), (some (29, true)), .bin 0 .eql (.t 30) (.c (.int .i64 0))⟩, ⟨(some 32), none, .pick (.t 29) (.t 31) (.c (.bool false))⟩, ⟨(some 33), none, .mv (.t 32)⟩, ⟨(some 34), (some (33, true)), .mv (.t 3)⟩, ⟨(some 35), (some (33, true)), .len false (.t 34)⟩, ⟨(some 36), (some (33, true)), .bin 0 .eql (.t 35) (.c (.int .i64 3))⟩, ⟨(some 37), none, .pick (.t 33) (.t 36) (.c (.bool false))⟩, ⟨(some 38), none, .mv (.t 37)⟩, ⟨(some 39), (some (38, true)), .mv (.t 7)⟩, ⟨(some 40), (some (38, true)), .bin 0 .eql (.t 39) (.c (.int .i64 0))⟩, ⟨(some 41), none, .pick (.t 38) (.t 40) (.c (.bool false))⟩, ⟨(some 42), none, .mv (.t 41)⟩, ⟨(some 43), (some (42, true)), .mv (.t 6)⟩, ⟨(some 44), none, .pick (.t 42) (.t 43) (.c (.bool false))⟩, ⟨(some 45), none, .mv (.t 44)⟩, ⟨(some 46), (some (45, true)), .load (some 2) (.t 5)⟩, ⟨(some 47), (some (45, true)), .build [(.int .i64 0), (.int .i64 0)] [(0, 1, (.c (.int .i64 1))), (1, 1, (.c (.int .i64 2)))]⟩, ⟨(some 48), (some (45, true)), .eqs false [0, 0] (.t 46) (.t 47)⟩, ⟨(some 49), none, .pick (.t 45) (.t 48) (.c (.bool false))⟩, ⟨(some 0), none, .mv (.t 49)⟩])
 (.ret)))))⟩
def a22 : AFn := ⟨73, [.t 4, .t 5], .seq (.ops [⟨(some 4), none, .mv (.c (.int .i64 0))⟩, ⟨(some 5), none, .mv (.c (.lit true 0 []))⟩])
 (.seq (.ops [⟨(some 9), none, .mv (.t 0)⟩, ⟨(some 10), none, .call 37 [(.t 9), (.c (.int .i64 1)), (.c (.int .i64 6))]⟩, ⟨(some 6), none, .mv (.t 10)⟩])
 (.seq (.ops [⟨(some 7), none, .mv (.c (.lit true 0 []))⟩])
 (.seq (.seq (.ops [⟨(some 11), none, .mv (.t 0)⟩, ⟨(some 12), none, .mv (.t 1)⟩, ⟨(some 13), none, .call 37 [(.t 11), (.c (.int .i64 0)), (.t 12)]⟩, ⟨(some 14), none, .mv (.c (.int .i64 0))⟩])
 (.block 0 (.loop (.seq (.ops [⟨(some 15), none, .bin 0 .lss (.t 14) (.t 13)⟩])
 (.seq (.cond (.t 15) (.skip) (.exit 0))
 (.seq (.block 1 (.ops [⟨(some 16), none, .mv (.t 7)⟩, ⟨(some 17), none, .mv (.t 0)⟩, ⟨(some 18), none, .mv (.t 6)⟩, ⟨(some 19), none, .call 84 [(.t 17), (.t 18)]⟩, ⟨(some 20), none, .bslice 9 1 1 [(.str [])] [(0, 1, (.t 19))]⟩, ⟨(some 21), none, .app 9 1 16 (.t 16) (.t 20)⟩, ⟨(some 7), none, .mv (.t 21)⟩]))
 (.ops [⟨(some 22), none, .bin 0 .add (.t 14) (.c (.int .i64 1))⟩, ⟨(some 14), none, .mv (.t 22)⟩])))))))
 (.seq (.seq (.ops [⟨(some 23), none, .mv (.t 7)⟩, ⟨(some 24), none, .len false (.t 23)⟩, ⟨(some 25), none, .bin 0 .gtr (.t 24) (.c (.int .i64 0))⟩, ⟨(some 26), none, .mv (.t 25)⟩, ⟨(some 27), (some (26, true)), .mv (.t 0)⟩, ⟨(some 28), (some (26, true)), .call 43 [(.t 27), (.c (.int .i64 4))]⟩, ⟨(some 29), none, .pick (.t 26) (.t 28) (.c (.bool false))⟩])
 (.cond (.t 29) (.ops [⟨(some 30), none, .mv (.t 7)⟩, ⟨(some 31), none, .mv (.t 7)⟩, ⟨(some 32), none, .iadr 1 (.t 31) (.c (.int .i64 0))⟩, ⟨(some 33), none, .load none (.t 32)⟩, ⟨(some 34), none, .bslice 9 1 1 [(.str [])] [(0, 1, (.t 33))]⟩, ⟨(some 35), none, .app 9 1 16 (.t 30) (.t 34)⟩, ⟨(some 7), none, .mv (.t 35)⟩]) (.skip)))
 (.seq (.seq (.ops [⟨(some 36), none, .mv (.t 7)⟩, ⟨(some 37), none, .len false (.t 36)⟩, ⟨(some 38), none, .bin 0 .gtr (.t 37) (.c (.int .i64 0))⟩, ⟨(some 39), none, .mv (.t 38)⟩, ⟨(some 40), (some (39, true)), .mv (.t 0)⟩, ⟨(some 41), (some (39, true)), .call 43 [(.t 40), (.c (.int .i64 12))]⟩, ⟨(some 42), none, .pick (.t 39) (.t 41) (.c (.bool false))⟩])
 (.cond (.t 42) (.seq (.ops [⟨(some 43), none, .mv (.t 0)⟩, ⟨(some 44), none, .mv (.t 7)⟩, ⟨(some 45), none, .len false (.t 44)⟩, ⟨(some 46), none, .call 85 [(.t 43), (.t 45)]⟩, ⟨(some 8), none, .mv (.t 46)⟩])
 (.any [(⟨(some 47), none, .mv (.t 7)⟩, []), (⟨(some 48), none, .mv (.t 8)⟩, [0]), (⟨(some 49), none, .mv (.t 0)⟩, [0, 1]), (⟨(some 50), none, .mv (.t 7)⟩, [0, 1, 2]), (⟨(some 51), none, .mv (.t 8)⟩, [0, 1, 2, 3]), (⟨(some 52), none, .iadr 1 (.t 50) (.t 51)⟩, [0, 1, 2]), (⟨(some 53), none, .load none (.t 52)⟩, [0, 1, 2]), (⟨(some 54), none, .mv (.t 0)⟩, [0, 1, 2, 3, 4, 5, 6]), (⟨(some 55), none, .mv (.t 6)⟩, [0, 1, 2, 3, 4, 5, 6, 7]), (⟨(some 56), none, .bin 0 .add (.t 55) (.c (.int .i64 1))⟩, [0, 1, 2, 3, 4, 5, 6, 7]), (⟨(some 57), none, .call 84 [(.t 54), (.t 56)]⟩, [0, 1, 2, 3, 4, 5, 6]), (⟨(some 58), none, .mv (.t 0)⟩, [0, 1, 2, 3, 4, 5, 6, 7, 8, 9, 10]), (⟨(some 59), none, .mv (.t 7)⟩, [0, 1, 2, 3, 4, 5, 6, 7, 8, 9, 10, 11]), (⟨(some 60), none, .mv (.t 8)⟩, [0, 1, 2, 3, 4, 5, 6, 7, 8, 9, 10, 11, 12]), (⟨(some 61), none, .iadr 1 (.t 59) (.t 60)⟩, [0, 1, 2, 3, 4, 5, 6, 7, 8, 9, 10, 11]), (⟨(some 62), none, .load none (.t 61)⟩, [0, 1, 2, 3, 4, 5, 6, 7, 8, 9, 10, 11]), (⟨(some 63), none, .call 87 [(.t 58), (.t 62), (.c (.str [50]))]⟩, [0, 1, 2, 3, 4, 5, 6]), (⟨(some 64), none, .bslice 9 1 4 [(.str [])] [(0, 1, (.t 53)), (1, 1, (.c (.str []))), (2, 1, (.t 57)), (3, 1, (.t 63))]⟩, [0, 1, 2]), (⟨(some 65), none, .call 86 [(.t 49), (.t 64)]⟩, [0, 1]), (⟨(some 66), none, .iadr 1 (.t 47) (.t 48)⟩, []), (⟨none, none, .store 1 (.t 66) (.t 65)⟩, [])])) (.skip)))
 (.seq (.seq (.ops [⟨(some 67), none, .mv (.t 0)⟩, ⟨(some 68), none, .call 43 [(.t 67), (.c (.int .i64 20))]⟩])
 (.cond (.t 68) (.ops [⟨(some 69), none, .mv (.t 0)⟩, ⟨(some 70), none, .call 57 [(.t 69), (.c (.int .i64 1)), (.c (.int .i64 100))]⟩, ⟨(some 6), none, .mv (.t 70)⟩]) (.skip)))
 (.seq (.ops [⟨(some 71), none, .mv (.t 6)⟩, ⟨(some 72), none, .mv (.t 7)⟩, ⟨(some 4), none, .mv (.t 71)⟩, ⟨(some 5), none, .mv (.t 72)⟩])
 (.ret))))))))⟩
theorem c22 : compF Go.Proofs.Tryd.prog 22 = some a22 := by kernel_rfl
def a24 : AFn := ⟨32, [.t 4], .seq (.ops [⟨(some 4), none, .mv (.c (.int .i64 0))⟩])
 (.seq (.block 0 (.seq (.ops [⟨(some 9), none, .mv (.t 0)⟩, ⟨(some 10), none, .call 89 [(.t 9), (.c (.int .i64 1)), (.c (.int .i64 100))]⟩, ⟨(some 11), none, .un .not (.t 10)⟩, ⟨(some 8), none, .mv (.t 11)⟩])
 (.cond (.t 8) (.seq (.ops [⟨(some 4), none, .mv (.c (.int .i64 1))⟩])
 (.ret)) (.seq (.ops [⟨(some 13), none, .mv (.t 1)⟩, ⟨(some 14), none, .len false (.t 13)⟩, ⟨(some 15), none, .bin 0 .gtr (.t 14) (.c (.int .i64 200))⟩, ⟨(some 12), none, .mv (.t 15)⟩])
 (.cond (.t 12) (.seq (.ops [⟨(some 4), none, .mv (.c (.int .i64 2))⟩])
 (.ret)) (.skip))))))
 (.seq (.seq (.ops [⟨(some 16), none, .mv (.t 1)⟩, ⟨(some 17), none, .len false (.t 16)⟩, ⟨(some 18), none, .mv (.c (.int .i64 0))⟩])
 (.block 1 (.loop (.seq (.ops [⟨(some 19), none, .bin 0 .lss (.t 18) (.t 17)⟩])
 (.seq (.cond (.t 19) (.skip) (.exit 1))
 (.seq (.block 2 (.seq (.ops [⟨(some 20), none, .iadr 1 (.t 16) (.t 18)⟩, ⟨(some 21), none, .load none (.t 20)⟩, ⟨(some 6), none, .mv (.t 21)⟩])
 (.seq (.seq (.ops [⟨(some 22), none, .mv (.t 6)⟩, ⟨(some 23), none, .len true (.t 22)⟩, ⟨(some 24), none, .mv (.t 0)⟩, ⟨(some 25), none, .bin 0 .neq (.t 23) (.t 24)⟩])
 (.cond (.t 25) (.seq (.ops [⟨(some 4), none, .mv (.c (.int .i64 3))⟩])
 (.ret)) (.skip)))
 (.seq (.ops [⟨(some 26), none, .mv (.t 6)⟩, ⟨(some 27), none, .call 90 [(.t 26)]⟩, ⟨(some 7), none, .mv (.t 27)⟩])
 (.seq (.ops [⟨(some 28), none, .mv (.t 7)⟩, ⟨(some 29), none, .bin 0 .neq (.t 28) (.c (.int .i64 0))⟩])
 (.cond (.t 29) (.seq (.ops [⟨(some 30), none, .mv (.t 7)⟩, ⟨(some 4), none, .mv (.t 30)⟩])
 (.ret)) (.skip)))))))
 (.ops [⟨(some 31), none, .bin 0 .add (.t 18) (.c (.int .i64 1))⟩, ⟨(some 18), none, .mv (.t 31)⟩])))))))
 (.seq (.ops [⟨(some 4), none, .mv (.c (.int .i64 0))⟩])
 (.ret))))⟩
theorem c24 : compF Go.Proofs.Tryd.prog 24 = some a24 := by kernel_rfl
def a26 : AFn := ⟨30, [.t 4], .seq (.ops [⟨(some 4), none, .mv (.c (.int .i64 0))⟩])
 (.seq (.block 0 (.seq (.ops [⟨(some 8), none, .mv (.t 0)⟩, ⟨(some 9), none, .call 91 [(.t 8), (.c (.int .i64 1)), (.c (.int .i64 100))]⟩, ⟨(some 7), none, .mv (.t 9)⟩])
 (.cond (.t 7) (.seq (.ops [⟨(some 4), none, .mv (.c (.int .i64 1))⟩])
 (.ret)) (.seq (.ops [⟨(some 11), none, .mv (.t 1)⟩, ⟨(some 12), none, .len false (.t 11)⟩, ⟨(some 13), none, .bin 0 .gtr (.t 12) (.c (.int .i64 200))⟩, ⟨(some 10), none, .mv (.t 13)⟩])
 (.cond (.t 10) (.seq (.ops [⟨(some 4), none, .mv (.c (.int .i64 2))⟩])
 (.ret)) (.skip))))))
 (.seq (.seq (.ops [⟨(some 14), none, .mv (.t 1)⟩, ⟨(some 15), none, .len false (.t 14)⟩, ⟨(some 16), none, .mv (.c (.int .i64 0))⟩])
 (.block 1 (.loop (.seq (.ops [⟨(some 17), none, .bin 0 .lss (.t 16) (.t 15)⟩])
 (.seq (.cond (.t 17) (.skip) (.exit 1))
 (.seq (.block 2 (.seq (.ops [⟨(some 18), none, .iadr 1 (.t 14) (.t 16)⟩, ⟨(some 19), none, .load none (.t 18)⟩, ⟨(some 6), none, .mv (.t 19)⟩])
 (.block 3 (.seq (.ops [⟨(some 21), none, .mv (.t 6)⟩, ⟨(some 22), none, .len true (.t 21)⟩, ⟨(some 23), none, .mv (.t 0)⟩, ⟨(some 24), none, .bin 0 .neq (.t 22) (.t 23)⟩, ⟨(some 20), none, .mv (.t 24)⟩])
 (.cond (.t 20) (.seq (.ops [⟨(some 4), none, .mv (.c (.int .i64 3))⟩])
 (.ret)) (.seq (.ops [⟨(some 26), none, .mv (.t 6)⟩, ⟨(some 27), none, .call 92 [(.t 26)]⟩, ⟨(some 28), none, .un .not (.t 27)⟩, ⟨(some 25), none, .mv (.t 28)⟩])
 (.cond (.t 25) (.seq (.ops [⟨(some 4), none, .mv (.c (.int .i64 9))⟩])
 (.ret)) (.skip))))))))
 (.ops [⟨(some 29), none, .bin 0 .add (.t 16) (.c (.int .i64 1))⟩, ⟨(some 16), none, .mv (.t 29)⟩])))))))
 (.seq (.ops [⟨(some 4), none, .mv (.c (.int .i64 0))⟩])
 (.ret))))⟩
theorem c26 : compF Go.Proofs.Tryd.prog 26 = some a26 := by kernel_rfl
def a27 : AFn := ⟨35, [.t 4], .seq (.ops [⟨(some 4), none, .mv (.c (.lit true 0 []))⟩])
 (.seq (.ops [⟨(some 9), none, .mv (.t 0)⟩, ⟨(some 10), none, .mks 9 1 16 [(.str [])] (.t 9)⟩, ⟨(some 5), none, .mv (.t 10)⟩])
 (.seq (.seq (.ops [⟨(some 11), none, .mv (.t 1)⟩, ⟨(some 12), none, .len false (.t 11)⟩, ⟨(some 13), none, .mv (.c (.int .i64 0))⟩])
 (.block 0 (.loop (.seq (.ops [⟨(some 14), none, .bin 0 .lss (.t 13) (.t 12)⟩])
 (.seq (.cond (.t 14) (.skip) (.exit 0))
 (.seq (.block 1 (.seq (.ops [⟨(some 15), none, .iadr 1 (.t 11) (.t 13)⟩, ⟨(some 16), none, .load none (.t 15)⟩, ⟨(some 7), none, .mv (.t 16)⟩])
 (.seq (.ops [⟨(some 17), none, .mv (.t 0)⟩, ⟨(some 18), none, .mv (.c (.int .i64 0))⟩])
 (.block 2 (.loop (.seq (.ops [⟨(some 19), none, .bin 0 .lss (.t 18) (.t 17)⟩])
 (.seq (.cond (.t 19) (.skip) (.exit 2))
 (.seq (.block 3 (.seq (.ops [⟨(some 20), none, .mv (.t 18)⟩, ⟨(some 8), none, .mv (.t 20)⟩])
 (.any [(⟨(some 21), none, .mv (.t 5)⟩, []), (⟨(some 22), none, .mv (.t 8)⟩, [0]), (⟨(some 23), none, .iadr 1 (.t 21) (.t 22)⟩, []), (⟨(some 24), none, .load none (.t 23)⟩, []), (⟨(some 25), none, .mv (.t 7)⟩, [0, 1, 2, 3]), (⟨(some 26), none, .mv (.t 8)⟩, [0, 1, 2, 3, 4]), (⟨(some 27), none, .mv (.t 8)⟩, [0, 1, 2, 3, 4, 5]), (⟨(some 28), none, .bin 0 .add (.t 27) (.c (.int .i64 1))⟩, [0, 1, 2, 3, 4, 5]), (⟨(some 29), none, .sls (.t 25) (some (.t 26)) (some (.t 28))⟩, [0, 1, 2, 3]), (⟨(some 30), none, .bin 1 .add (.t 24) (.t 29)⟩, []), (⟨(some 31), none, .iadr 1 (.t 21) (.t 22)⟩, []), (⟨none, none, .store 1 (.t 31) (.t 30)⟩, [])])))
 (.ops [⟨(some 32), none, .bin 0 .add (.t 18) (.c (.int .i64 1))⟩, ⟨(some 18), none, .mv (.t 32)⟩])))))))))
 (.ops [⟨(some 33), none, .bin 0 .add (.t 13) (.c (.int .i64 1))⟩, ⟨(some 13), none, .mv (.t 33)⟩])))))))
 (.seq (.ops [⟨(some 34), none, .mv (.t 5)⟩, ⟨(some 4), none, .mv (.t 34)⟩])
 (.ret))))⟩
theorem c27 : compF Go.Proofs.Tryd.prog 27 = some a27 := by kernel_rfl
def a36 : AFn := ⟨14, [.t 0], .seq (.ops [⟨(some 0), none, .mv (.c (.bool false))⟩])
 (.seq (.ops [⟨(some 4), none, .call 16 [(.c (.int .i64 3))]⟩, ⟨(some 3), none, .mv (.t 4)⟩, ⟨(some 5), none, .ext (.t 3) 0⟩, ⟨(some 6), none, .ext (.t 3) 1⟩, ⟨(some 1), none, .mv (.t 5)⟩, ⟨(some 2), none, .mv (.t 6)⟩])
 (.seq (.ops [⟨(some 7), none, .mv (.t 2)⟩, ⟨(some 8), none, .bin 0 .eql (.t 7) (.c (.int .i64 0))⟩, ⟨(some 9), none, .mv (.t 8)⟩, ⟨(some 10), (some (9, true)), .mv (.t 1)⟩, ⟨(some 11), (some (9, true)), .bslice 9 1 3 [(.str [])] [(0, 1, (.c (.str [48, 48, 48]))), (1, 1, (.c (.str [48, 49, 49]))), (2, 1, (.c (.str [49, 48, 49])))]⟩, ⟨(some 12), (some (9, true)), .call 20 [(.t 10), (.t 11)]⟩, ⟨(some 13), none, .pick (.t 9) (.t 12) (.c (.bool false))⟩, ⟨(some 0), none, .mv (.t 13)⟩])
 (.ret)))⟩
theorem c36 : compF Go.Proofs.Tryd.prog 36 = some a36 := by kernel_rfl
def a37 : AFn := ⟨19, [.t 6], .seq (.ops [⟨(some 6), none, .mv (.c (.int .i64 0))⟩])
 (.seq (.seq (.ops [⟨(some 7), none, .mv (.t 2)⟩, ⟨(some 8), none, .mv (.t 1)⟩, ⟨(some 9), none, .bin 0 .lss (.t 7) (.t 8)⟩])
 (.cond (.t 9) (.seq (.ops [⟨(some 10), none, .mv (.t 1)⟩, ⟨(some 6), none, .mv (.t 10)⟩])
 (.ret)) (.skip)))
 (.seq (.ops [⟨(some 11), none, .mv (.t 1)⟩, ⟨(some 12), none, .mv (.t 0)⟩, ⟨(some 13), none, .mv (.t 2)⟩, ⟨(some 14), none, .mv (.t 1)⟩, ⟨(some 15), none, .bin 0 .sub (.t 13) (.t 14)⟩, ⟨(some 16), none, .bin 0 .add (.t 15) (.c (.int .i64 1))⟩, ⟨(some 17), none, .call 85 [(.t 12), (.t 16)]⟩, ⟨(some 18), none, .bin 0 .add (.t 11) (.t 17)⟩, ⟨(some 6), none, .mv (.t 18)⟩])
 (.ret)))⟩
theorem c37 : compF Go.Proofs.Tryd.prog 37 = some a37 := by kernel_rfl
def a43 : AFn := ⟨9, [.t 4], .seq (.ops [⟨(some 4), none, .mv (.c (.bool false))⟩])
 (.seq (.ops [⟨(some 5), none, .mv (.t 0)⟩, ⟨(some 6), none, .mv (.t 1)⟩, ⟨(some 7), none, .call 85 [(.t 5), (.t 6)]⟩, ⟨(some 8), none, .bin 0 .eql (.t 7) (.c (.int .i64 0))⟩, ⟨(some 4), none, .mv (.t 8)⟩])
 (.ret))⟩
theorem c43 : compF Go.Proofs.Tryd.prog 43 = some a43 := by kernel_rfl
def a44 : AFn := ⟨48, [.t 4], .seq (.ops [⟨(some 4), none, .mv (.c (.lit true 0 []))⟩])
 (.seq (.seq (.ops [⟨(some 9), none, .mv (.t 1)⟩, ⟨(some 10), none, .bin 0 .lss (.t 9) (.c (.int .i64 0))⟩])
 (.cond (.t 10) (.ops [⟨(some 11), none, .bad⟩, ⟨none, none, .bad⟩]) (.skip)))
 (.seq (.ops [⟨(some 13), none, .mv (.t 0)⟩, ⟨(some 14), none, .len false (.t 13)⟩, ⟨(some 15), none, .conv .u64 (.t 14)⟩, ⟨(some 16), none, .mv (.t 1)⟩, ⟨(some 17), none, .conv .u64 (.t 16)⟩, ⟨(some 18), none, .call 107 [(.t 15), (.t 17)]⟩, ⟨(some 12), none, .mv (.t 18)⟩, ⟨(some 19), none, .ext (.t 12) 0⟩, ⟨(some 20), none, .ext (.t 12) 1⟩, ⟨(some 5), none, .mv (.t 19)⟩, ⟨(some 6), none, .mv (.t 20)⟩])
 (.seq (.seq (.ops [⟨(some 21), none, .mv (.t 5)⟩, ⟨(some 22), none, .bin 0 .gtr (.t 21) (.c (.int .u64 0))⟩, ⟨(some 23), none, .mv (.t 22)⟩, ⟨(some 24), (some (23, false)), .mv (.t 6)⟩, ⟨(some 25), (some (23, false)), .bin 0 .gtr (.t 24) (.c (.int .u64 9223372036854775807))⟩, ⟨(some 26), none, .pick (.t 23) (.c (.bool true)) (.t 25)⟩])
 (.cond (.t 26) (.ops [⟨(some 27), none, .bad⟩, ⟨none, none, .bad⟩]) (.skip)))
 (.seq (.ops [⟨(some 28), none, .mv (.t 6)⟩, ⟨(some 29), none, .conv .i64 (.t 28)⟩, ⟨(some 30), none, .mks 9 1 16 [(.str [])] (.t 29)⟩, ⟨(some 7), none, .mv (.t 30)⟩])
 (.seq (.ops [⟨(some 31), none, .mv (.t 7)⟩, ⟨(some 32), none, .mv (.t 0)⟩, ⟨(some 33), none, .cpy 1 (.t 31) (.t 32)⟩, ⟨(some 8), none, .mv (.t 33)⟩])
 (.seq (.block 0 (.loop (.seq (.seq (.ops [⟨(some 34), none, .mv (.t 8)⟩, ⟨(some 35), none, .mv (.t 7)⟩, ⟨(some 36), none, .len false (.t 35)⟩, ⟨(some 37), none, .bin 0 .lss (.t 34) (.t 36)⟩])
 (.cond (.t 37) (.skip) (.exit 0)))
 (.block 1 (.any [(⟨(some 38), none, .mv (.t 8)⟩, []), (⟨(some 39), none, .mv (.t 7)⟩, [0]), (⟨(some 40), none, .mv (.t 8)⟩, [0, 1]), (⟨(some 41), none, .slc 1 (.t 39) (some (.t 40)) none⟩, [0]), (⟨(some 42), none, .mv (.t 7)⟩, [0, 1, 2, 3]), (⟨(some 43), none, .mv (.t 8)⟩, [0, 1, 2, 3, 4]), (⟨(some 44), none, .slc 1 (.t 42) none (some (.t 43))⟩, [0, 1, 2, 3]), (⟨(some 45), none, .cpy 1 (.t 41) (.t 44)⟩, [0]), (⟨(some 46), none, .bin 0 .add (.t 38) (.t 45)⟩, []), (⟨(some 8), none, .mv (.t 46)⟩, [])])))))
 (.seq (.ops [⟨(some 47), none, .mv (.t 7)⟩, ⟨(some 4), none, .mv (.t 47)⟩])
 (.ret))))))))⟩
theorem c44 : compF Go.Proofs.Tryd.prog 44 = some a44 := by kernel_rfl
def a45 : AFn := ⟨18, [.t 2], .seq (.ops [⟨(some 2), none, .mv (.c (.int .i64 0))⟩])
 (.seq (.ops [⟨(some 3), none, .mv (.c (.int .i64 0))⟩])
 (.seq (.seq (.ops [⟨(some 6), none, .mv (.t 0)⟩, ⟨(some 7), none, .len false (.t 6)⟩, ⟨(some 8), none, .mv (.c (.int .i64 0))⟩])
 (.block 0 (.loop (.seq (.ops [⟨(some 9), none, .bin 0 .lss (.t 8) (.t 7)⟩])
 (.seq (.cond (.t 9) (.skip) (.exit 0))
 (.seq (.block 1 (.seq (.ops [⟨(some 10), none, .iadr 1 (.t 6) (.t 8)⟩, ⟨(some 11), none, .load none (.t 10)⟩, ⟨(some 5), none, .mv (.t 11)⟩])
 (.seq (.ops [⟨(some 12), none, .mv (.t 5)⟩, ⟨(some 13), none, .mv (.t 3)⟩, ⟨(some 14), none, .bin 0 .neq (.t 12) (.t 13)⟩])
 (.cond (.t 14) (.seq (.ops [⟨(some 15), none, .mv (.t 5)⟩, ⟨(some 2), none, .mv (.t 15)⟩])
 (.ret)) (.skip)))))
 (.ops [⟨(some 16), none, .bin 0 .add (.t 8) (.c (.int .i64 1))⟩, ⟨(some 8), none, .mv (.t 16)⟩])))))))
 (.seq (.ops [⟨(some 17), none, .mv (.t 3)⟩, ⟨(some 2), none, .mv (.t 17)⟩])
 (.ret))))⟩
theorem c45 : compF Go.Proofs.Tryd.prog 45 = some a45 := by kernel_rfl
def a46 : AFn := ⟨7, [.t 4], .seq (.ops [⟨(some 4), none, .mv (.c (.int .i64 0))⟩])
 (.seq (.seq (.ops [⟨(some 5), none, .mv (.t 0)⟩])
 (.cond (.t 5) (.seq (.ops [⟨(some 6), none, .mv (.t 1)⟩, ⟨(some 4), none, .mv (.t 6)⟩])
 (.ret)) (.skip)))
 (.seq (.ops [⟨(some 4), none, .mv (.c (.int .i64 0))⟩])
 (.ret)))⟩
theorem c46 : compF Go.Proofs.Tryd.prog 46 = some a46 := by kernel_rfl
def a47 : AFn := ⟨26, [.t 4], .seq (.ops [⟨(some 4), none, .mv (.c (.bool false))⟩])
 (.seq (.seq (.ops [⟨(some 6), none, .mv (.t 0)⟩, ⟨(some 7), none, .len false (.t 6)⟩, ⟨(some 8), none, .mv (.t 1)⟩, ⟨(some 9), none, .len false (.t 8)⟩, ⟨(some 10), none, .bin 0 .neq (.t 7) (.t 9)⟩])
 (.cond (.t 10) (.seq (.ops [⟨(some 4), none, .mv (.c (.bool false))⟩])
 (.ret)) (.skip)))
 (.seq (.seq (.ops [⟨(some 11), none, .mv (.t 0)⟩, ⟨(some 12), none, .len false (.t 11)⟩, ⟨(some 13), none, .mv (.c (.int .i64 0))⟩])
 (.block 0 (.loop (.seq (.ops [⟨(some 14), none, .bin 0 .lss (.t 13) (.t 12)⟩])
 (.seq (.cond (.t 14) (.skip) (.exit 0))
 (.seq (.block 1 (.seq (.ops [⟨(some 15), none, .mv (.t 13)⟩, ⟨(some 5), none, .mv (.t 15)⟩])
 (.seq (.any [(⟨(some 16), none, .mv (.t 0)⟩, []), (⟨(some 17), none, .mv (.t 5)⟩, [0]), (⟨(some 18), none, .iadr 1 (.t 16) (.t 17)⟩, []), (⟨(some 19), none, .load none (.t 18)⟩, []), (⟨(some 20), none, .mv (.t 1)⟩, [0, 1, 2, 3]), (⟨(some 21), none, .mv (.t 5)⟩, [0, 1, 2, 3, 4]), (⟨(some 22), none, .iadr 1 (.t 20) (.t 21)⟩, [0, 1, 2, 3]), (⟨(some 23), none, .load none (.t 22)⟩, [0, 1, 2, 3]), (⟨(some 24), none, .bin 0 .neq (.t 19) (.t 23)⟩, [])])
 (.cond (.t 24) (.seq (.ops [⟨(some 4), none, .mv (.c (.bool false))⟩])
 (.ret)) (.skip)))))
 (.ops [⟨(some 25), none, .bin 0 .add (.t 13) (.c (.int .i64 1))⟩, ⟨(some 13), none, .mv (.t 25)⟩])))))))
 (.seq (.ops [⟨(some 4), none, .mv (.c (.bool true))⟩])
 (.ret))))⟩
theorem c47 : compF Go.Proofs.Tryd.prog 47 = some a47 := by kernel_rfl
def a48 : AFn := ⟨9, [.t 4], .seq (.ops [⟨(some 2), none, .box 3 (.t 0)⟩, ⟨(some 3), none, .box 26 (.t 1)⟩, ⟨(some 4), none, .mv (.c (.lit true 0 []))⟩])
 (.seq (.ops [⟨(some 5), none, .load none (.t 3)⟩, ⟨(some 6), none, .len false (.t 5)⟩, ⟨(some 7), none, .mkfn 109 [(.t 3), (.t 2)]⟩, ⟨(some 8), none, .call 108 [(.t 6), (.t 7)]⟩, ⟨(some 4), none, .mv (.t 8)⟩])
 (.ret))⟩
theorem c48 : compF Go.Proofs.Tryd.prog 48 = some a48 := by kernel_rfl
def a49 : AFn := ⟨108, [.t 4, .t 5, .t 6], .seq (.ops [⟨(some 3), none, .box 26 (.t 1)⟩, ⟨(some 4), none, .mv (.c (.lit true 0 []))⟩, ⟨(some 5), none, .mv (.c (.int .i64 0))⟩, ⟨(some 6), none, .mv (.c (.int .i64 0))⟩])
 (.seq (.seq (.ops [⟨(some 17), none, .mv (.t 0)⟩, ⟨(some 18), none, .load none (.t 3)⟩, ⟨(some 19), none, .call 26 [(.t 17), (.t 18)]⟩, ⟨(some 7), none, .mv (.t 19)⟩])
 (.seq (.ops [⟨(some 20), none, .mv (.t 7)⟩, ⟨(some 21), none, .bin 0 .neq (.t 20) (.c (.int .i64 0))⟩])
 (.cond (.t 21) (.seq (.ops [⟨(some 22), none, .mv (.t 7)⟩, ⟨(some 4), none, .mv (.c (.lit true 0 []))⟩, ⟨(some 5), none, .mv (.c (.int .i64 0))⟩, ⟨(some 6), none, .mv (.t 22)⟩])
 (.ret)) (.skip))))
 (.seq (.ops [⟨(some 23), none, .load none (.t 3)⟩, ⟨(some 24), none, .len false (.t 23)⟩, ⟨(some 8), none, .alloc 3 [(.int .i64 0)]⟩, ⟨none, none, .store 1 (.t 8) (.t 24)⟩])
 (.seq (.block 0 (.seq (.ops [⟨(some 26), none, .load none (.t 8)⟩, ⟨(some 27), none, .bin 0 .gtr (.t 26) (.c (.int .i64 10))⟩, ⟨(some 25), none, .mv (.t 27)⟩])
 (.cond (.t 25) (.seq (.ops [⟨(some 4), none, .mv (.c (.lit true 0 []))⟩, ⟨(some 5), none, .mv (.c (.int .i64 0))⟩, ⟨(some 6), none, .mv (.c (.int .i64 2))⟩])
 (.ret)) (.seq (.ops [⟨(some 29), none, .load none (.t 8)⟩, ⟨(some 30), none, .bin 0 .eql (.t 29) (.c (.int .i64 0))⟩, ⟨(some 28), none, .mv (.t 30)⟩])
 (.cond (.t 28) (.seq (.ops [⟨(some 4), none, .mv (.c (.lit true 0 []))⟩, ⟨(some 5), none, .mv (.c (.int .i64 0))⟩, ⟨(some 6), none, .mv (.c (.int .i64 0))⟩])
 (.ret)) (.skip))))))
 (.seq (.ops [⟨(some 31), none, .mmk .p (.int .i64 0)⟩, ⟨(some 9), none, .alloc 140 [.any]⟩, ⟨none, none, .store 1 (.t 9) (.t 31)⟩])
 (.seq (.ops [⟨(some 10), none, .alloc 55 [.any]⟩])
 (.seq (.ops [⟨(some 32), none, .mkfn 113 [(.t 8), (.t 9), (.t 3), (.t 10)]⟩, ⟨none, none, .store 1 (.t 10) (.t 32)⟩])
 (.seq (.ops [⟨(some 11), none, .mv (.c (.int .i64 0))⟩])
 (.seq (.seq (.ops [⟨(some 33), none, .load none (.t 8)⟩, ⟨(some 34), none, .mv (.c (.int .i64 0))⟩])
 (.block 1 (.loop (.seq (.ops [⟨(some 35), none, .bin 0 .lss (.t 34) (.t 33)⟩])
 (.seq (.cond (.t 35) (.skip) (.exit 1))
 (.seq (.block 2 (.seq (.ops [⟨(some 36), none, .mv (.t 34)⟩, ⟨(some 12), none, .mv (.t 36)⟩])
 (.seq (.any [(⟨(some 37), none, .load none (.t 10)⟩, []), (⟨(some 38), none, .mv (.t 12)⟩, [0]), (⟨(some 39), none, .bin 0 .shl (.c (.int .i64 1)) (.t 38)⟩, [0]), (⟨(some 40), none, .mv (.t 12)⟩, [0, 1, 2]), (⟨(some 41), none, .callv (.t 37) [(.t 39), (.t 40)]⟩, []), (⟨(some 42), none, .load none (.t 10)⟩, [0, 1, 2, 3, 4]), (⟨(some 43), none, .mv (.t 11)⟩, [0, 1, 2, 3, 4, 5]), (⟨(some 44), none, .bin 0 .shl (.c (.int .i64 1)) (.t 43)⟩, [0, 1, 2, 3, 4, 5]), (⟨(some 45), none, .mv (.t 11)⟩, [0, 1, 2, 3, 4, 5, 6, 7]), (⟨(some 46), none, .callv (.t 42) [(.t 44), (.t 45)]⟩, []), (⟨(some 47), none, .bin 0 .lss (.t 41) (.t 46)⟩, [])])
 (.cond (.t 47) (.ops [⟨(some 48), none, .mv (.t 12)⟩, ⟨(some 11), none, .mv (.t 48)⟩]) (.skip)))))
 (.ops [⟨(some 49), none, .bin 0 .add (.t 34) (.c (.int .i64 1))⟩, ⟨(some 34), none, .mv (.t 49)⟩])))))))
 (.seq (.any [(⟨(some 50), none, .mv (.t 11)⟩, []), (⟨(some 51), none, .bslice 3 1 1 [(.int .i64 0)] [(0, 1, (.t 50))]⟩, []), (⟨(some 52), none, .mv (.t 11)⟩, [0, 1]), (⟨(some 53), none, .bin 0 .shl (.c (.int .i64 1)) (.t 52)⟩, [0, 1]), (⟨(some 54), none, .mv (.t 11)⟩, [0, 1, 2, 3]), (⟨(some 13), none, .mv (.t 51)⟩, [2, 3, 4]), (⟨(some 14), none, .mv (.t 53)⟩, [4]), (⟨(some 15), none, .mv (.t 54)⟩, [])])
 (.seq (.block 3 (.loop (.seq (.seq (.ops [⟨(some 55), none, .mv (.t 13)⟩, ⟨(some 56), none, .len false (.t 55)⟩, ⟨(some 57), none, .load none (.t 8)⟩, ⟨(some 58), none, .bin 0 .lss (.t 56) (.t 57)⟩])
 (.cond (.t 58) (.skip) (.exit 3)))
 (.block 4 (.seq (.ops [⟨(some 59), none, .load none (.t 8)⟩, ⟨(some 60), none, .mv (.c (.int .i64 0))⟩])
 (.block 5 (.loop (.seq (.ops [⟨(some 61), none, .bin 0 .lss (.t 60) (.t 59)⟩])
 (.seq (.cond (.t 61) (.skip) (.exit 5))
 (.seq (.block 6 (.seq (.ops [⟨(some 62), none, .mv (.t 60)⟩, ⟨(some 16), none, .mv (.t 62)⟩])
 (.seq (.any [(⟨(some 63), none, .mv (.t 14)⟩, []), (⟨(some 64), none, .mv (.t 16)⟩, [0]), (⟨(some 65), none, .bin 0 .shr (.t 63) (.t 64)⟩, []), (⟨(some 66), none, .bin 0 .and (.t 65) (.c (.int .i64 1))⟩, []), (⟨(some 67), none, .bin 0 .eql (.t 66) (.c (.int .i64 0))⟩, []), (⟨(some 68), none, .mv (.t 67)⟩, []), (⟨(some 69), (some (68, true)), .load none (.t 3)⟩, []), (⟨(some 70), (some (68, true)), .mv (.t 15)⟩, [6]), (⟨(some 71), (some (68, true)), .iadr 1 (.t 69) (.t 70)⟩, []), (⟨(some 72), (some (68, true)), .load none (.t 71)⟩, []), (⟨(some 73), (some (68, true)), .load none (.t 3)⟩, [6, 7, 8, 9]), (⟨(some 74), (some (68, true)), .mv (.t 16)⟩, [6, 7, 8, 9, 10]), (⟨(some 75), (some (68, true)), .iadr 1 (.t 73) (.t 74)⟩, [6, 7, 8, 9]), (⟨(some 76), (some (68, true)), .load none (.t 75)⟩, [6, 7, 8, 9]), (⟨(some 77), (some (68, true)), .call 114 [(.t 72), (.t 76)]⟩, []), (⟨(some 78), (some (68, true)), .load none (.t 10)⟩, [6, 7, 8, 9, 10, 11, 12, 13, 14]), (⟨(some 79), (some (68, true)), .mv (.t 14)⟩, [6, 7, 8, 9, 10, 11, 12, 13, 14, 15]), (⟨(some 80), (some (68, true)), .mv (.t 16)⟩, [6, 7, 8, 9, 10, 11, 12, 13, 14, 15, 16]), (⟨(some 81), (some (68, true)), .bin 0 .shl (.c (.int .i64 1)) (.t 80)⟩, [6, 7, 8, 9, 10, 11, 12, 13, 14, 15, 16]), (⟨(some 82), (some (68, true)), .bin 0 .or (.t 79) (.t 81)⟩, [6, 7, 8, 9, 10, 11, 12, 13, 14, 15]), (⟨(some 83), (some (68, true)), .mv (.t 16)⟩, [6, 7, 8, 9, 10, 11, 12, 13, 14, 15, 16, 17, 18, 19]), (⟨(some 84), (some (68, true)), .callv (.t 78) [(.t 82), (.t 83)]⟩, []), (⟨(some 85), (some (68, true)), .bin 0 .add (.t 77) (.t 84)⟩, []), (⟨(some 86), (some (68, true)), .load none (.t 10)⟩, [6, 7, 8, 9, 10, 11, 12, 13, 14, 15, 16, 17, 18, 19, 20, 21, 22]), (⟨(some 87), (some (68, true)), .mv (.t 14)⟩, [6, 7, 8, 9, 10, 11, 12, 13, 14, 15, 16, 17, 18, 19, 20, 21, 22, 23]), (⟨(some 88), (some (68, true)), .mv (.t 15)⟩, [6, 7, 8, 9, 10, 11, 12, 13, 14, 15, 16, 17, 18, 19, 20, 21, 22, 23, 24]), (⟨(some 89), (some (68, true)), .callv (.t 86) [(.t 87), (.t 88)]⟩, [22]), (⟨(some 90), (some (68, true)), .bin 0 .eql (.t 85) (.t 89)⟩, []), (⟨(some 91), none, .pick (.t 68) (.t 90) (.c (.bool false))⟩, [])])
 (.cond (.t 91) (.seq (.any [(⟨(some 92), none, .mv (.t 13)⟩, []), (⟨(some 93), none, .mv (.t 16)⟩, [0]), (⟨(some 94), none, .bslice 3 1 1 [(.int .i64 0)] [(0, 1, (.t 93))]⟩, [0]), (⟨(some 95), none, .app 3 1 8 (.t 92) (.t 94)⟩, []), (⟨(some 96), none, .mv (.t 14)⟩, [0, 1, 2, 3]), (⟨(some 97), none, .mv (.t 16)⟩, [0, 1, 2, 3, 4]), (⟨(some 98), none, .bin 0 .shl (.c (.int .i64 1)) (.t 97)⟩, [0, 1, 2, 3, 4]), (⟨(some 99), none, .bin 0 .or (.t 96) (.t 98)⟩, [0, 1, 2, 3]), (⟨(some 100), none, .mv (.t 16)⟩, [0, 1, 2, 3, 4, 5, 6, 7]), (⟨(some 13), none, .mv (.t 95)⟩, [4, 5, 6, 7, 8]), (⟨(some 14), none, .mv (.t 99)⟩, [8]), (⟨(some 15), none, .mv (.t 100)⟩, [])])
 (.exit 5)) (.skip)))))
 (.ops [⟨(some 101), none, .bin 0 .add (.t 60) (.c (.int .i64 1))⟩, ⟨(some 60), none, .mv (.t 101)⟩])))))))))))
 (.seq (.any [(⟨(some 102), none, .mv (.t 13)⟩, []), (⟨(some 103), none, .load none (.t 10)⟩, [0]), (⟨(some 104), none, .mv (.t 11)⟩, [0, 1]), (⟨(some 105), none, .bin 0 .shl (.c (.int .i64 1)) (.t 104)⟩, [0, 1]), (⟨(some 106), none, .mv (.t 11)⟩, [0, 1, 2, 3]), (⟨(some 107), none, .callv (.t 103) [(.t 105), (.t 106)]⟩, [0]), (⟨(some 4), none, .mv (.t 102)⟩, []), (⟨(some 5), none, .mv (.t 107)⟩, []), (⟨(some 6), none, .mv (.c (.int .i64 0))⟩, [])])
 (.ret))))))))))))⟩
theorem c49 : compF Go.Proofs.Tryd.prog 49 = some a49 := by kernel_rfl
def a50 : AFn := ⟨12, [.t 2, .t 3], .seq (.ops [⟨(some 1), none, .box 26 (.t 0)⟩, ⟨(some 2), none, .mv (.c (.lit true 0 []))⟩, ⟨(some 3), none, .mv (.c (.int .i64 0))⟩])
 (.seq (.ops [⟨(some 4), none, .alloc 22 [(.lit true 0 [])]⟩])
 (.seq (.ops [⟨(some 5), none, .alloc 3 [(.int .i64 0)]⟩, ⟨none, none, .store 1 (.t 5) (.c (.int .i64 (-1)))⟩])
 (.seq (.ops [⟨(some 6), none, .alloc 143 [.any]⟩])
 (.seq (.ops [⟨(some 7), none, .mkfn 115 [(.t 5), (.t 1), (.t 4), (.t 6)]⟩, ⟨none, none, .store 1 (.t 6) (.t 7)⟩])
 (.seq (.ops [⟨(some 8), none, .load none (.t 6)⟩, ⟨(some 9), none, .callv (.t 8) [(.c (.lit true 0 [])), (.c (.int .i64 0))]⟩])
 (.seq (.any [(⟨(some 10), none, .load none (.t 4)⟩, []), (⟨(some 11), none, .load none (.t 5)⟩, [0]), (⟨(some 2), none, .mv (.t 10)⟩, [1]), (⟨(some 3), none, .mv (.t 11)⟩, [])])
 (.ret)))))))⟩
theorem c50 : compF Go.Proofs.Tryd.prog 50 = some a50 := by kernel_rfl
def a54 : AFn := ⟨32, [.t 6], .seq (.ops [⟨(some 6), none, .mv (.c (.bool false))⟩])
 (.seq (.seq (.ops [⟨(some 10), none, .mv (.t 0)⟩, ⟨(some 11), none, .len false (.t 10)⟩, ⟨(some 12), none, .mv (.t 1)⟩, ⟨(some 13), none, .len false (.t 12)⟩, ⟨(some 14), none, .bin 0 .neq (.t 11) (.t 13)⟩])
 (.cond (.t 14) (.seq (.ops [⟨(some 6), none, .mv (.c (.bool false))⟩])
 (.ret)) (.skip)))
 (.seq (.seq (.ops [⟨(some 15), none, .mv (.t 0)⟩, ⟨(some 16), none, .len false (.t 15)⟩, ⟨(some 17), none, .mv (.c (.int .i64 0))⟩])
 (.block 0 (.loop (.seq (.ops [⟨(some 18), none, .bin 0 .lss (.t 17) (.t 16)⟩])
 (.seq (.cond (.t 18) (.skip) (.exit 0))
 (.seq (.block 1 (.seq (.ops [⟨(some 19), none, .mv (.t 17)⟩, ⟨(some 20), none, .iadr 1 (.t 15) (.t 17)⟩, ⟨(some 21), none, .load none (.t 20)⟩, ⟨(some 7), none, .mv (.t 19)⟩, ⟨(some 8), none, .mv (.t 21)⟩])
 (.seq (.ops [⟨(some 22), none, .mv (.t 1)⟩, ⟨(some 23), none, .mv (.t 7)⟩, ⟨(some 24), none, .iadr 1 (.t 22) (.t 23)⟩, ⟨(some 25), none, .load none (.t 24)⟩, ⟨(some 9), none, .mv (.t 25)⟩])
 (.seq (.ops [⟨(some 26), none, .mv (.t 2)⟩, ⟨(some 27), none, .mv (.t 8)⟩, ⟨(some 28), none, .mv (.t 9)⟩, ⟨(some 29), none, .callv (.t 26) [(.t 27), (.t 28)]⟩, ⟨(some 30), none, .un .not (.t 29)⟩])
 (.cond (.t 30) (.seq (.ops [⟨(some 6), none, .mv (.c (.bool false))⟩])
 (.ret)) (.skip))))))
 (.ops [⟨(some 31), none, .bin 0 .add (.t 17) (.c (.int .i64 1))⟩, ⟨(some 17), none, .mv (.t 31)⟩])))))))
 (.seq (.ops [⟨(some 6), none, .mv (.c (.bool true))⟩])
 (.ret))))⟩
theorem c54 : compF Go.Proofs.Tryd.prog 54 = some a54 := by kernel_rfl
def a56 : AFn := ⟨8, [.t 2], .seq (.ops [⟨(some 2), none, .mv (.c (.lit true 0 []))⟩])
 (.seq (.seq (.ops [⟨(some 3), none, .mv (.t 0)⟩, ⟨(some 4), none, .bin 3 .eql (.t 3) (.c (.lit true 0 []))⟩])
 (.cond (.t 4) (.seq (.ops [⟨(some 2), none, .mv (.c (.lit true 0 []))⟩])
 (.ret)) (.skip)))
 (.seq (.ops [⟨(some 5), none, .bslice 3 1 0 [(.int .i64 0)] []⟩, ⟨(some 6), none, .mv (.t 0)⟩, ⟨(some 7), none, .app 3 1 8 (.t 5) (.t 6)⟩, ⟨(some 2), none, .mv (.t 7)⟩])
 (.ret)))⟩
theorem c56 : compF Go.Proofs.Tryd.prog 56 = some a56 := by kernel_rfl
def a57 : AFn := ⟨22, [.t 6], .seq (.ops [⟨(some 6), none, .mv (.c (.int .i64 0))⟩])
 (.seq (.seq (.ops [⟨(some 7), none, .mv (.t 0)⟩, ⟨(some 8), none, .call 43 [(.t 7), (.c (.int .i64 12))]⟩])
 (.cond (.t 8) (.seq (.ops [⟨(some 9), none, .mv (.t 0)⟩, ⟨(some 10), none, .mv (.t 1)⟩, ⟨(some 11), none, .bin 0 .sub (.t 10) (.c (.int .i64 1))⟩, ⟨(some 12), none, .mv (.t 2)⟩, ⟨(some 13), none, .bin 0 .add (.t 12) (.c (.int .i64 1))⟩, ⟨(some 14), none, .mv (.t 1)⟩, ⟨(some 15), none, .mv (.t 2)⟩, ⟨(some 16), none, .bslice 3 1 6 [(.int .i64 0)] [(0, 1, (.t 11)), (1, 1, (.t 13)), (2, 1, (.t 14)), (3, 1, (.t 15)), (4, 1, (.c (.int .i64 (-1099511627776)))), (5, 1, (.c (.int .i64 1099511627776)))]⟩, ⟨(some 17), none, .call 58 [(.t 9), (.t 16)]⟩, ⟨(some 6), none, .mv (.t 17)⟩])
 (.ret)) (.skip)))
 (.seq (.ops [⟨(some 18), none, .mv (.t 0)⟩, ⟨(some 19), none, .mv (.t 1)⟩, ⟨(some 20), none, .mv (.t 2)⟩, ⟨(some 21), none, .call 37 [(.t 18), (.t 19), (.t 20)]⟩, ⟨(some 6), none, .mv (.t 21)⟩])
 (.ret)))⟩
theorem c57 : compF Go.Proofs.Tryd.prog 57 = some a57 := by kernel_rfl
def a58 : AFn := ⟨12, [.t 4], .seq (.ops [⟨(some 4), none, .mv (.c (.int .i64 0))⟩])
 (.seq (.ops [⟨(some 5), none, .mv (.t 1)⟩, ⟨(some 6), none, .mv (.t 0)⟩, ⟨(some 7), none, .mv (.t 1)⟩, ⟨(some 8), none, .len false (.t 7)⟩, ⟨(some 9), none, .call 85 [(.t 6), (.t 8)]⟩, ⟨(some 10), none, .iadr 1 (.t 5) (.t 9)⟩, ⟨(some 11), none, .load none (.t 10)⟩, ⟨(some 4), none, .mv (.t 11)⟩])
 (.ret))⟩
theorem c58 : compF Go.Proofs.Tryd.prog 58 = some a58 := by kernel_rfl
def a73 : AFn := ⟨38, [.t 4], .seq (.ops [⟨(some 4), none, .mv (.c (.lit true 0 []))⟩])
 (.seq (.ops [⟨(some 5), none, .mv (.c (.lit true 0 []))⟩])
 (.seq (.seq (.ops [⟨(some 10), none, .mv (.t 1)⟩, ⟨(some 11), none, .mv (.c (.int .i64 0))⟩])
 (.block 0 (.loop (.seq (.ops [⟨(some 12), none, .bin 0 .lss (.t 11) (.t 10)⟩])
 (.seq (.cond (.t 12) (.skip) (.exit 0))
 (.seq (.block 1 (.seq (.ops [⟨(some 13), none, .mv (.t 11)⟩, ⟨(some 6), none, .mv (.t 13)⟩])
 (.seq (.ops [⟨(some 14), none, .mv (.t 0)⟩, ⟨(some 15), none, .len false (.t 14)⟩, ⟨(some 16), none, .mks 5 1 1 [(.int .u8 0)] (.t 15)⟩, ⟨(some 7), none, .mv (.t 16)⟩])
 (.seq (.seq (.ops [⟨(some 17), none, .mv (.t 0)⟩, ⟨(some 18), none, .len false (.t 17)⟩, ⟨(some 19), none, .mv (.c (.int .i64 0))⟩])
 (.block 2 (.loop (.seq (.ops [⟨(some 20), none, .bin 0 .lss (.t 19) (.t 18)⟩])
 (.seq (.cond (.t 20) (.skip) (.exit 2))
 (.seq (.block 3 (.seq (.ops [⟨(some 21), none, .mv (.t 19)⟩, ⟨(some 22), none, .iadr 1 (.t 17) (.t 19)⟩, ⟨(some 23), none, .load none (.t 22)⟩, ⟨(some 8), none, .mv (.t 21)⟩, ⟨(some 9), none, .mv (.t 23)⟩])
 (.ops [⟨(some 24), none, .mv (.t 7)⟩, ⟨(some 25), none, .mv (.t 8)⟩, ⟨(some 26), none, .mv (.t 9)⟩, ⟨(some 27), none, .mv (.t 6)⟩, ⟨(some 28), none, .idxs (.t 26) (.t 27)⟩, ⟨(some 29), none, .iadr 1 (.t 24) (.t 25)⟩, ⟨none, none, .store 1 (.t 29) (.t 28)⟩])))
 (.ops [⟨(some 30), none, .bin 0 .add (.t 19) (.c (.int .i64 1))⟩, ⟨(some 19), none, .mv (.t 30)⟩])))))))
 (.ops [⟨(some 31), none, .mv (.t 5)⟩, ⟨(some 32), none, .mv (.t 7)⟩, ⟨(some 33), none, .b2s (.t 32)⟩, ⟨(some 34), none, .bslice 9 1 1 [(.str [])] [(0, 1, (.t 33))]⟩, ⟨(some 35), none, .app 9 1 16 (.t 31) (.t 34)⟩, ⟨(some 5), none, .mv (.t 35)⟩])))))
 (.ops [⟨(some 36), none, .bin 0 .add (.t 11) (.c (.int .i64 1))⟩, ⟨(some 11), none, .mv (.t 36)⟩])))))))
 (.seq (.ops [⟨(some 37), none, .mv (.t 5)⟩, ⟨(some 4), none, .mv (.t 37)⟩])
 (.ret))))⟩
theorem c73 : compF Go.Proofs.Tryd.prog 73 = some a73 := by kernel_rfl
def a75 : AFn := ⟨38, [.t 4, .t 5], .seq (.ops [⟨(some 4), none, .mv (.c (.int .i64 0))⟩, ⟨(some 5), none, .mv (.c (.lit true 0 []))⟩])
 (.seq (.ops [⟨(some 9), none, .mmk (.i .u64) (.bool false)⟩, ⟨(some 6), none, .mv (.t 9)⟩])
 (.seq (.seq (.ops [⟨(some 10), none, .mv (.t 0)⟩, ⟨(some 11), none, .len false (.t 10)⟩, ⟨(some 12), none, .mv (.c (.int .i64 0))⟩])
 (.block 0 (.loop (.seq (.ops [⟨(some 13), none, .bin 0 .lss (.t 12) (.t 11)⟩])
 (.seq (.cond (.t 13) (.skip) (.exit 0))
 (.seq (.block 1 (.seq (.ops [⟨(some 14), none, .iadr 1 (.t 10) (.t 12)⟩, ⟨(some 15), none, .load none (.t 14)⟩, ⟨(some 8), none, .mv (.t 15)⟩])
 (.seq (.ops [⟨(some 16), none, .mv (.t 6)⟩, ⟨(some 17), none, .mv (.t 8)⟩, ⟨(some 18), none, .mv (.t 1)⟩, ⟨(some 19), none, .bin 0 .and (.t 17) (.t 18)⟩, ⟨none, none, .mup (.i .u64) (.t 16) (.t 19) (.c (.bool true))⟩])
 (.ops [⟨(some 20), none, .mv (.t 5)⟩, ⟨(some 21), none, .mv (.t 8)⟩, ⟨(some 22), none, .mv (.t 1)⟩, ⟨(some 23), none, .bin 0 .and (.t 21) (.t 22)⟩, ⟨(some 24), none, .bin 0 .neq (.t 23) (.c (.int .u64 0))⟩, ⟨(some 25), none, .mv (.t 24)⟩, ⟨(some 26), (some (25, true)), .mv (.t 8)⟩, ⟨(some 27), (some (25, true)), .mv (.t 1)⟩, ⟨(some 28), (some (25, true)), .bin 0 .and (.t 26) (.t 27)⟩, ⟨(some 29), (some (25, true)), .mv (.t 1)⟩, ⟨(some 30), (some (25, true)), .bin 0 .neq (.t 28) (.t 29)⟩, ⟨(some 31), none, .pick (.t 25) (.t 30) (.c (.bool false))⟩, ⟨(some 32), none, .bslice 4 1 1 [(.bool false)] [(0, 1, (.t 31))]⟩, ⟨(some 33), none, .app 4 1 1 (.t 20) (.t 32)⟩, ⟨(some 5), none, .mv (.t 33)⟩]))))
 (.ops [⟨(some 34), none, .bin 0 .add (.t 12) (.c (.int .i64 1))⟩, ⟨(some 12), none, .mv (.t 34)⟩])))))))
 (.seq (.ops [⟨(some 35), none, .mv (.t 6)⟩, ⟨(some 36), none, .mlen (.t 35)⟩, ⟨(some 37), none, .mv (.t 5)⟩, ⟨(some 4), none, .mv (.t 36)⟩, ⟨(some 5), none, .mv (.t 37)⟩])
 (.ret))))⟩
theorem c75 : compF Go.Proofs.Tryd.prog 75 = some a75 := by kernel_rfl
def a76 : AFn := ⟨8, [.t 2], .seq (.ops [⟨(some 2), none, .mv (.c (.int .i64 0))⟩])
 (.seq (.cond (.c (.bool false)) (.seq (.ops [⟨(some 3), none, .mv (.t 0)⟩, ⟨(some 4), none, .conv .u32 (.t 3)⟩, ⟨(some 5), none, .call 130 [(.t 4)]⟩, ⟨(some 2), none, .mv (.t 5)⟩])
 (.ret)) (.skip))
 (.seq (.ops [⟨(some 6), none, .mv (.t 0)⟩, ⟨(some 7), none, .call 131 [(.t 6)]⟩, ⟨(some 2), none, .mv (.t 7)⟩])
 (.ret)))⟩
theorem c76 : compF Go.Proofs.Tryd.prog 76 = some a76 := by kernel_rfl
def a77 : AFn := ⟨26, [.t 4], .seq (.ops [⟨(some 4), none, .mv (.c (.bool false))⟩])
 (.seq (.seq (.ops [⟨(some 6), none, .mv (.t 0)⟩, ⟨(some 7), none, .len false (.t 6)⟩, ⟨(some 8), none, .mv (.t 1)⟩, ⟨(some 9), none, .len false (.t 8)⟩, ⟨(some 10), none, .bin 0 .neq (.t 7) (.t 9)⟩])
 (.cond (.t 10) (.seq (.ops [⟨(some 4), none, .mv (.c (.bool false))⟩])
 (.ret)) (.skip)))
 (.seq (.seq (.ops [⟨(some 11), none, .mv (.t 0)⟩, ⟨(some 12), none, .len false (.t 11)⟩, ⟨(some 13), none, .mv (.c (.int .i64 0))⟩])
 (.block 0 (.loop (.seq (.ops [⟨(some 14), none, .bin 0 .lss (.t 13) (.t 12)⟩])
 (.seq (.cond (.t 14) (.skip) (.exit 0))
 (.seq (.block 1 (.seq (.ops [⟨(some 15), none, .mv (.t 13)⟩, ⟨(some 5), none, .mv (.t 15)⟩])
 (.seq (.any [(⟨(some 16), none, .mv (.t 0)⟩, []), (⟨(some 17), none, .mv (.t 5)⟩, [0]), (⟨(some 18), none, .iadr 1 (.t 16) (.t 17)⟩, []), (⟨(some 19), none, .load none (.t 18)⟩, []), (⟨(some 20), none, .mv (.t 1)⟩, [0, 1, 2, 3]), (⟨(some 21), none, .mv (.t 5)⟩, [0, 1, 2, 3, 4]), (⟨(some 22), none, .iadr 1 (.t 20) (.t 21)⟩, [0, 1, 2, 3]), (⟨(some 23), none, .load none (.t 22)⟩, [0, 1, 2, 3]), (⟨(some 24), none, .bin 2 .neq (.t 19) (.t 23)⟩, [])])
 (.cond (.t 24) (.seq (.ops [⟨(some 4), none, .mv (.c (.bool false))⟩])
 (.ret)) (.skip)))))
 (.ops [⟨(some 25), none, .bin 0 .add (.t 13) (.c (.int .i64 1))⟩, ⟨(some 13), none, .mv (.t 25)⟩])))))))
 (.seq (.ops [⟨(some 4), none, .mv (.c (.bool true))⟩])
 (.ret))))⟩
theorem c77 : compF Go.Proofs.Tryd.prog 77 = some a77 := by kernel_rfl
def a78 : AFn := ⟨5, [.t 2], .seq (.ops [⟨(some 2), none, .mv (.c (.int .i64 0))⟩])
 (.seq (.seq (.ops [⟨(some 3), none, .mv (.t 0)⟩, ⟨(some 4), none, .call 91 [(.t 3), (.c (.int .i64 1)), (.c (.int .i64 100))]⟩])
 (.cond (.t 4) (.seq (.ops [⟨(some 2), none, .mv (.c (.int .i64 1))⟩])
 (.ret)) (.skip)))
 (.seq (.ops [⟨(some 2), none, .mv (.c (.int .i64 0))⟩])
 (.ret)))⟩
theorem c78 : compF Go.Proofs.Tryd.prog 78 = some a78 := by kernel_rfl
def a79 : AFn := ⟨12, [.t 4], .seq (.ops [⟨(some 4), none, .mv (.c (.int .i64 0))⟩])
 (.seq (.block 0 (.loop (.seq (.seq (.ops [⟨(some 5), none, .mv (.t 1)⟩, ⟨(some 6), none, .mv (.t 0)⟩, ⟨(some 7), none, .callv (.t 5) [(.t 6)]⟩, ⟨(some 8), none, .un .not (.t 7)⟩])
 (.cond (.t 8) (.skip) (.exit 0)))
 (.block 1 (.ops [⟨(some 9), none, .mv (.t 0)⟩, ⟨(some 10), none, .bin 0 .add (.t 9) (.c (.int .i64 1))⟩, ⟨(some 0), none, .mv (.t 10)⟩])))))
 (.seq (.ops [⟨(some 11), none, .mv (.t 0)⟩, ⟨(some 4), none, .mv (.t 11)⟩])
 (.ret)))⟩
theorem c79 : compF Go.Proofs.Tryd.prog 79 = some a79 := by kernel_rfl
def a80 : AFn := ⟨9, [.t 3], .seq (.ops [⟨(some 3), none, .mv (.c (.bool false))⟩])
 (.seq (.any [(⟨(some 4), none, .mv (.t 0)⟩, []), (⟨(some 5), none, .bin 0 .shl (.c (.int .i64 1)) (.t 4)⟩, []), (⟨(some 6), none, .bin 0 .sub (.t 5) (.c (.int .i64 2))⟩, []), (⟨(some 7), none, .load none (.t 1)⟩, [0, 1, 2]), (⟨(some 8), none, .bin 0 .geq (.t 6) (.t 7)⟩, []), (⟨(some 3), none, .mv (.t 8)⟩, [])])
 (.ret))⟩
theorem c80 : compF Go.Proofs.Tryd.prog 80 = some a80 := by kernel_rfl
def a81 : AFn := ⟨24, [.t 4], .seq (.ops [⟨(some 4), none, .mv (.c (.str []))⟩])
 (.seq (.ops [⟨(some 5), none, .mv (.c (.lit true 0 []))⟩])
 (.seq (.seq (.ops [⟨(some 7), none, .mv (.t 1)⟩, ⟨(some 8), none, .bin 0 .sub (.t 7) (.c (.int .i64 1))⟩, ⟨(some 6), none, .mv (.t 8)⟩])
 (.block 0 (.loop (.seq (.seq (.ops [⟨(some 9), none, .mv (.t 6)⟩, ⟨(some 10), none, .bin 0 .geq (.t 9) (.c (.int .i64 0))⟩])
 (.cond (.t 10) (.skip) (.exit 0)))
 (.seq (.block 1 (.ops [⟨(some 13), none, .mv (.t 5)⟩, ⟨(some 14), none, .mv (.t 0)⟩, ⟨(some 15), none, .mv (.t 6)⟩, ⟨(some 16), none, .bin 0 .shr (.t 14) (.t 15)⟩, ⟨(some 17), none, .bin 0 .and (.t 16) (.c (.int .i64 1))⟩, ⟨(some 18), none, .bin 0 .add (.c (.int .i64 48)) (.t 17)⟩, ⟨(some 19), none, .conv .u8 (.t 18)⟩, ⟨(some 20), none, .bslice 5 1 1 [(.int .u8 0)] [(0, 1, (.t 19))]⟩, ⟨(some 21), none, .app 5 1 1 (.t 13) (.t 20)⟩, ⟨(some 5), none, .mv (.t 21)⟩]))
 (.ops [⟨(some 11), none, .mv (.t 6)⟩, ⟨(some 12), none, .bin 0 .sub (.t 11) (.c (.int .i64 1))⟩, ⟨(some 6), none, .mv (.t 12)⟩]))))))
 (.seq (.ops [⟨(some 22), none, .mv (.t 5)⟩, ⟨(some 23), none, .b2s (.t 22)⟩, ⟨(some 4), none, .mv (.t 23)⟩])
 (.ret))))⟩
theorem c81 : compF Go.Proofs.Tryd.prog 81 = some a81 := by kernel_rfl
def a84 : AFn := ⟨16, [.t 4], .seq (.ops [⟨(some 4), none, .mv (.c (.str []))⟩])
 (.seq (.ops [⟨(some 5), none, .mv (.c (.str []))⟩])
 (.seq (.seq (.ops [⟨(some 6), none, .mv (.t 1)⟩, ⟨(some 7), none, .mv (.c (.int .i64 0))⟩])
 (.block 0 (.loop (.seq (.ops [⟨(some 8), none, .bin 0 .lss (.t 7) (.t 6)⟩])
 (.seq (.cond (.t 8) (.skip) (.exit 0))
 (.seq (.block 1 (.ops [⟨(some 9), none, .mv (.t 5)⟩, ⟨(some 10), none, .mv (.t 0)⟩, ⟨(some 11), none, .bslice 9 1 2 [(.str [])] [(0, 1, (.c (.str [48]))), (1, 1, (.c (.str [49])))]⟩, ⟨(some 12), none, .call 86 [(.t 10), (.t 11)]⟩, ⟨(some 13), none, .bin 1 .add (.t 9) (.t 12)⟩, ⟨(some 5), none, .mv (.t 13)⟩]))
 (.ops [⟨(some 14), none, .bin 0 .add (.t 7) (.c (.int .i64 1))⟩, ⟨(some 7), none, .mv (.t 14)⟩])))))))
 (.seq (.ops [⟨(some 15), none, .mv (.t 5)⟩, ⟨(some 4), none, .mv (.t 15)⟩])
 (.ret))))⟩
theorem c84 : compF Go.Proofs.Tryd.prog 84 = some a84 := by kernel_rfl
def a85 : AFn := ⟨64, [.t 4], .seq (.ops [⟨(some 4), none, .mv (.c (.int .i64 0))⟩])
 (.seq (.ops [⟨(some 7), none, .mv (.t 0)⟩, ⟨(some 8), none, .nilchk (.t 7)⟩, ⟨(some 9), none, .fadr 1 (.t 8)⟩, ⟨(some 10), none, .load none (.t 9)⟩, ⟨(some 11), none, .bin 0 .add (.t 10) (.c (.int .i64 1))⟩, ⟨(some 12), none, .nilchk (.t 7)⟩, ⟨(some 13), none, .fadr 1 (.t 12)⟩, ⟨none, none, .store 1 (.t 13) (.t 11)⟩])
 (.seq (.seq (.ops [⟨(some 14), none, .mv (.t 0)⟩, ⟨(some 15), none, .nilchk (.t 14)⟩, ⟨(some 16), none, .fadr 0 (.t 15)⟩, ⟨(some 17), none, .load none (.t 16)⟩, ⟨(some 18), none, .len false (.t 17)⟩, ⟨(some 19), none, .bin 0 .eql (.t 18) (.c (.int .i64 0))⟩])
 (.cond (.t 19) (.seq (.ops [⟨(some 20), none, .mv (.t 0)⟩, ⟨(some 21), none, .nilchk (.t 20)⟩, ⟨(some 22), none, .fadr 1 (.t 21)⟩, ⟨(some 23), none, .load none (.t 22)⟩, ⟨(some 24), none, .bin 0 .mul (.t 23) (.c (.int .i64 7919))⟩, ⟨(some 25), none, .mv (.t 1)⟩, ⟨(some 26), none, .call 137 [(.t 24), (.t 25)]⟩, ⟨(some 4), none, .mv (.t 26)⟩])
 (.ret)) (.skip)))
 (.seq (.any [(⟨(some 27), none, .mv (.t 0)⟩, []), (⟨(some 28), none, .nilchk (.t 27)⟩, []), (⟨(some 29), none, .fadr 1 (.t 28)⟩, []), (⟨(some 30), none, .load none (.t 29)⟩, []), (⟨(some 31), none, .bin 0 .sub (.t 30) (.c (.int .i64 1))⟩, []), (⟨(some 32), none, .mv (.t 0)⟩, [0, 1, 2, 3, 4]), (⟨(some 33), none, .nilchk (.t 32)⟩, [0, 1, 2, 3, 4]), (⟨(some 34), none, .fadr 0 (.t 33)⟩, [0, 1, 2, 3, 4]), (⟨(some 35), none, .load none (.t 34)⟩, [0, 1, 2, 3, 4]), (⟨(some 36), none, .len false (.t 35)⟩, [0, 1, 2, 3, 4]), (⟨(some 37), none, .bin 0 .rem (.t 31) (.t 36)⟩, []), (⟨(some 5), none, .mv (.t 37)⟩, [])])
 (.seq (.any [(⟨(some 38), none, .mv (.t 0)⟩, []), (⟨(some 39), none, .nilchk (.t 38)⟩, []), (⟨(some 40), none, .fadr 1 (.t 39)⟩, []), (⟨(some 41), none, .load none (.t 40)⟩, []), (⟨(some 42), none, .bin 0 .sub (.t 41) (.c (.int .i64 1))⟩, []), (⟨(some 43), none, .mv (.t 0)⟩, [0, 1, 2, 3, 4]), (⟨(some 44), none, .nilchk (.t 43)⟩, [0, 1, 2, 3, 4]), (⟨(some 45), none, .fadr 0 (.t 44)⟩, [0, 1, 2, 3, 4]), (⟨(some 46), none, .load none (.t 45)⟩, [0, 1, 2, 3, 4]), (⟨(some 47), none, .len false (.t 46)⟩, [0, 1, 2, 3, 4]), (⟨(some 48), none, .bin 0 .quo (.t 42) (.t 47)⟩, []), (⟨(some 6), none, .mv (.t 48)⟩, [])])
 (.seq (.ops [⟨(some 49), none, .mv (.t 0)⟩, ⟨(some 50), none, .nilchk (.t 49)⟩, ⟨(some 51), none, .fadr 0 (.t 50)⟩, ⟨(some 52), none, .load none (.t 51)⟩, ⟨(some 53), none, .mv (.t 5)⟩, ⟨(some 54), none, .iadr 1 (.t 52) (.t 53)⟩, ⟨(some 55), none, .load none (.t 54)⟩, ⟨(some 56), none, .call 137 [(.t 55), (.c (.int .i64 1073741824))]⟩, ⟨(some 57), none, .mv (.t 6)⟩, ⟨(some 58), none, .mv (.t 5)⟩, ⟨(some 59), none, .bin 0 .add (.c (.int .i64 7919)) (.t 58)⟩, ⟨(some 60), none, .bin 0 .mul (.t 57) (.t 59)⟩, ⟨(some 61), none, .bin 0 .add (.t 56) (.t 60)⟩, ⟨(some 62), none, .mv (.t 1)⟩, ⟨(some 63), none, .call 137 [(.t 61), (.t 62)]⟩, ⟨(some 4), none, .mv (.t 63)⟩])
 (.ret))))))⟩
theorem c85 : compF Go.Proofs.Tryd.prog 85 = some a85 := by kernel_rfl
def a86 : AFn := ⟨12, [.t 4], .seq (.ops [⟨(some 4), none, .mv (.c (.str []))⟩])
 (.seq (.ops [⟨(some 5), none, .mv (.t 1)⟩, ⟨(some 6), none, .mv (.t 0)⟩, ⟨(some 7), none, .mv (.t 1)⟩, ⟨(some 8), none, .len false (.t 7)⟩, ⟨(some 9), none, .call 85 [(.t 6), (.t 8)]⟩, ⟨(some 10), none, .iadr 1 (.t 5) (.t 9)⟩, ⟨(some 11), none, .load none (.t 10)⟩, ⟨(some 4), none, .mv (.t 11)⟩])
 (.ret))⟩
theorem c86 : compF Go.Proofs.Tryd.prog 86 = some a86 := by kernel_rfl
def a87 : AFn := ⟨63, [.t 6], .seq (.ops [⟨(some 6), none, .mv (.c (.str []))⟩])
 (.seq (.seq (.ops [⟨(some 9), none, .mv (.t 1)⟩, ⟨(some 10), none, .bin 1 .eql (.t 9) (.c (.str []))⟩, ⟨(some 11), none, .mv (.t 10)⟩, ⟨(some 12), (some (11, false)), .mv (.t 2)⟩, ⟨(some 13), (some (11, false)), .bin 1 .eql (.t 12) (.c (.str []))⟩, ⟨(some 14), none, .pick (.t 11) (.c (.bool true)) (.t 13)⟩])
 (.cond (.t 14) (.seq (.ops [⟨(some 15), none, .mv (.t 2)⟩, ⟨(some 6), none, .mv (.t 15)⟩])
 (.ret)) (.skip)))
 (.seq (.ops [⟨(some 16), none, .mv (.t 0)⟩, ⟨(some 17), none, .mv (.t 1)⟩, ⟨(some 18), none, .len true (.t 17)⟩, ⟨(some 19), none, .call 85 [(.t 16), (.t 18)]⟩, ⟨(some 7), none, .mv (.t 19)⟩])
 (.seq (.ops [⟨(some 20), none, .mv (.t 2)⟩, ⟨(some 21), none, .mv (.t 0)⟩, ⟨(some 22), none, .mv (.t 2)⟩, ⟨(some 23), none, .len true (.t 22)⟩, ⟨(some 24), none, .call 85 [(.t 21), (.t 23)]⟩, ⟨(some 25), none, .idxs (.t 20) (.t 24)⟩, ⟨(some 8), none, .mv (.t 25)⟩])
 (.seq (.seq (.ops [⟨(some 26), none, .mv (.t 0)⟩, ⟨(some 27), none, .call 85 [(.t 26), (.c (.int .i64 3))]⟩])
 (.block 0 (.seq (.ops [⟨(some 29), none, .bin 0 .eql (.t 27) (.c (.int .i64 0))⟩, ⟨(some 28), none, .mv (.t 29)⟩])
 (.cond (.t 28) (.seq (.any [(⟨(some 30), none, .mv (.t 1)⟩, []), (⟨(some 31), none, .mv (.t 7)⟩, [0]), (⟨(some 32), none, .sls (.t 30) none (some (.t 31))⟩, []), (⟨(some 33), none, .mv (.t 8)⟩, [0, 1, 2]), (⟨(some 34), none, .conv .i32 (.t 33)⟩, [0, 1, 2]), (⟨(some 35), none, .i2s (.t 34)⟩, [0, 1, 2]), (⟨(some 36), none, .bin 1 .add (.t 32) (.t 35)⟩, []), (⟨(some 37), none, .mv (.t 1)⟩, [0, 1, 2, 3, 4, 5, 6]), (⟨(some 38), none, .mv (.t 7)⟩, [0, 1, 2, 3, 4, 5, 6, 7]), (⟨(some 39), none, .bin 0 .add (.t 38) (.c (.int .i64 1))⟩, [0, 1, 2, 3, 4, 5, 6, 7]), (⟨(some 40), none, .sls (.t 37) (some (.t 39)) none⟩, [0, 1, 2, 3, 4, 5, 6]), (⟨(some 41), none, .bin 1 .add (.t 36) (.t 40)⟩, []), (⟨(some 6), none, .mv (.t 41)⟩, [])])
 (.ret)) (.seq (.ops [⟨(some 43), none, .bin 0 .eql (.t 27) (.c (.int .i64 1))⟩, ⟨(some 42), none, .mv (.t 43)⟩])
 (.cond (.t 42) (.seq (.any [(⟨(some 44), none, .mv (.t 1)⟩, []), (⟨(some 45), none, .mv (.t 7)⟩, [0]), (⟨(some 46), none, .sls (.t 44) none (some (.t 45))⟩, []), (⟨(some 47), none, .mv (.t 8)⟩, [0, 1, 2]), (⟨(some 48), none, .conv .i32 (.t 47)⟩, [0, 1, 2]), (⟨(some 49), none, .i2s (.t 48)⟩, [0, 1, 2]), (⟨(some 50), none, .bin 1 .add (.t 46) (.t 49)⟩, []), (⟨(some 51), none, .mv (.t 1)⟩, [0, 1, 2, 3, 4, 5, 6]), (⟨(some 52), none, .mv (.t 7)⟩, [0, 1, 2, 3, 4, 5, 6, 7]), (⟨(some 53), none, .sls (.t 51) (some (.t 52)) none⟩, [0, 1, 2, 3, 4, 5, 6]), (⟨(some 54), none, .bin 1 .add (.t 50) (.t 53)⟩, []), (⟨(some 6), none, .mv (.t 54)⟩, [])])
 (.ret)) (.skip)))))))
 (.seq (.any [(⟨(some 55), none, .mv (.t 1)⟩, []), (⟨(some 56), none, .mv (.t 7)⟩, [0]), (⟨(some 57), none, .sls (.t 55) none (some (.t 56))⟩, []), (⟨(some 58), none, .mv (.t 1)⟩, [0, 1, 2]), (⟨(some 59), none, .mv (.t 7)⟩, [0, 1, 2, 3]), (⟨(some 60), none, .bin 0 .add (.t 59) (.c (.int .i64 1))⟩, [0, 1, 2, 3]), (⟨(some 61), none, .sls (.t 58) (some (.t 60)) none⟩, [0, 1, 2]), (⟨(some 62), none, .bin 1 .add (.t 57) (.t 61)⟩, []), (⟨(some 6), none, .mv (.t 62)⟩, [])])
 (.ret))))))⟩
theorem c87 : compF Go.Proofs.Tryd.prog 87 = some a87 := by kernel_rfl
def a89 : AFn := ⟨15, [.t 6], .seq (.ops [⟨(some 6), none, .mv (.c (.bool false))⟩])
 (.seq (.ops [⟨(some 7), none, .mv (.t 1)⟩, ⟨(some 8), none, .mv (.t 0)⟩, ⟨(some 9), none, .bin 0 .leq (.t 7) (.t 8)⟩, ⟨(some 10), none, .mv (.t 9)⟩, ⟨(some 11), (some (10, true)), .mv (.t 0)⟩, ⟨(some 12), (some (10, true)), .mv (.t 2)⟩, ⟨(some 13), (some (10, true)), .bin 0 .leq (.t 11) (.t 12)⟩, ⟨(some 14), none, .pick (.t 10) (.t 13) (.c (.bool false))⟩, ⟨(some 6), none, .mv (.t 14)⟩])
 (.ret))⟩
theorem c89 : compF Go.Proofs.Tryd.prog 89 = some a89 := by kernel_rfl
def a90 : AFn := ⟨6, [.t 2], .seq (.ops [⟨(some 2), none, .mv (.c (.int .i64 0))⟩])
 (.seq (.seq (.ops [⟨(some 3), none, .mv (.t 0)⟩, ⟨(some 4), none, .call 138 [(.t 3), (.c (.str [48, 49]))]⟩, ⟨(some 5), none, .bin 1 .neq (.t 4) (.c (.str []))⟩])
 (.cond (.t 5) (.seq (.ops [⟨(some 2), none, .mv (.c (.int .i64 9))⟩])
 (.ret)) (.skip)))
 (.seq (.ops [⟨(some 2), none, .mv (.c (.int .i64 0))⟩])
 (.ret)))⟩
theorem c90 : compF Go.Proofs.Tryd.prog 90 = some a90 := by kernel_rfl
def a91 : AFn := ⟨15, [.t 6], .seq (.ops [⟨(some 6), none, .mv (.c (.bool false))⟩])
 (.seq (.ops [⟨(some 7), none, .mv (.t 0)⟩, ⟨(some 8), none, .mv (.t 1)⟩, ⟨(some 9), none, .bin 0 .lss (.t 7) (.t 8)⟩, ⟨(some 10), none, .mv (.t 9)⟩, ⟨(some 11), (some (10, false)), .mv (.t 0)⟩, ⟨(some 12), (some (10, false)), .mv (.t 2)⟩, ⟨(some 13), (some (10, false)), .bin 0 .gtr (.t 11) (.t 12)⟩, ⟨(some 14), none, .pick (.t 10) (.c (.bool true)) (.t 13)⟩, ⟨(some 6), none, .mv (.t 14)⟩])
 (.ret))⟩
theorem c91 : compF Go.Proofs.Tryd.prog 91 = some a91 := by kernel_rfl
def a92 : AFn := ⟨6, [.t 2], .seq (.ops [⟨(some 2), none, .mv (.c (.bool false))⟩])
 (.seq (.ops [⟨(some 3), none, .mv (.t 0)⟩, ⟨(some 4), none, .call 138 [(.t 3), (.c (.str [48, 49]))]⟩, ⟨(some 5), none, .bin 1 .eql (.t 4) (.c (.str []))⟩, ⟨(some 2), none, .mv (.t 5)⟩])
 (.ret))⟩
theorem c92 : compF Go.Proofs.Tryd.prog 92 = some a92 := by kernel_rfl
def a105 : AFn := ⟨29, [.t 4], .seq (.ops [⟨(some 4), none, .mv (.c (.lit true 0 []))⟩])
 (.seq (.ops [⟨(some 9), none, .mv (.t 0)⟩, ⟨(some 10), none, .call 144 [(.t 9)]⟩, ⟨(some 5), none, .mv (.t 10)⟩])
 (.seq (.ops [⟨(some 6), none, .mv (.c (.lit true 0 []))⟩])
 (.seq (.seq (.ops [⟨(some 11), none, .mv (.t 1)⟩, ⟨(some 12), none, .len false (.t 11)⟩, ⟨(some 13), none, .mv (.c (.int .i64 0))⟩])
 (.block 0 (.loop (.seq (.ops [⟨(some 14), none, .bin 0 .lss (.t 13) (.t 12)⟩])
 (.seq (.cond (.t 14) (.skip) (.exit 0))
 (.seq (.block 1 (.seq (.ops [⟨(some 15), none, .iadr 2 (.t 11) (.t 13)⟩, ⟨(some 16), none, .load (some 2) (.t 15)⟩, ⟨(some 8), none, .alloc 128 [(.int .i64 0), (.lit true 0 [])]⟩, ⟨none, none, .store 2 (.t 8) (.t 16)⟩])
 (.any [(⟨(some 17), none, .mv (.t 6)⟩, []), (⟨(some 18), none, .mv (.t 5)⟩, [0]), (⟨(some 19), none, .load (some 2) (.t 8)⟩, [0, 1]), (⟨(some 20), none, .mv (.t 0)⟩, [0, 1, 2]), (⟨(some 21), none, .iadr 1 (.t 20) (.c (.int .i64 0))⟩, [0, 1, 2]), (⟨(some 22), none, .load none (.t 21)⟩, [0, 1, 2]), (⟨(some 23), none, .len true (.t 22)⟩, [0, 1, 2]), (⟨(some 24), none, .call 145 [(.t 18), (.t 19), (.t 23)]⟩, [0]), (⟨(some 25), none, .bslice 132 1 1 [(.int .u64 0)] [(0, 1, (.t 24))]⟩, [0]), (⟨(some 26), none, .app 132 1 8 (.t 17) (.t 25)⟩, []), (⟨(some 6), none, .mv (.t 26)⟩, [])])))
 (.ops [⟨(some 27), none, .bin 0 .add (.t 13) (.c (.int .i64 1))⟩, ⟨(some 13), none, .mv (.t 27)⟩])))))))
 (.seq (.ops [⟨(some 28), none, .mv (.t 6)⟩, ⟨(some 4), none, .mv (.t 28)⟩])
 (.ret)))))⟩
def a107 : AFn := ⟨30, [.t 4, .t 5], .seq (.ops [⟨(some 4), none, .mv (.c (.int .u64 0))⟩, ⟨(some 5), none, .mv (.c (.int .u64 0))⟩])
 (.seq (.cond (.c (.bool false)) (.seq (.ops [⟨(some 11), none, .mv (.t 0)⟩, ⟨(some 12), none, .conv .u32 (.t 11)⟩, ⟨(some 13), none, .mv (.t 1)⟩, ⟨(some 14), none, .conv .u32 (.t 13)⟩, ⟨(some 15), none, .call 147 [(.t 12), (.t 14)]⟩, ⟨(some 10), none, .mv (.t 15)⟩, ⟨(some 16), none, .ext (.t 10) 0⟩, ⟨(some 17), none, .ext (.t 10) 1⟩, ⟨(some 6), none, .mv (.t 16)⟩, ⟨(some 7), none, .mv (.t 17)⟩])
 (.seq (.ops [⟨(some 18), none, .mv (.t 6)⟩, ⟨(some 19), none, .conv .u64 (.t 18)⟩, ⟨(some 20), none, .mv (.t 7)⟩, ⟨(some 21), none, .conv .u64 (.t 20)⟩, ⟨(some 4), none, .mv (.t 19)⟩, ⟨(some 5), none, .mv (.t 21)⟩])
 (.ret))) (.skip))
 (.seq (.ops [⟨(some 23), none, .mv (.t 0)⟩, ⟨(some 24), none, .mv (.t 1)⟩, ⟨(some 25), none, .call 148 [(.t 23), (.t 24)]⟩, ⟨(some 22), none, .mv (.t 25)⟩, ⟨(some 26), none, .ext (.t 22) 0⟩, ⟨(some 27), none, .ext (.t 22) 1⟩, ⟨(some 8), none, .mv (.t 26)⟩, ⟨(some 9), none, .mv (.t 27)⟩])
 (.seq (.ops [⟨(some 28), none, .mv (.t 8)⟩, ⟨(some 29), none, .mv (.t 9)⟩, ⟨(some 4), none, .mv (.t 28)⟩, ⟨(some 5), none, .mv (.t 29)⟩])
 (.ret))))⟩
theorem c107 : compF Go.Proofs.Tryd.prog 107 = some a107 := by kernel_rfl
def a108 : AFn := ⟨40, [.t 4], .seq (.ops [⟨(some 4), none, .mv (.c (.lit true 0 []))⟩])
 (.seq (.ops [⟨(some 8), none, .mv (.t 0)⟩, ⟨(some 9), none, .bin 0 .shl (.c (.int .i64 1)) (.t 8)⟩, ⟨(some 10), none, .bin 0 .sub (.t 9) (.c (.int .i64 1))⟩, ⟨(some 11), none, .mv (.t 0)⟩, ⟨(some 12), none, .call 149 [(.t 10), (.t 11)]⟩, ⟨(some 5), none, .mv (.t 12)⟩])
 (.seq (.seq (.ops [⟨(some 13), none, .mv (.t 0)⟩, ⟨(some 14), none, .bin 0 .shl (.c (.int .i64 1)) (.t 13)⟩, ⟨(some 15), none, .mv (.c (.int .i64 0))⟩])
 (.block 0 (.loop (.seq (.ops [⟨(some 16), none, .bin 0 .lss (.t 15) (.t 14)⟩])
 (.seq (.cond (.t 16) (.skip) (.exit 0))
 (.seq (.block 1 (.seq (.ops [⟨(some 17), none, .mv (.t 15)⟩, ⟨(some 6), none, .mv (.t 17)⟩])
 (.seq (.ops [⟨(some 18), none, .mv (.t 6)⟩, ⟨(some 19), none, .mv (.t 0)⟩, ⟨(some 20), none, .call 149 [(.t 18), (.t 19)]⟩, ⟨(some 7), none, .mv (.t 20)⟩])
 (.seq (.ops [⟨(some 21), none, .mv (.t 7)⟩, ⟨(some 22), none, .len false (.t 21)⟩, ⟨(some 23), none, .mv (.t 5)⟩, ⟨(some 24), none, .len false (.t 23)⟩, ⟨(some 25), none, .call 151 [(.t 22), (.t 24)]⟩, ⟨(some 26), none, .mv (.t 7)⟩, ⟨(some 27), none, .mv (.t 5)⟩, ⟨(some 28), none, .call 152 [(.t 26), (.t 27)]⟩, ⟨(some 29), none, .bslice 3 1 2 [(.int .i64 0)] [(0, 1, (.t 25)), (1, 1, (.t 28))]⟩, ⟨(some 30), none, .call 150 [(.t 29)]⟩, ⟨(some 31), none, .bin 0 .lss (.t 30) (.c (.int .i64 0))⟩, ⟨(some 32), none, .mv (.t 31)⟩, ⟨(some 33), (some (32, true)), .mv (.t 1)⟩, ⟨(some 34), (some (32, true)), .mv (.t 7)⟩, ⟨(some 35), (some (32, true)), .callv (.t 33) [(.t 34)]⟩, ⟨(some 36), none, .pick (.t 32) (.t 35) (.c (.bool false))⟩])
 (.cond (.t 36) (.ops [⟨(some 37), none, .mv (.t 7)⟩, ⟨(some 5), none, .mv (.t 37)⟩]) (.skip))))))
 (.ops [⟨(some 38), none, .bin 0 .add (.t 15) (.c (.int .i64 1))⟩, ⟨(some 15), none, .mv (.t 38)⟩])))))))
 (.seq (.ops [⟨(some 39), none, .mv (.t 5)⟩, ⟨(some 4), none, .mv (.t 39)⟩])
 (.ret))))⟩
theorem c108 : compF Go.Proofs.Tryd.prog 108 = some a108 := by kernel_rfl
def a109 : AFn := ⟨25, [.t 4], .seq (.ops [⟨(some 4), none, .mv (.c (.bool false))⟩])
 (.seq (.ops [⟨(some 6), none, .load none (.t 1)⟩, ⟨(some 7), none, .mv (.t 0)⟩, ⟨(some 8), none, .call 110 [(.t 6), (.t 7)]⟩, ⟨(some 5), none, .mv (.t 8)⟩])
 (.seq (.any [(⟨(some 9), none, .load none (.t 2)⟩, []), (⟨(some 10), none, .mv (.t 5)⟩, [0]), (⟨(some 11), none, .call 111 [(.t 9), (.t 10)]⟩, []), (⟨(some 12), none, .load none (.t 2)⟩, [0, 1, 2]), (⟨(some 13), none, .load none (.t 1)⟩, [0, 1, 2, 3]), (⟨(some 14), none, .call 111 [(.t 12), (.t 13)]⟩, []), (⟨(some 15), none, .call 54 [(.t 11), (.t 14), (.c (.fn 47 []))]⟩, []), (⟨(some 16), none, .mv (.t 15)⟩, []), (⟨(some 17), (some (16, true)), .load none (.t 2)⟩, []), (⟨(some 18), (some (16, true)), .mv (.t 5)⟩, [8]), (⟨(some 19), (some (16, true)), .call 112 [(.t 17), (.t 18)]⟩, []), (⟨(some 20), (some (16, true)), .load none (.t 2)⟩, [8, 9, 10]), (⟨(some 21), (some (16, true)), .load none (.t 1)⟩, [8, 9, 10, 11]), (⟨(some 22), (some (16, true)), .call 112 [(.t 20), (.t 21)]⟩, []), (⟨(some 23), (some (16, true)), .call 47 [(.t 19), (.t 22)]⟩, []), (⟨(some 24), none, .pick (.t 16) (.t 23) (.c (.bool false))⟩, []), (⟨(some 4), none, .mv (.t 24)⟩, [])])
 (.ret)))⟩
theorem c109 : compF Go.Proofs.Tryd.prog 109 = some a109 := by kernel_rfl
def a110 : AFn := ⟨23, [.t 4], .seq (.ops [⟨(some 4), none, .mv (.c (.lit true 0 []))⟩])
 (.seq (.ops [⟨(some 5), none, .mv (.c (.lit true 0 []))⟩])
 (.seq (.seq (.ops [⟨(some 8), none, .mv (.t 1)⟩, ⟨(some 9), none, .len false (.t 8)⟩, ⟨(some 10), none, .mv (.c (.int .i64 0))⟩])
 (.block 0 (.loop (.seq (.ops [⟨(some 11), none, .bin 0 .lss (.t 10) (.t 9)⟩])
 (.seq (.cond (.t 11) (.skip) (.exit 0))
 (.seq (.block 1 (.seq (.ops [⟨(some 12), none, .iadr 1 (.t 8) (.t 10)⟩, ⟨(some 13), none, .load none (.t 12)⟩, ⟨(some 7), none, .mv (.t 13)⟩])
 (.ops [⟨(some 14), none, .mv (.t 5)⟩, ⟨(some 15), none, .mv (.t 0)⟩, ⟨(some 16), none, .mv (.t 7)⟩, ⟨(some 17), none, .iadr 1 (.t 15) (.t 16)⟩, ⟨(some 18), none, .load none (.t 17)⟩, ⟨(some 19), none, .bslice 9 1 1 [(.str [])] [(0, 1, (.t 18))]⟩, ⟨(some 20), none, .app 9 1 16 (.t 14) (.t 19)⟩, ⟨(some 5), none, .mv (.t 20)⟩])))
 (.ops [⟨(some 21), none, .bin 0 .add (.t 10) (.c (.int .i64 1))⟩, ⟨(some 10), none, .mv (.t 21)⟩])))))))
 (.seq (.ops [⟨(some 22), none, .mv (.t 5)⟩, ⟨(some 4), none, .mv (.t 22)⟩])
 (.ret))))⟩
theorem c110 : compF Go.Proofs.Tryd.prog 110 = some a110 := by kernel_rfl
def a111 : AFn := ⟨60, [.t 4], .seq (.ops [⟨(some 4), none, .mv (.c (.lit true 0 []))⟩])
 (.seq (.ops [⟨(some 5), none, .mv (.c (.lit true 0 []))⟩])
 (.seq (.ops [⟨(some 10), none, .mv (.t 0)⟩, ⟨(some 11), none, .mv (.t 1)⟩, ⟨(some 12), none, .call 27 [(.t 10), (.t 11)]⟩, ⟨(some 6), none, .mv (.t 12)⟩])
 (.seq (.seq (.ops [⟨(some 13), none, .mv (.t 6)⟩, ⟨(some 14), none, .len false (.t 13)⟩, ⟨(some 15), none, .mv (.c (.int .i64 0))⟩])
 (.block 0 (.loop (.seq (.ops [⟨(some 16), none, .bin 0 .lss (.t 15) (.t 14)⟩])
 (.seq (.cond (.t 16) (.skip) (.exit 0))
 (.seq (.block 1 (.seq (.ops [⟨(some 17), none, .mv (.t 15)⟩, ⟨(some 7), none, .mv (.t 17)⟩])
 (.seq (.ops [⟨(some 18), none, .mv (.t 7)⟩, ⟨(some 19), none, .bslice 3 1 1 [(.int .i64 0)] [(0, 1, (.t 18))]⟩, ⟨(some 8), none, .mv (.t 19)⟩])
 (.seq (.seq (.ops [⟨(some 20), none, .mv (.t 7)⟩, ⟨(some 21), none, .bin 0 .add (.t 20) (.c (.int .i64 1))⟩, ⟨(some 9), none, .mv (.t 21)⟩])
 (.block 2 (.loop (.seq (.seq (.ops [⟨(some 22), none, .mv (.t 9)⟩, ⟨(some 23), none, .mv (.t 0)⟩, ⟨(some 24), none, .bin 0 .lss (.t 22) (.t 23)⟩])
 (.cond (.t 24) (.skip) (.exit 2)))
 (.seq (.block 3 (.seq (.any [(⟨(some 27), none, .mv (.t 6)⟩, []), (⟨(some 28), none, .mv (.t 9)⟩, [0]), (⟨(some 29), none, .iadr 1 (.t 27) (.t 28)⟩, []), (⟨(some 30), none, .load none (.t 29)⟩, []), (⟨(some 31), none, .mv (.t 6)⟩, [0, 1, 2, 3]), (⟨(some 32), none, .mv (.t 7)⟩, [0, 1, 2, 3, 4]), (⟨(some 33), none, .iadr 1 (.t 31) (.t 32)⟩, [0, 1, 2, 3]), (⟨(some 34), none, .load none (.t 33)⟩, [0, 1, 2, 3]), (⟨(some 35), none, .bin 1 .eql (.t 30) (.t 34)⟩, [])])
 (.cond (.t 35) (.ops [⟨(some 36), none, .mv (.t 8)⟩, ⟨(some 37), none, .mv (.t 9)⟩, ⟨(some 38), none, .bslice 3 1 1 [(.int .i64 0)] [(0, 1, (.t 37))]⟩, ⟨(some 39), none, .app 3 1 8 (.t 36) (.t 38)⟩, ⟨(some 8), none, .mv (.t 39)⟩]) (.skip))))
 (.ops [⟨(some 25), none, .mv (.t 9)⟩, ⟨(some 26), none, .bin 0 .add (.t 25) (.c (.int .i64 1))⟩, ⟨(some 9), none, .mv (.t 26)⟩]))))))
 (.seq (.any [(⟨(some 40), none, .mv (.t 8)⟩, []), (⟨(some 41), none, .len false (.t 40)⟩, []), (⟨(some 42), none, .bin 0 .gtr (.t 41) (.c (.int .i64 1))⟩, []), (⟨(some 43), none, .mv (.t 42)⟩, []), (⟨(some 44), (some (43, true)), .mv (.t 6)⟩, []), (⟨(some 45), (some (43, true)), .mv (.t 7)⟩, [4]), (⟨(some 46), (some (43, true)), .slc 1 (.t 44) none (some (.t 45))⟩, []), (⟨(some 47), (some (43, true)), .mv (.t 6)⟩, [4, 5, 6]), (⟨(some 48), (some (43, true)), .mv (.t 7)⟩, [4, 5, 6, 7]), (⟨(some 49), (some (43, true)), .iadr 1 (.t 47) (.t 48)⟩, [4, 5, 6]), (⟨(some 50), (some (43, true)), .load none (.t 49)⟩, [4, 5, 6]), (⟨(some 51), (some (43, true)), .call 153 [(.t 46), (.t 50)]⟩, []), (⟨(some 52), (some (43, true)), .un .not (.t 51)⟩, []), (⟨(some 53), none, .pick (.t 43) (.t 52) (.c (.bool false))⟩, [])])
 (.cond (.t 53) (.ops [⟨(some 54), none, .mv (.t 5)⟩, ⟨(some 55), none, .mv (.t 8)⟩, ⟨(some 56), none, .bslice 22 1 1 [(.lit true 0 [])] [(0, 1, (.t 55))]⟩, ⟨(some 57), none, .app 22 1 24 (.t 54) (.t 56)⟩, ⟨(some 5), none, .mv (.t 57)⟩]) (.skip)))))))
 (.ops [⟨(some 58), none, .bin 0 .add (.t 15) (.c (.int .i64 1))⟩, ⟨(some 15), none, .mv (.t 58)⟩])))))))
 (.seq (.ops [⟨(some 59), none, .mv (.t 5)⟩, ⟨(some 4), none, .mv (.t 59)⟩])
 (.ret)))))⟩
theorem c111 : compF Go.Proofs.Tryd.prog 111 = some a111 := by kernel_rfl
def a112 : AFn := ⟨31, [.t 4], .seq (.ops [⟨(some 4), none, .mv (.c (.lit true 0 []))⟩])
 (.seq (.ops [⟨(some 5), none, .mv (.c (.lit true 0 []))⟩])
 (.seq (.seq (.ops [⟨(some 8), none, .mv (.t 0)⟩, ⟨(some 9), none, .mv (.t 1)⟩, ⟨(some 10), none, .call 27 [(.t 8), (.t 9)]⟩, ⟨(some 11), none, .len false (.t 10)⟩, ⟨(some 12), none, .mv (.c (.int .i64 0))⟩])
 (.block 0 (.loop (.seq (.ops [⟨(some 13), none, .bin 0 .lss (.t 12) (.t 11)⟩])
 (.seq (.cond (.t 13) (.skip) (.exit 0))
 (.seq (.block 1 (.seq (.ops [⟨(some 14), none, .mv (.t 12)⟩, ⟨(some 15), none, .iadr 1 (.t 10) (.t 12)⟩, ⟨(some 16), none, .load none (.t 15)⟩, ⟨(some 6), none, .mv (.t 14)⟩, ⟨(some 7), none, .mv (.t 16)⟩])
 (.seq (.ops [⟨(some 17), none, .mv (.t 7)⟩, ⟨(some 18), none, .call 154 [(.t 17), (.c (.str [48]))]⟩, ⟨(some 19), none, .un .not (.t 18)⟩, ⟨(some 20), none, .mv (.t 19)⟩, ⟨(some 21), (some (20, false)), .mv (.t 7)⟩, ⟨(some 22), (some (20, false)), .call 154 [(.t 21), (.c (.str [49]))]⟩, ⟨(some 23), (some (20, false)), .un .not (.t 22)⟩, ⟨(some 24), none, .pick (.t 20) (.c (.bool true)) (.t 23)⟩])
 (.cond (.t 24) (.ops [⟨(some 25), none, .mv (.t 5)⟩, ⟨(some 26), none, .mv (.t 6)⟩, ⟨(some 27), none, .bslice 3 1 1 [(.int .i64 0)] [(0, 1, (.t 26))]⟩, ⟨(some 28), none, .app 3 1 8 (.t 25) (.t 27)⟩, ⟨(some 5), none, .mv (.t 28)⟩]) (.skip)))))
 (.ops [⟨(some 29), none, .bin 0 .add (.t 12) (.c (.int .i64 1))⟩, ⟨(some 12), none, .mv (.t 29)⟩])))))))
 (.seq (.ops [⟨(some 30), none, .mv (.t 5)⟩, ⟨(some 4), none, .mv (.t 30)⟩])
 (.ret))))⟩
theorem c112 : compF Go.Proofs.Tryd.prog 112 = some a112 := by kernel_rfl
def a113 : AFn := ⟨70, [.t 8], .seq (.ops [⟨(some 8), none, .mv (.c (.int .i64 0))⟩])
 (.seq (.seq (.ops [⟨(some 15), none, .mv (.t 0)⟩, ⟨(some 16), none, .load none (.t 2)⟩, ⟨(some 17), none, .bin 0 .shl (.c (.int .i64 1)) (.t 16)⟩, ⟨(some 18), none, .bin 0 .sub (.t 17) (.c (.int .i64 1))⟩, ⟨(some 19), none, .bin 0 .eql (.t 15) (.t 18)⟩])
 (.cond (.t 19) (.seq (.ops [⟨(some 8), none, .mv (.c (.int .i64 0))⟩])
 (.ret)) (.skip)))
 (.seq (.ops [⟨(some 20), none, .mv (.t 0)⟩, ⟨(some 21), none, .mv (.t 1)⟩, ⟨(some 22), none, .build [(.int .i64 0), (.int .i64 0)] [(0, 1, (.t 20)), (1, 1, (.t 21))]⟩, ⟨(some 9), none, .alloc 141 [(.int .i64 0), (.int .i64 0)]⟩, ⟨none, none, .store 2 (.t 9) (.t 22)⟩])
 (.seq (.seq (.ops [⟨(some 24), none, .load none (.t 3)⟩, ⟨(some 25), none, .load (some 2) (.t 9)⟩, ⟨(some 26), none, .mlk true .p (.int .i64 0) (.t 24) (.t 25)⟩, ⟨(some 23), none, .mv (.t 26)⟩, ⟨(some 27), none, .ext (.t 23) 0⟩, ⟨(some 28), none, .ext (.t 23) 1⟩, ⟨(some 10), none, .mv (.t 27)⟩, ⟨(some 11), none, .mv (.t 28)⟩])
 (.seq (.ops [⟨(some 29), none, .mv (.t 11)⟩])
 (.cond (.t 29) (.seq (.ops [⟨(some 30), none, .mv (.t 10)⟩, ⟨(some 8), none, .mv (.t 30)⟩])
 (.ret)) (.skip))))
 (.seq (.ops [⟨(some 12), none, .mv (.c (.int .i64 (-1)))⟩])
 (.seq (.seq (.ops [⟨(some 31), none, .load none (.t 2)⟩, ⟨(some 32), none, .mv (.c (.int .i64 0))⟩])
 (.block 0 (.loop (.seq (.ops [⟨(some 33), none, .bin 0 .lss (.t 32) (.t 31)⟩])
 (.seq (.cond (.t 33) (.skip) (.exit 0))
 (.seq (.block 1 (.seq (.ops [⟨(some 34), none, .mv (.t 32)⟩, ⟨(some 13), none, .mv (.t 34)⟩])
 (.seq (.ops [⟨(some 35), none, .mv (.t 0)⟩, ⟨(some 36), none, .mv (.t 13)⟩, ⟨(some 37), none, .bin 0 .shr (.t 35) (.t 36)⟩, ⟨(some 38), none, .bin 0 .and (.t 37) (.c (.int .i64 1))⟩, ⟨(some 39), none, .bin 0 .eql (.t 38) (.c (.int .i64 0))⟩])
 (.cond (.t 39) (.seq (.any [(⟨(some 40), none, .load none (.t 4)⟩, []), (⟨(some 41), none, .mv (.t 1)⟩, [0]), (⟨(some 42), none, .iadr 1 (.t 40) (.t 41)⟩, []), (⟨(some 43), none, .load none (.t 42)⟩, []), (⟨(some 44), none, .load none (.t 4)⟩, [0, 1, 2, 3]), (⟨(some 45), none, .mv (.t 13)⟩, [0, 1, 2, 3, 4]), (⟨(some 46), none, .iadr 1 (.t 44) (.t 45)⟩, [0, 1, 2, 3]), (⟨(some 47), none, .load none (.t 46)⟩, [0, 1, 2, 3]), (⟨(some 48), none, .call 114 [(.t 43), (.t 47)]⟩, []), (⟨(some 49), none, .load none (.t 5)⟩, [0, 1, 2, 3, 4, 5, 6, 7, 8]), (⟨(some 50), none, .mv (.t 0)⟩, [0, 1, 2, 3, 4, 5, 6, 7, 8, 9]), (⟨(some 51), none, .mv (.t 13)⟩, [0, 1, 2, 3, 4, 5, 6, 7, 8, 9, 10]), (⟨(some 52), none, .bin 0 .shl (.c (.int .i64 1)) (.t 51)⟩, [0, 1, 2, 3, 4, 5, 6, 7, 8, 9, 10]), (⟨(some 53), none, .bin 0 .or (.t 50) (.t 52)⟩, [0, 1, 2, 3, 4, 5, 6, 7, 8, 9]), (⟨(some 54), none, .mv (.t 13)⟩, [0, 1, 2, 3, 4, 5, 6, 7, 8, 9, 10, 11, 12, 13]), (⟨(some 55), none, .callv (.t 49) [(.t 53), (.t 54)]⟩, []), (⟨(some 56), none, .bin 0 .add (.t 48) (.t 55)⟩, []), (⟨(some 14), none, .mv (.t 56)⟩, [])])
 (.seq (.ops [⟨(some 57), none, .mv (.t 12)⟩, ⟨(some 58), none, .bin 0 .lss (.t 57) (.c (.int .i64 0))⟩, ⟨(some 59), none, .mv (.t 58)⟩, ⟨(some 60), (some (59, false)), .mv (.t 14)⟩, ⟨(some 61), (some (59, false)), .mv (.t 12)⟩, ⟨(some 62), (some (59, false)), .bin 0 .lss (.t 60) (.t 61)⟩, ⟨(some 63), none, .pick (.t 59) (.c (.bool true)) (.t 62)⟩])
 (.cond (.t 63) (.ops [⟨(some 64), none, .mv (.t 14)⟩, ⟨(some 12), none, .mv (.t 64)⟩]) (.skip)))) (.skip)))))
 (.ops [⟨(some 65), none, .bin 0 .add (.t 32) (.c (.int .i64 1))⟩, ⟨(some 32), none, .mv (.t 65)⟩])))))))
 (.seq (.ops [⟨(some 66), none, .load none (.t 3)⟩, ⟨(some 67), none, .load (some 2) (.t 9)⟩, ⟨(some 68), none, .mv (.t 12)⟩, ⟨none, none, .mup .p (.t 66) (.t 67) (.t 68)⟩])
 (.seq (.ops [⟨(some 69), none, .mv (.t 12)⟩, ⟨(some 8), none, .mv (.t 69)⟩])
 (.ret))))))))⟩
theorem c113 : compF Go.Proofs.Tryd.prog 113 = some a113 := by kernel_rfl
def a114 : AFn := ⟨23, [.t 4], .seq (.ops [⟨(some 4), none, .mv (.c (.int .i64 0))⟩])
 (.seq (.ops [⟨(some 5), none, .mv (.c (.int .i64 0))⟩])
 (.seq (.seq (.ops [⟨(some 7), none, .mv (.t 0)⟩, ⟨(some 8), none, .len true (.t 7)⟩, ⟨(some 9), none, .mv (.c (.int .i64 0))⟩])
 (.block 0 (.loop (.seq (.ops [⟨(some 10), none, .bin 0 .lss (.t 9) (.t 8)⟩])
 (.seq (.cond (.t 10) (.skip) (.exit 0))
 (.seq (.block 1 (.seq (.ops [⟨(some 11), none, .mv (.t 9)⟩, ⟨(some 6), none, .mv (.t 11)⟩])
 (.seq (.any [(⟨(some 12), none, .mv (.t 0)⟩, []), (⟨(some 13), none, .mv (.t 6)⟩, [0]), (⟨(some 14), none, .idxs (.t 12) (.t 13)⟩, []), (⟨(some 15), none, .mv (.t 1)⟩, [0, 1, 2]), (⟨(some 16), none, .mv (.t 6)⟩, [0, 1, 2, 3]), (⟨(some 17), none, .idxs (.t 15) (.t 16)⟩, [0, 1, 2]), (⟨(some 18), none, .bin 0 .neq (.t 14) (.t 17)⟩, [])])
 (.cond (.t 18) (.ops [⟨(some 19), none, .mv (.t 5)⟩, ⟨(some 20), none, .bin 0 .add (.t 19) (.c (.int .i64 1))⟩, ⟨(some 5), none, .mv (.t 20)⟩]) (.skip)))))
 (.ops [⟨(some 21), none, .bin 0 .add (.t 9) (.c (.int .i64 1))⟩, ⟨(some 9), none, .mv (.t 21)⟩])))))))
 (.seq (.ops [⟨(some 22), none, .mv (.t 5)⟩, ⟨(some 4), none, .mv (.t 22)⟩])
 (.ret))))⟩
theorem c114 : compF Go.Proofs.Tryd.prog 114 = some a114 := by kernel_rfl
def a115 : AFn := ⟨61, [], .seq (.seq (.ops [⟨(some 10), none, .load none (.t 2)⟩, ⟨(some 11), none, .bin 0 .geq (.t 10) (.c (.int .i64 0))⟩, ⟨(some 12), none, .mv (.t 11)⟩, ⟨(some 13), (some (12, true)), .mv (.t 1)⟩, ⟨(some 14), (some (12, true)), .load none (.t 2)⟩, ⟨(some 15), (some (12, true)), .bin 0 .geq (.t 13) (.t 14)⟩, ⟨(some 16), none, .pick (.t 12) (.t 15) (.c (.bool false))⟩])
 (.cond (.t 16) (.ret) (.skip)))
 (.seq (.seq (.ops [⟨(some 17), none, .mv (.t 0)⟩, ⟨(some 18), none, .len false (.t 17)⟩, ⟨(some 19), none, .load none (.t 3)⟩, ⟨(some 20), none, .len false (.t 19)⟩, ⟨(some 21), none, .bin 0 .eql (.t 18) (.t 20)⟩])
 (.cond (.t 21) (.seq (.ops [⟨(some 22), none, .mv (.t 0)⟩, ⟨(some 23), none, .call 56 [(.t 22)]⟩, ⟨(some 24), none, .mv (.t 1)⟩, ⟨none, none, .store 1 (.t 4) (.t 23)⟩, ⟨none, none, .store 1 (.t 2) (.t 24)⟩])
 (.ret)) (.skip)))
 (.seq (.ops [⟨(some 25), none, .load none (.t 3)⟩, ⟨(some 26), none, .len false (.t 25)⟩, ⟨(some 27), none, .mv (.c (.int .i64 0))⟩])
 (.block 0 (.loop (.seq (.ops [⟨(some 28), none, .bin 0 .lss (.t 27) (.t 26)⟩])
 (.seq (.cond (.t 28) (.skip) (.exit 0))
 (.seq (.block 1 (.seq (.ops [⟨(some 29), none, .mv (.t 27)⟩, ⟨(some 8), none, .mv (.t 29)⟩])
 (.seq (.seq (.ops [⟨(some 30), none, .mv (.t 0)⟩, ⟨(some 31), none, .mv (.t 8)⟩, ⟨(some 32), none, .call 116 [(.t 30), (.t 31)]⟩])
 (.cond (.t 32) (.exit 1) (.skip)))
 (.seq (.ops [⟨(some 9), none, .mv (.c (.int .i64 0))⟩])
 (.seq (.seq (.ops [⟨(some 33), none, .mv (.t 0)⟩, ⟨(some 34), none, .len false (.t 33)⟩, ⟨(some 35), none, .bin 0 .gtr (.t 34) (.c (.int .i64 0))⟩])
 (.cond (.t 35) (.any [(⟨(some 36), none, .load none (.t 3)⟩, []), (⟨(some 37), none, .mv (.t 0)⟩, [0]), (⟨(some 38), none, .mv (.t 0)⟩, [0, 1]), (⟨(some 39), none, .len false (.t 38)⟩, [0, 1]), (⟨(some 40), none, .bin 0 .sub (.t 39) (.c (.int .i64 1))⟩, [0, 1]), (⟨(some 41), none, .iadr 1 (.t 37) (.t 40)⟩, [0]), (⟨(some 42), none, .load none (.t 41)⟩, [0]), (⟨(some 43), none, .iadr 1 (.t 36) (.t 42)⟩, []), (⟨(some 44), none, .load none (.t 43)⟩, []), (⟨(some 45), none, .load none (.t 3)⟩, [0, 1, 2, 3, 4, 5, 6, 7, 8]), (⟨(some 46), none, .mv (.t 8)⟩, [0, 1, 2, 3, 4, 5, 6, 7, 8, 9]), (⟨(some 47), none, .iadr 1 (.t 45) (.t 46)⟩, [0, 1, 2, 3, 4, 5, 6, 7, 8]), (⟨(some 48), none, .load none (.t 47)⟩, [0, 1, 2, 3, 4, 5, 6, 7, 8]), (⟨(some 49), none, .call 117 [(.t 44), (.t 48)]⟩, []), (⟨(some 9), none, .mv (.t 49)⟩, [])]) (.skip)))
 (.any [(⟨(some 50), none, .load none (.t 5)⟩, []), (⟨(some 51), none, .mv (.t 0)⟩, [0]), (⟨(some 52), none, .call 56 [(.t 51)]⟩, [0]), (⟨(some 53), none, .mv (.t 8)⟩, [0, 1, 2]), (⟨(some 54), none, .bslice 3 1 1 [(.int .i64 0)] [(0, 1, (.t 53))]⟩, [0, 1, 2]), (⟨(some 55), none, .app 3 1 8 (.t 52) (.t 54)⟩, [0]), (⟨(some 56), none, .mv (.t 1)⟩, [0, 1, 2, 3, 4, 5]), (⟨(some 57), none, .mv (.t 9)⟩, [0, 1, 2, 3, 4, 5, 6]), (⟨(some 58), none, .bin 0 .add (.t 56) (.t 57)⟩, [0, 1, 2, 3, 4, 5]), (⟨(some 59), none, .callv (.t 50) [(.t 55), (.t 58)]⟩, [])]))))))
 (.ops [⟨(some 60), none, .bin 0 .add (.t 27) (.c (.int .i64 1))⟩, ⟨(some 27), none, .mv (.t 60)⟩]))))))))⟩
theorem c115 : compF Go.Proofs.Tryd.prog 115 = some a115 := by kernel_rfl
def a116 : AFn := ⟨9, [.t 4], .seq (.ops [⟨(some 4), none, .mv (.c (.bool false))⟩])
 (.seq (.ops [⟨(some 5), none, .mv (.t 0)⟩, ⟨(some 6), none, .mv (.t 1)⟩, ⟨(some 7), none, .call 155 [(.t 5), (.t 6)]⟩, ⟨(some 8), none, .bin 0 .geq (.t 7) (.c (.int .i64 0))⟩, ⟨(some 4), none, .mv (.t 8)⟩])
 (.ret))⟩
theorem c116 : compF Go.Proofs.Tryd.prog 116 = some a116 := by kernel_rfl
def a117 : AFn := ⟨24, [.t 4], .seq (.ops [⟨(some 4), none, .mv (.c (.int .i64 0))⟩])
 (.seq (.ops [⟨(some 5), none, .mv (.c (.int .i64 0))⟩])
 (.seq (.seq (.ops [⟨(some 7), none, .mv (.t 0)⟩, ⟨(some 8), none, .len true (.t 7)⟩, ⟨(some 9), none, .mv (.c (.int .i64 0))⟩])
 (.block 0 (.loop (.seq (.ops [⟨(some 10), none, .bin 0 .lss (.t 9) (.t 8)⟩])
 (.seq (.cond (.t 10) (.skip) (.exit 0))
 (.seq (.block 1 (.seq (.ops [⟨(some 11), none, .mv (.t 9)⟩, ⟨(some 6), none, .mv (.t 11)⟩])
 (.any [(⟨(some 12), none, .mv (.t 5)⟩, []), (⟨(some 13), none, .mv (.t 0)⟩, [0]), (⟨(some 14), none, .mv (.t 6)⟩, [0, 1]), (⟨(some 15), none, .idxs (.t 13) (.t 14)⟩, [0]), (⟨(some 16), none, .mv (.t 1)⟩, [0, 1, 2, 3]), (⟨(some 17), none, .mv (.t 6)⟩, [0, 1, 2, 3, 4]), (⟨(some 18), none, .idxs (.t 16) (.t 17)⟩, [0, 1, 2, 3]), (⟨(some 19), none, .bin 0 .neq (.t 15) (.t 18)⟩, [0]), (⟨(some 20), none, .call 156 [(.t 19)]⟩, [0]), (⟨(some 21), none, .bin 0 .add (.t 12) (.t 20)⟩, []), (⟨(some 5), none, .mv (.t 21)⟩, [])])))
 (.ops [⟨(some 22), none, .bin 0 .add (.t 9) (.c (.int .i64 1))⟩, ⟨(some 9), none, .mv (.t 22)⟩])))))))
 (.seq (.ops [⟨(some 23), none, .mv (.t 5)⟩, ⟨(some 4), none, .mv (.t 23)⟩])
 (.ret))))⟩
theorem c117 : compF Go.Proofs.Tryd.prog 117 = some a117 := by kernel_rfl
def a131 : AFn := ⟨35, [.t 2], .seq (.ops [⟨(some 2), none, .mv (.c (.int .i64 0))⟩])
 (.seq (.ops [⟨(some 3), none, .mv (.t 0)⟩, ⟨(some 4), none, .bin 0 .shr (.t 3) (.c (.int .u64 1))⟩, ⟨(some 5), none, .bin 0 .and (.t 4) (.c (.int .u64 6148914691236517205))⟩, ⟨(some 6), none, .mv (.t 0)⟩, ⟨(some 7), none, .bin 0 .and (.t 6) (.c (.int .u64 6148914691236517205))⟩, ⟨(some 8), none, .bin 0 .add (.t 5) (.t 7)⟩, ⟨(some 0), none, .mv (.t 8)⟩])
 (.seq (.ops [⟨(some 9), none, .mv (.t 0)⟩, ⟨(some 10), none, .bin 0 .shr (.t 9) (.c (.int .u64 2))⟩, ⟨(some 11), none, .bin 0 .and (.t 10) (.c (.int .u64 3689348814741910323))⟩, ⟨(some 12), none, .mv (.t 0)⟩, ⟨(some 13), none, .bin 0 .and (.t 12) (.c (.int .u64 3689348814741910323))⟩, ⟨(some 14), none, .bin 0 .add (.t 11) (.t 13)⟩, ⟨(some 0), none, .mv (.t 14)⟩])
 (.seq (.ops [⟨(some 15), none, .mv (.t 0)⟩, ⟨(some 16), none, .bin 0 .shr (.t 15) (.c (.int .u64 4))⟩, ⟨(some 17), none, .mv (.t 0)⟩, ⟨(some 18), none, .bin 0 .add (.t 16) (.t 17)⟩, ⟨(some 19), none, .bin 0 .and (.t 18) (.c (.int .u64 1085102592571150095))⟩, ⟨(some 0), none, .mv (.t 19)⟩])
 (.seq (.ops [⟨(some 20), none, .mv (.t 0)⟩, ⟨(some 21), none, .mv (.t 0)⟩, ⟨(some 22), none, .bin 0 .shr (.t 21) (.c (.int .u64 8))⟩, ⟨(some 23), none, .bin 0 .add (.t 20) (.t 22)⟩, ⟨(some 0), none, .mv (.t 23)⟩])
 (.seq (.ops [⟨(some 24), none, .mv (.t 0)⟩, ⟨(some 25), none, .mv (.t 0)⟩, ⟨(some 26), none, .bin 0 .shr (.t 25) (.c (.int .u64 16))⟩, ⟨(some 27), none, .bin 0 .add (.t 24) (.t 26)⟩, ⟨(some 0), none, .mv (.t 27)⟩])
 (.seq (.ops [⟨(some 28), none, .mv (.t 0)⟩, ⟨(some 29), none, .mv (.t 0)⟩, ⟨(some 30), none, .bin 0 .shr (.t 29) (.c (.int .u64 32))⟩, ⟨(some 31), none, .bin 0 .add (.t 28) (.t 30)⟩, ⟨(some 0), none, .mv (.t 31)⟩])
 (.seq (.ops [⟨(some 32), none, .mv (.t 0)⟩, ⟨(some 33), none, .conv .i64 (.t 32)⟩, ⟨(some 34), none, .bin 0 .and (.t 33) (.c (.int .i64 127))⟩, ⟨(some 2), none, .mv (.t 34)⟩])
 (.ret))))))))⟩
theorem c131 : compF Go.Proofs.Tryd.prog 131 = some a131 := by kernel_rfl
def a137 : AFn := ⟨16, [.t 4], .seq (.ops [⟨(some 4), none, .mv (.c (.int .i64 0))⟩])
 (.seq (.seq (.ops [⟨(some 5), none, .mv (.t 1)⟩, ⟨(some 6), none, .bin 0 .lss (.t 5) (.c (.int .i64 1))⟩])
 (.cond (.t 6) (.seq (.ops [⟨(some 4), none, .mv (.c (.int .i64 0))⟩])
 (.ret)) (.skip)))
 (.seq (.ops [⟨(some 7), none, .mv (.t 0)⟩, ⟨(some 8), none, .mv (.t 1)⟩, ⟨(some 9), none, .bin 0 .rem (.t 7) (.t 8)⟩, ⟨(some 0), none, .mv (.t 9)⟩])
 (.seq (.seq (.ops [⟨(some 10), none, .mv (.t 0)⟩, ⟨(some 11), none, .bin 0 .lss (.t 10) (.c (.int .i64 0))⟩])
 (.cond (.t 11) (.ops [⟨(some 12), none, .mv (.t 0)⟩, ⟨(some 13), none, .mv (.t 1)⟩, ⟨(some 14), none, .bin 0 .add (.t 12) (.t 13)⟩, ⟨(some 0), none, .mv (.t 14)⟩]) (.skip)))
 (.seq (.ops [⟨(some 15), none, .mv (.t 0)⟩, ⟨(some 4), none, .mv (.t 15)⟩])
 (.ret)))))⟩
theorem c137 : compF Go.Proofs.Tryd.prog 137 = some a137 := by kernel_rfl
def a146 : AFn := ⟨12, [.t 4], .seq (.ops [⟨(some 4), none, .mv (.c (.int .i64 0))⟩])
 (.seq (.block 0 (.loop (.seq (.seq (.ops [⟨(some 5), none, .mv (.t 1)⟩, ⟨(some 6), none, .bin 0 .neq (.t 5) (.c (.int .i64 0))⟩])
 (.cond (.t 6) (.skip) (.exit 0)))
 (.block 1 (.any [(⟨(some 7), none, .mv (.t 1)⟩, []), (⟨(some 8), none, .mv (.t 0)⟩, [0]), (⟨(some 9), none, .mv (.t 1)⟩, [0, 1]), (⟨(some 10), none, .bin 0 .rem (.t 8) (.t 9)⟩, [0]), (⟨(some 0), none, .mv (.t 7)⟩, [2, 3]), (⟨(some 1), none, .mv (.t 10)⟩, [])])))))
 (.seq (.ops [⟨(some 11), none, .mv (.t 0)⟩, ⟨(some 4), none, .mv (.t 11)⟩])
 (.ret)))⟩
def a148 : AFn := ⟨51, [.t 4, .t 5], .seq (.ops [⟨(some 4), none, .mv (.c (.int .u64 0))⟩, ⟨(some 5), none, .mv (.c (.int .u64 0))⟩])
 (.seq (.ops [⟨(some 14), none, .mv (.t 0)⟩, ⟨(some 15), none, .bin 0 .and (.t 14) (.c (.int .u64 4294967295))⟩, ⟨(some 6), none, .mv (.t 15)⟩])
 (.seq (.ops [⟨(some 16), none, .mv (.t 0)⟩, ⟨(some 17), none, .bin 0 .shr (.t 16) (.c (.int .u64 32))⟩, ⟨(some 7), none, .mv (.t 17)⟩])
 (.seq (.ops [⟨(some 18), none, .mv (.t 1)⟩, ⟨(some 19), none, .bin 0 .and (.t 18) (.c (.int .u64 4294967295))⟩, ⟨(some 8), none, .mv (.t 19)⟩])
 (.seq (.ops [⟨(some 20), none, .mv (.t 1)⟩, ⟨(some 21), none, .bin 0 .shr (.t 20) (.c (.int .u64 32))⟩, ⟨(some 9), none, .mv (.t 21)⟩])
 (.seq (.ops [⟨(some 22), none, .mv (.t 6)⟩, ⟨(some 23), none, .mv (.t 8)⟩, ⟨(some 24), none, .bin 0 .mul (.t 22) (.t 23)⟩, ⟨(some 10), none, .mv (.t 24)⟩])
 (.seq (.ops [⟨(some 25), none, .mv (.t 7)⟩, ⟨(some 26), none, .mv (.t 8)⟩, ⟨(some 27), none, .bin 0 .mul (.t 25) (.t 26)⟩, ⟨(some 28), none, .mv (.t 10)⟩, ⟨(some 29), none, .bin 0 .shr (.t 28) (.c (.int .u64 32))⟩, ⟨(some 30), none, .bin 0 .add (.t 27) (.t 29)⟩, ⟨(some 11), none, .mv (.t 30)⟩])
 (.seq (.ops [⟨(some 31), none, .mv (.t 11)⟩, ⟨(some 32), none, .bin 0 .and (.t 31) (.c (.int .u64 4294967295))⟩, ⟨(some 12), none, .mv (.t 32)⟩])
 (.seq (.ops [⟨(some 33), none, .mv (.t 11)⟩, ⟨(some 34), none, .bin 0 .shr (.t 33) (.c (.int .u64 32))⟩, ⟨(some 13), none, .mv (.t 34)⟩])
 (.seq (.ops [⟨(some 35), none, .mv (.t 12)⟩, ⟨(some 36), none, .mv (.t 6)⟩, ⟨(some 37), none, .mv (.t 9)⟩, ⟨(some 38), none, .bin 0 .mul (.t 36) (.t 37)⟩, ⟨(some 39), none, .bin 0 .add (.t 35) (.t 38)⟩, ⟨(some 12), none, .mv (.t 39)⟩])
 (.seq (.ops [⟨(some 40), none, .mv (.t 7)⟩, ⟨(some 41), none, .mv (.t 9)⟩, ⟨(some 42), none, .bin 0 .mul (.t 40) (.t 41)⟩, ⟨(some 43), none, .mv (.t 13)⟩, ⟨(some 44), none, .bin 0 .add (.t 42) (.t 43)⟩, ⟨(some 45), none, .mv (.t 12)⟩, ⟨(some 46), none, .bin 0 .shr (.t 45) (.c (.int .u64 32))⟩, ⟨(some 47), none, .bin 0 .add (.t 44) (.t 46)⟩, ⟨(some 4), none, .mv (.t 47)⟩])
 (.seq (.ops [⟨(some 48), none, .mv (.t 0)⟩, ⟨(some 49), none, .mv (.t 1)⟩, ⟨(some 50), none, .bin 0 .mul (.t 48) (.t 49)⟩, ⟨(some 5), none, .mv (.t 50)⟩])
 (.ret))))))))))))⟩
theorem c148 : compF Go.Proofs.Tryd.prog 148 = some a148 := by kernel_rfl
def a149 : AFn := ⟨22, [.t 4], .seq (.ops [⟨(some 4), none, .mv (.c (.lit true 0 []))⟩])
 (.seq (.ops [⟨(some 5), none, .mv (.c (.lit true 0 []))⟩])
 (.seq (.seq (.ops [⟨(some 7), none, .mv (.t 1)⟩, ⟨(some 8), none, .mv (.c (.int .i64 0))⟩])
 (.block 0 (.loop (.seq (.ops [⟨(some 9), none, .bin 0 .lss (.t 8) (.t 7)⟩])
 (.seq (.cond (.t 9) (.skip) (.exit 0))
 (.seq (.block 1 (.seq (.ops [⟨(some 10), none, .mv (.t 8)⟩, ⟨(some 6), none, .mv (.t 10)⟩])
 (.seq (.ops [⟨(some 11), none, .mv (.t 0)⟩, ⟨(some 12), none, .mv (.t 6)⟩, ⟨(some 13), none, .bin 0 .shr (.t 11) (.t 12)⟩, ⟨(some 14), none, .bin 0 .rem (.t 13) (.c (.int .i64 2))⟩, ⟨(some 15), none, .bin 0 .eql (.t 14) (.c (.int .i64 1))⟩])
 (.cond (.t 15) (.ops [⟨(some 16), none, .mv (.t 5)⟩, ⟨(some 17), none, .mv (.t 6)⟩, ⟨(some 18), none, .bslice 3 1 1 [(.int .i64 0)] [(0, 1, (.t 17))]⟩, ⟨(some 19), none, .app 3 1 8 (.t 16) (.t 18)⟩, ⟨(some 5), none, .mv (.t 19)⟩]) (.skip)))))
 (.ops [⟨(some 20), none, .bin 0 .add (.t 8) (.c (.int .i64 1))⟩, ⟨(some 8), none, .mv (.t 20)⟩])))))))
 (.seq (.ops [⟨(some 21), none, .mv (.t 5)⟩, ⟨(some 4), none, .mv (.t 21)⟩])
 (.ret))))⟩
theorem c149 : compF Go.Proofs.Tryd.prog 149 = some a149 := by kernel_rfl
def a150 : AFn := ⟨18, [.t 2], .seq (.ops [⟨(some 2), none, .mv (.c (.int .i64 0))⟩])
 (.seq (.ops [⟨(some 3), none, .mv (.c (.int .i64 0))⟩])
 (.seq (.seq (.ops [⟨(some 6), none, .mv (.t 0)⟩, ⟨(some 7), none, .len false (.t 6)⟩, ⟨(some 8), none, .mv (.c (.int .i64 0))⟩])
 (.block 0 (.loop (.seq (.ops [⟨(some 9), none, .bin 0 .lss (.t 8) (.t 7)⟩])
 (.seq (.cond (.t 9) (.skip) (.exit 0))
 (.seq (.block 1 (.seq (.ops [⟨(some 10), none, .iadr 1 (.t 6) (.t 8)⟩, ⟨(some 11), none, .load none (.t 10)⟩, ⟨(some 5), none, .mv (.t 11)⟩])
 (.seq (.ops [⟨(some 12), none, .mv (.t 5)⟩, ⟨(some 13), none, .mv (.t 3)⟩, ⟨(some 14), none, .bin 0 .neq (.t 12) (.t 13)⟩])
 (.cond (.t 14) (.seq (.ops [⟨(some 15), none, .mv (.t 5)⟩, ⟨(some 2), none, .mv (.t 15)⟩])
 (.ret)) (.skip)))))
 (.ops [⟨(some 16), none, .bin 0 .add (.t 8) (.c (.int .i64 1))⟩, ⟨(some 8), none, .mv (.t 16)⟩])))))))
 (.seq (.ops [⟨(some 17), none, .mv (.t 3)⟩, ⟨(some 2), none, .mv (.t 17)⟩])
 (.ret))))⟩
theorem c150 : compF Go.Proofs.Tryd.prog 150 = some a150 := by kernel_rfl
def a151 : AFn := ⟨20, [.t 4], .seq (.ops [⟨(some 4), none, .mv (.c (.int .i64 0))⟩])
 (.seq (.ops [⟨(some 7), none, .mv (.t 0)⟩, ⟨(some 8), none, .call 189 [(.t 7)]⟩, ⟨(some 5), none, .mv (.t 8)⟩])
 (.seq (.ops [⟨(some 9), none, .mv (.t 1)⟩, ⟨(some 10), none, .call 189 [(.t 9)]⟩, ⟨(some 6), none, .mv (.t 10)⟩])
 (.seq (.seq (.ops [⟨(some 11), none, .mv (.t 5)⟩])
 (.cond (.t 11) (.seq (.seq (.ops [⟨(some 12), none, .mv (.t 6)⟩])
 (.cond (.t 12) (.seq (.ops [⟨(some 4), none, .mv (.c (.int .i64 0))⟩])
 (.ret)) (.skip)))
 (.seq (.ops [⟨(some 4), none, .mv (.c (.int .i64 (-1)))⟩])
 (.ret))) (.skip)))
 (.seq (.seq (.ops [⟨(some 13), none, .mv (.t 6)⟩])
 (.cond (.t 13) (.seq (.ops [⟨(some 4), none, .mv (.c (.int .i64 1))⟩])
 (.ret)) (.skip)))
 (.seq (.seq (.ops [⟨(some 14), none, .mv (.t 0)⟩, ⟨(some 15), none, .mv (.t 1)⟩, ⟨(some 16), none, .bin 0 .lss (.t 14) (.t 15)⟩])
 (.cond (.t 16) (.seq (.ops [⟨(some 4), none, .mv (.c (.int .i64 (-1)))⟩])
 (.ret)) (.skip)))
 (.seq (.seq (.ops [⟨(some 17), none, .mv (.t 0)⟩, ⟨(some 18), none, .mv (.t 1)⟩, ⟨(some 19), none, .bin 0 .gtr (.t 17) (.t 18)⟩])
 (.cond (.t 19) (.seq (.ops [⟨(some 4), none, .mv (.c (.int .i64 1))⟩])
 (.ret)) (.skip)))
 (.seq (.ops [⟨(some 4), none, .mv (.c (.int .i64 0))⟩])
 (.ret))))))))⟩
theorem c151 : compF Go.Proofs.Tryd.prog 151 = some a151 := by kernel_rfl
def a152 : AFn := ⟨36, [.t 4], .seq (.ops [⟨(some 4), none, .mv (.c (.int .i64 0))⟩])
 (.seq (.seq (.ops [⟨(some 9), none, .mv (.t 0)⟩, ⟨(some 10), none, .len false (.t 9)⟩, ⟨(some 11), none, .mv (.c (.int .i64 0))⟩])
 (.block 0 (.loop (.seq (.ops [⟨(some 12), none, .bin 0 .lss (.t 11) (.t 10)⟩])
 (.seq (.cond (.t 12) (.skip) (.exit 0))
 (.seq (.block 1 (.seq (.ops [⟨(some 13), none, .mv (.t 11)⟩, ⟨(some 14), none, .iadr 1 (.t 9) (.t 11)⟩, ⟨(some 15), none, .load none (.t 14)⟩, ⟨(some 5), none, .mv (.t 13)⟩, ⟨(some 6), none, .mv (.t 15)⟩])
 (.seq (.seq (.ops [⟨(some 16), none, .mv (.t 5)⟩, ⟨(some 17), none, .mv (.t 1)⟩, ⟨(some 18), none, .len false (.t 17)⟩, ⟨(some 19), none, .bin 0 .geq (.t 16) (.t 18)⟩])
 (.cond (.t 19) (.seq (.ops [⟨(some 4), none, .mv (.c (.int .i64 1))⟩])
 (.ret)) (.skip)))
 (.seq (.ops [⟨(some 20), none, .mv (.t 1)⟩, ⟨(some 21), none, .mv (.t 5)⟩, ⟨(some 22), none, .iadr 1 (.t 20) (.t 21)⟩, ⟨(some 23), none, .load none (.t 22)⟩, ⟨(some 7), none, .mv (.t 23)⟩])
 (.seq (.ops [⟨(some 24), none, .mv (.t 6)⟩, ⟨(some 25), none, .mv (.t 7)⟩, ⟨(some 26), none, .call 151 [(.t 24), (.t 25)]⟩, ⟨(some 8), none, .mv (.t 26)⟩])
 (.seq (.ops [⟨(some 27), none, .mv (.t 8)⟩, ⟨(some 28), none, .bin 0 .neq (.t 27) (.c (.int .i64 0))⟩])
 (.cond (.t 28) (.seq (.ops [⟨(some 29), none, .mv (.t 8)⟩, ⟨(some 4), none, .mv (.t 29)⟩])
 (.ret)) (.skip))))))))
 (.ops [⟨(some 30), none, .bin 0 .add (.t 11) (.c (.int .i64 1))⟩, ⟨(some 11), none, .mv (.t 30)⟩])))))))
 (.seq (.seq (.ops [⟨(some 31), none, .mv (.t 0)⟩, ⟨(some 32), none, .len false (.t 31)⟩, ⟨(some 33), none, .mv (.t 1)⟩, ⟨(some 34), none, .len false (.t 33)⟩, ⟨(some 35), none, .bin 0 .lss (.t 32) (.t 34)⟩])
 (.cond (.t 35) (.seq (.ops [⟨(some 4), none, .mv (.c (.int .i64 (-1)))⟩])
 (.ret)) (.skip)))
 (.seq (.ops [⟨(some 4), none, .mv (.c (.int .i64 0))⟩])
 (.ret))))⟩
theorem c152 : compF Go.Proofs.Tryd.prog 152 = some a152 := by kernel_rfl
def a153 : AFn := ⟨9, [.t 4], .seq (.ops [⟨(some 4), none, .mv (.c (.bool false))⟩])
 (.seq (.ops [⟨(some 5), none, .mv (.t 0)⟩, ⟨(some 6), none, .mv (.t 1)⟩, ⟨(some 7), none, .call 190 [(.t 5), (.t 6)]⟩, ⟨(some 8), none, .bin 0 .geq (.t 7) (.c (.int .i64 0))⟩, ⟨(some 4), none, .mv (.t 8)⟩])
 (.ret))⟩
theorem c153 : compF Go.Proofs.Tryd.prog 153 = some a153 := by kernel_rfl
def a155 : AFn := ⟨19, [.t 4], .seq (.ops [⟨(some 4), none, .mv (.c (.int .i64 0))⟩])
 (.seq (.seq (.ops [⟨(some 6), none, .mv (.t 0)⟩, ⟨(some 7), none, .len false (.t 6)⟩, ⟨(some 8), none, .mv (.c (.int .i64 0))⟩])
 (.block 0 (.loop (.seq (.ops [⟨(some 9), none, .bin 0 .lss (.t 8) (.t 7)⟩])
 (.seq (.cond (.t 9) (.skip) (.exit 0))
 (.seq (.block 1 (.seq (.ops [⟨(some 10), none, .mv (.t 8)⟩, ⟨(some 5), none, .mv (.t 10)⟩])
 (.seq (.ops [⟨(some 11), none, .mv (.t 1)⟩, ⟨(some 12), none, .mv (.t 0)⟩, ⟨(some 13), none, .mv (.t 5)⟩, ⟨(some 14), none, .iadr 1 (.t 12) (.t 13)⟩, ⟨(some 15), none, .load none (.t 14)⟩, ⟨(some 16), none, .bin 0 .eql (.t 11) (.t 15)⟩])
 (.cond (.t 16) (.seq (.ops [⟨(some 17), none, .mv (.t 5)⟩, ⟨(some 4), none, .mv (.t 17)⟩])
 (.ret)) (.skip)))))
 (.ops [⟨(some 18), none, .bin 0 .add (.t 8) (.c (.int .i64 1))⟩, ⟨(some 8), none, .mv (.t 18)⟩])))))))
 (.seq (.ops [⟨(some 4), none, .mv (.c (.int .i64 (-1)))⟩])
 (.ret)))⟩
theorem c155 : compF Go.Proofs.Tryd.prog 155 = some a155 := by kernel_rfl
def a156 : AFn := ⟨4, [.t 2], .seq (.ops [⟨(some 2), none, .mv (.c (.int .i64 0))⟩])
 (.seq (.seq (.ops [⟨(some 3), none, .mv (.t 0)⟩])
 (.cond (.t 3) (.seq (.ops [⟨(some 2), none, .mv (.c (.int .i64 1))⟩])
 (.ret)) (.skip)))
 (.seq (.ops [⟨(some 2), none, .mv (.c (.int .i64 0))⟩])
 (.ret)))⟩
theorem c156 : compF Go.Proofs.Tryd.prog 156 = some a156 := by kernel_rfl
def a189 : AFn := ⟨6, [.t 2], .seq (.ops [⟨(some 2), none, .mv (.c (.bool false))⟩])
 (.seq (.ops [⟨(some 3), none, .mv (.t 0)⟩, ⟨(some 4), none, .mv (.t 0)⟩, ⟨(some 5), none, .bin 0 .neq (.t 3) (.t 4)⟩, ⟨(some 2), none, .mv (.t 5)⟩])
 (.ret))⟩
theorem c189 : compF Go.Proofs.Tryd.prog 189 = some a189 := by kernel_rfl
def a190 : AFn := ⟨19, [.t 4], .seq (.ops [⟨(some 4), none, .mv (.c (.int .i64 0))⟩])
 (.seq (.seq (.ops [⟨(some 6), none, .mv (.t 0)⟩, ⟨(some 7), none, .len false (.t 6)⟩, ⟨(some 8), none, .mv (.c (.int .i64 0))⟩])
 (.block 0 (.loop (.seq (.ops [⟨(some 9), none, .bin 0 .lss (.t 8) (.t 7)⟩])
 (.seq (.cond (.t 9) (.skip) (.exit 0))
 (.seq (.block 1 (.seq (.ops [⟨(some 10), none, .mv (.t 8)⟩, ⟨(some 5), none, .mv (.t 10)⟩])
 (.seq (.ops [⟨(some 11), none, .mv (.t 1)⟩, ⟨(some 12), none, .mv (.t 0)⟩, ⟨(some 13), none, .mv (.t 5)⟩, ⟨(some 14), none, .iadr 1 (.t 12) (.t 13)⟩, ⟨(some 15), none, .load none (.t 14)⟩, ⟨(some 16), none, .bin 1 .eql (.t 11) (.t 15)⟩])
 (.cond (.t 16) (.seq (.ops [⟨(some 17), none, .mv (.t 5)⟩, ⟨(some 4), none, .mv (.t 17)⟩])
 (.ret)) (.skip)))))
 (.ops [⟨(some 18), none, .bin 0 .add (.t 8) (.c (.int .i64 1))⟩, ⟨(some 8), none, .mv (.t 18)⟩])))))))
 (.seq (.ops [⟨(some 4), none, .mv (.c (.int .i64 (-1)))⟩])
 (.ret)))⟩
theorem c190 : compF Go.Proofs.Tryd.prog 190 = some a190 := by kernel_rfl
end Go.Proofs.YthcldfmlfjomfaaDoor
namespace Go.Proofs.YthcldfmlfjomfaaDoor
open Go.RowKit
theorem below_c (x n : Int) (nid : Nat) (hn : n ≤ 9223372036854775807) : ACall Tryd.prog 137 [.int .i64 x, .int .i64 n] [] nid (.int .i64 (below x n)) [] := by
  refine acall_run c137 (by simp [a137]) ?_
  simp -dsimp only [a137, aqT, aqU, aqN, ↓seqK, ↓blkK, ↓loopK, step, stepBin, Nat.reduceBEq, Nat.reduceBeqDiff, Nat.add_assoc nid, Nat.reduceAdd, reduceCtorEq, ↓reduceIte, Nat.reduceLeDiff, Nat.reduceBneDiff, Option.toList, ← Int.ofNat_tmod, ← Int.ofNat_tdiv, Nat.reduceLT]
  refine S2.dec (fun h => ?_) (fun h => ?_)
  · simp -dsimp only [aqT, aqU, aqN, ↓seqK, ↓blkK, ↓loopK, step, stepBin, Nat.reduceBEq, Nat.reduceBeqDiff, Nat.add_assoc nid, Nat.reduceAdd, reduceCtorEq, ↓reduceIte, Nat.reduceLeDiff, Nat.reduceBneDiff, Option.toList, ← Int.ofNat_tmod, ← Int.ofNat_tdiv, Nat.reduceLT]
    refine RetOK.pure (.inl rfl) rfl ?_
    simp [retPV, PVCov, getS, below, h]
  simp -dsimp only [aqT, aqU, aqN, ↓seqK, ↓blkK, ↓loopK, step, stepBin, Nat.reduceBEq, Nat.reduceBeqDiff, Nat.add_assoc nid, Nat.reduceAdd, reduceCtorEq, ↓reduceIte, Nat.reduceLeDiff, Nat.reduceBneDiff, Option.toList, ← Int.ofNat_tmod, ← Int.ofNat_tdiv, Nat.reduceLT]
  refine ⟨by omega, S2.dec (fun h2 => ?_) (fun h2 => ?_)⟩
  · simp -dsimp only [aqT, aqU, aqN, ↓seqK, ↓blkK, ↓loopK, step, stepBin, Nat.reduceBEq, Nat.reduceBeqDiff, Nat.add_assoc nid, Nat.reduceAdd, reduceCtorEq, ↓reduceIte, Nat.reduceLeDiff, Nat.reduceBneDiff, Option.toList, ← Int.ofNat_tmod, ← Int.ofNat_tdiv, Nat.reduceLT]
    have := Int.lt_tmod_of_pos x (show 0 < n by omega)
    refine ⟨by unfold inI64; omega, RetOK.pure (.inl rfl) rfl ?_⟩
    have h3 : x.tmod n + n = x % n := by rw [Int.tmod_eq_emod]; split <;> rw [Int.tmod_eq_emod] at h2 <;> rename_i h6 <;> simp only [h6, if_true, if_false, not_false_eq_true] at h2 <;> have := Int.emod_nonneg x (show n ≠ 0 by omega) <;> omega
    simp [cvT, step, res, below, h, h3]
  · simp -dsimp only [aqT, aqU, aqN, ↓seqK, ↓blkK, ↓loopK, step, stepBin, Nat.reduceBEq, Nat.reduceBeqDiff, Nat.add_assoc nid, Nat.reduceAdd, reduceCtorEq, ↓reduceIte, Nat.reduceLeDiff, Nat.reduceBneDiff, Option.toList, ← Int.ofNat_tmod, ← Int.ofNat_tdiv, Nat.reduceLT]
    refine RetOK.pure (.inl rfl) rfl ?_
    have h3 : x.tmod n = x % n := by rw [Int.tmod_eq_emod]; split <;> rw [Int.tmod_eq_emod] at h2 <;> rename_i h6 <;> simp only [h6, if_true, if_false, not_false_eq_true] at h2 <;> have := Int.emod_lt_of_pos x (show 0 < n by omega) <;> omega
    simp [cvT, step, res, below, h, h3]
def strmC (nl : Bool) (A : List Int) (p : Nat) : Option ABlk := some (.box 25 [.lit nl A.length [.i .i64 fun i => A.getD i 0], .int .i64 p])
theorem strmC_low (n : Nat) (nl : Bool) (A : List Int) (p : Nat) : lowBlk n (strmC nl A p) = true := rfl
theorem next_c (s nid : Nat) (nl : Bool) (A : List Int) (p : Nat) (n : Int) (h : s < nid) (hp : p ≤ 1099511627775) (hA : A.length ≤ 17592186044416) (hn : n ≤ 9223372036854775807) :
    ACall Tryd.prog 85 [.ptr s 0, .int .i64 n] [(s, strmC nl A p)] nid (.int .i64 (nextV A p n)) [(s, strmC nl A (p + 1))] := by
  obtain ⟨e1, e2, e3, e4, e5, e6, e7, e8, e9⟩ := id_all h
  refine acall_run c85 (by simp [a85]) ?_
  simp -dsimp only [a85, strmC, aqT, aqU, aqN, ↓seqK, ↓blkK, ↓loopK, step, stepBin, Nat.reduceBEq, Nat.reduceBeqDiff, Nat.add_assoc nid, Nat.reduceAdd, reduceCtorEq, ↓reduceIte, Nat.reduceLeDiff, Nat.reduceBneDiff, Option.toList, ← Int.ofNat_tmod, ← Int.ofNat_tdiv, Nat.reduceLT, e1, e2, e3, e4, e5, e6, e7, e8, e9]
  refine ⟨by unfold inI64; omega, S2.intro (fun h2 => ?_) (fun h2 => ?_)⟩
  · simp -dsimp only [aqT, aqU, aqN, ↓seqK, ↓blkK, ↓loopK, step, stepBin, Nat.reduceBEq, Nat.reduceBeqDiff, Nat.add_assoc nid, Nat.reduceAdd, reduceCtorEq, ↓reduceIte, Nat.reduceLeDiff, Nat.reduceBneDiff, Option.toList, ← Int.ofNat_tmod, ← Int.ofNat_tdiv, Nat.reduceLT, e1, e2, e3, e4, e5, e6, e7, e8, e9]
    refine ⟨by unfold inI64; omega, CallO.pure (below_c _ _ _ hn) ?_⟩
    simp -dsimp only [aqT, aqU, aqN, ↓seqK, ↓blkK, ↓loopK, step, stepBin, Nat.reduceBEq, Nat.reduceBeqDiff, Nat.add_assoc nid, Nat.reduceAdd, reduceCtorEq, ↓reduceIte, Nat.reduceLeDiff, Nat.reduceBneDiff, Option.toList, ← Int.ofNat_tmod, ← Int.ofNat_tdiv, Nat.reduceLT, e1, e2, e3, e4, e5, e6, e7, e8, e9]
    have h3 : A.length = 0 := by simpa using h2
    refine RetOK.same (.inl rfl) rfl (by simp [strmC, liveIds]; omega) ?_ ?_
    · simp [cvT, step, res, strmC]
    · simp [cvT, step, res, nextV, h3]
  · simp -dsimp only [aqT, aqU, aqN, ↓seqK, ↓blkK, ↓loopK, step, stepBin, Nat.reduceBEq, Nat.reduceBeqDiff, Nat.add_assoc nid, Nat.reduceAdd, reduceCtorEq, ↓reduceIte, Nat.reduceLeDiff, Nat.reduceBneDiff, Option.toList, ← Int.ofNat_tmod, ← Int.ofNat_tdiv, Nat.reduceLT, e1, e2, e3, e4, e5, e6, e7, e8, e9]
    have h3 : 0 < A.length := by have : ¬ A.length = 0 := by simpa using h2
                                 omega
    have h4 : ∀ z : Nat, z ≤ 1099511627776 → IntKind.i64.wrap (z : Int) = z := fun z hz => IntWalk.i64_in _ (by omega)
    have h5 : p / A.length ≤ p := Nat.div_le_self _ _
    have h6 : p % A.length < A.length := Nat.mod_lt _ h3
    have h11 := h4 _ (show p / A.length ≤ 1099511627776 by omega)
    refine ⟨by unfold inI64; omega, by omega, by unfold inI64; omega, by omega, by omega, CallO.pure (below_c _ _ _ (by omega)) ?_⟩
    simp -dsimp only [aqT, aqU, aqN, ↓seqK, ↓blkK, ↓loopK, step, stepBin, Nat.reduceBEq, Nat.reduceBeqDiff, Nat.add_assoc nid, Nat.reduceAdd, reduceCtorEq, ↓reduceIte, Nat.reduceLeDiff, Nat.reduceBneDiff, Option.toList, ← Int.ofNat_tmod, ← Int.ofNat_tdiv, Nat.reduceLT, h11, e1, e2, e3, e4, e5, e6, e7, e8, e9]
    have h7 := round_bd p A.length h3 (by omega)
    have h8 := below_bd (A.getD (p % A.length) 0) (n := 1073741824) (by omega)
    rw [← Int.natCast_emod, ← Int.natCast_ediv] at h7
    generalize h9 : ((p / A.length : Nat) : Int) * (7919 + ((p % A.length : Nat) : Int)) = z at h7 ⊢
    refine ⟨by unfold inI64; omega, by unfold inI64; omega, by unfold inI64; omega, CallO.pure (below_c _ _ _ hn) ?_⟩
    simp -dsimp only [aqT, aqU, aqN, ↓seqK, ↓blkK, ↓loopK, step, stepBin, Nat.reduceBEq, Nat.reduceBeqDiff, Nat.add_assoc nid, Nat.reduceAdd, reduceCtorEq, ↓reduceIte, Nat.reduceLeDiff, Nat.reduceBneDiff, Option.toList, ← Int.ofNat_tmod, ← Int.ofNat_tdiv, Nat.reduceLT, e1, e2, e3, e4, e5, e6, e7, e8, e9]
    refine RetOK.same (.inl rfl) rfl (by simp [strmC, liveIds]; omega) ?_ ?_
    · simp [cvT, step, res, strmC]
    · have h10 : A.length ≠ 0 := by omega
      simp [cvT, step, res, nextV, h10, ← h9]
theorem range_c (s nid : Nat) (nl : Bool) (A : List Int) (p : Nat) (lo hi : Int) (h : s < nid) (hp : p ≤ 1099511627775) (hA : A.length ≤ 17592186044416) (h1 : lo ≤ hi) (hl : -1099511627776 ≤ lo) (hh : hi ≤ 1099511627776) :
    ACall Tryd.prog 37 [.ptr s 0, .int .i64 lo, .int .i64 hi] [(s, strmC nl A p)] nid (.int .i64 (rangeV A p lo hi)) [(s, strmC nl A (p + 1))] := by
  obtain ⟨e1, e2, e3, e4, e5, e6, e7, e8, e9⟩ := id_all h
  refine acall_run c37 (by simp [a37]) ?_
  simp -dsimp only [a37, aqT, aqU, aqN, ↓seqK, ↓blkK, ↓loopK, step, stepBin, Nat.reduceBEq, Nat.reduceBeqDiff, Nat.add_assoc nid, Nat.reduceAdd, reduceCtorEq, ↓reduceIte, Nat.reduceLeDiff, Nat.reduceBneDiff, Option.toList, ← Int.ofNat_tmod, ← Int.ofNat_tdiv, Nat.reduceLT, e1, e2, e3, e4, e5, e6, e7, e8, e9]
  refine S2.dec (fun h => absurd h (by omega)) (fun h => ?_)
  simp -dsimp only [aqT, aqU, aqN, ↓seqK, ↓blkK, ↓loopK, step, stepBin, Nat.reduceBEq, Nat.reduceBeqDiff, Nat.add_assoc nid, Nat.reduceAdd, reduceCtorEq, ↓reduceIte, Nat.reduceLeDiff, Nat.reduceBneDiff, Option.toList, ← Int.ofNat_tmod, ← Int.ofNat_tdiv, Nat.reduceLT, e1, e2, e3, e4, e5, e6, e7, e8, e9]
  refine ⟨by unfold inI64; omega, by unfold inI64; omega, CallO.on (next_c _ _ _ _ _ _ (by omega) hp hA (by omega)) (subH_hit _ _ _) ?_⟩
  simp -dsimp only [aqT, aqU, aqN, ↓seqK, ↓blkK, ↓loopK, step, stepBin, Nat.reduceBEq, Nat.reduceBeqDiff, Nat.add_assoc nid, Nat.reduceAdd, reduceCtorEq, ↓reduceIte, Nat.reduceLeDiff, Nat.reduceBneDiff, Option.toList, ← Int.ofNat_tmod, ← Int.ofNat_tdiv, Nat.reduceLT, e1, e2, e3, e4, e5, e6, e7, e8, e9]
  have := nextV_bd A p (n := hi - lo + 1) (by omega)
  refine ⟨by unfold inI64; omega, RetOK.same (.inl rfl) rfl (by simp [strmC, liveIds]; omega) ?_ ?_⟩
  · simp [cvT, step, res, strmC]
  · simp [cvT, step, res, rangeV]
theorem flip_c (s nid : Nat) (nl : Bool) (A : List Int) (p : Nat) (n : Int) (h : s < nid) (hp : p ≤ 1099511627775) (hA : A.length ≤ 17592186044416) (hn : n ≤ 9223372036854775807) :
    ACall Tryd.prog 43 [.ptr s 0, .int .i64 n] [(s, strmC nl A p)] nid (.bool (flipV A p n)) [(s, strmC nl A (p + 1))] := by
  obtain ⟨e1, e2, e3, e4, e5, e6, e7, e8, e9⟩ := id_all h
  refine acall_run c43 (by simp [a43]) ?_
  simp -dsimp only [a43, aqT, aqU, aqN, ↓seqK, ↓blkK, ↓loopK, step, stepBin, Nat.reduceBEq, Nat.reduceBeqDiff, Nat.add_assoc nid, Nat.reduceAdd, reduceCtorEq, ↓reduceIte, Nat.reduceLeDiff, Nat.reduceBneDiff, Option.toList, ← Int.ofNat_tmod, ← Int.ofNat_tdiv, Nat.reduceLT, e1, e2, e3, e4, e5, e6, e7, e8, e9]
  refine CallO.on (next_c _ _ _ _ _ _ (by omega) hp hA hn) (subH_hit _ _ _) ?_
  simp -dsimp only [aqT, aqU, aqN, ↓seqK, ↓blkK, ↓loopK, step, stepBin, Nat.reduceBEq, Nat.reduceBeqDiff, Nat.add_assoc nid, Nat.reduceAdd, reduceCtorEq, ↓reduceIte, Nat.reduceLeDiff, Nat.reduceBneDiff, Option.toList, ← Int.ofNat_tmod, ← Int.ofNat_tdiv, Nat.reduceLT, e1, e2, e3, e4, e5, e6, e7, e8, e9]
  refine RetOK.same (.inl rfl) rfl (by simp [strmC, liveIds]; omega) ?_ ?_
  · simp [cvT, step, res, strmC]
  · simp [cvT, step, res, flipV]
theorem pick_c (s nid : Nat) (nl nl' : Bool) (A : List Int) (p : Nat) (n : Nat) (g : Nat → Int) (h : s < nid) (hp : p ≤ 1099511627775) (hA : A.length ≤ 17592186044416) (h1 : 0 < n) (hn : n ≤ 1099511627776) :
    ACall Tryd.prog 58 [.ptr s 0, .lit nl' n [.i .i64 g]] [(s, strmC nl A p)] nid (.int .i64 (g (pickI A p n))) [(s, strmC nl A (p + 1))] := by
  obtain ⟨e1, e2, e3, e4, e5, e6, e7, e8, e9⟩ := id_all h
  refine acall_run c58 (by simp [a58]) ?_
  simp -dsimp only [a58, aqT, aqU, aqN, ↓seqK, ↓blkK, ↓loopK, step, stepBin, Nat.reduceBEq, Nat.reduceBeqDiff, Nat.add_assoc nid, Nat.reduceAdd, reduceCtorEq, ↓reduceIte, Nat.reduceLeDiff, Nat.reduceBneDiff, Option.toList, ← Int.ofNat_tmod, ← Int.ofNat_tdiv, Nat.reduceLT, e1, e2, e3, e4, e5, e6, e7, e8, e9]
  refine CallO.on (next_c _ _ _ _ _ _ (by omega) hp hA (by omega)) (subH_hit _ _ _) ?_
  simp -dsimp only [aqT, aqU, aqN, ↓seqK, ↓blkK, ↓loopK, step, stepBin, Nat.reduceBEq, Nat.reduceBeqDiff, Nat.add_assoc nid, Nat.reduceAdd, reduceCtorEq, ↓reduceIte, Nat.reduceLeDiff, Nat.reduceBneDiff, Option.toList, ← Int.ofNat_tmod, ← Int.ofNat_tdiv, Nat.reduceLT, e1, e2, e3, e4, e5, e6, e7, e8, e9]
  have := nextV_bd A p (n := (n : Int)) (by omega)
  refine ⟨this, RetOK.same (.inl rfl) rfl (by simp [strmC, liveIds]; omega) ?_ ?_⟩
  · simp [cvT, step, res, strmC]
  · simp [cvT, step, res, pickI]
theorem CallX.pick_go {s id nid : Nat} {nl : Bool} {A : List Int} {p : Nat} {n T : Nat} {g : Nat → Int} {H : Heap} {K : PV → Heap → List Nat → Prop} (hs : getH H s = strmC nl A p) (hid : getH H id = some (.arr T n [.i .i64 g])) (hne : (s == id) = false) (h : s < nid) (hp : p ≤ 1099511627775) (hA : A.length ≤ 17592186044416) (h1 : 0 < n) (hn : n ≤ 1099511627776)
    (hK : K (.int .i64 (g (pickI A p n))) [(s, strmC nl A (p + 1)), (id, none)] [s, id]) : CallX Tryd.prog 58 [.ptr s 0, .sl id 0 n] H nid K := by
  refine CallX.given [id] (u := [(s, strmC nl A (p + 1))]) (fun nl' => ?_) (subH_get hs) (by simp [getH, hne]) hK
  have e : lends H [id] nl' [.ptr s 0, .sl id 0 n] = [.ptr s 0, .lit (nl' id) n [.i .i64 g]] := by simp [lends, lend, hid, noOs]
  rw [e]
  exact pick_c s _ nl _ A p n _ h hp hA h1 hn
theorem CallO.pick_go {s id nid : Nat} {nl : Bool} {A : List Int} {p : Nat} {n T : Nat} {g : Nat → Int} {H : Heap} {K : PV → Heap → Prop} (hs : getH H s = strmC nl A p) (hid : getH H id = some (.arr T n [.i .i64 g])) (hne : (s == id) = false) (h : s < nid) (hp : p ≤ 1099511627775) (hA : A.length ≤ 17592186044416) (h1 : 0 < n) (hn : n ≤ 1099511627776)
    (hK : K (.int .i64 (g (pickI A p n))) [(s, strmC nl A (p + 1)), (id, none)]) : CallOK Tryd.prog 58 [.ptr s 0, .sl id 0 n] H nid K :=
  CallO.x (CallX.pick_go hs hid hne h hp hA h1 hn hK)
end Go.Proofs.YthcldfmlfjomfaaDoor
namespace Go.Proofs.YthcldfmlfjomfaaDoor
open Go.RowKit
def arrI (l : List Int) : Option ABlk := some (.arr 3 l.length [.i .i64 fun i => l.getD i 0])
def litI (nl : Bool) (l : List Int) : PV := .lit nl l.length [.i .i64 fun i => l.getD i 0]
theorem out_c (x lo hi : Int) (nid : Nat) : ACall Tryd.prog 91 [.int .i64 x, .int .i64 lo, .int .i64 hi] [] nid (.bool (outB x lo hi)) [] := by
  refine acall_run c91 (by simp [a91]) ?_
  simp -dsimp only [a91, aqT, aqU, aqN, ↓seqK, ↓blkK, ↓loopK, step, stepBin, Nat.reduceBEq, Nat.reduceBeqDiff, Nat.add_assoc nid, Nat.reduceAdd, reduceCtorEq, ↓reduceIte, Nat.reduceLeDiff, Nat.reduceBneDiff, Option.toList, ← Int.ofNat_tmod, ← Int.ofNat_tdiv, Nat.reduceLT]
  refine S2.dec (fun h => ?_) (fun h => ?_) <;> simp -dsimp only [aqT, aqU, aqN, ↓seqK, ↓blkK, ↓loopK, step, stepBin, Nat.reduceBEq, Nat.reduceBeqDiff, Nat.add_assoc nid, Nat.reduceAdd, reduceCtorEq, ↓reduceIte, Nat.reduceLeDiff, Nat.reduceBneDiff, Option.toList, ← Int.ofNat_tmod, ← Int.ofNat_tdiv, Nat.reduceLT] <;> refine RetOK.pure (.inl rfl) rfl ?_ <;> simp [cvT, step, res, outB] <;> omega
theorem in_c (x lo hi : Int) (nid : Nat) : ACall Tryd.prog 89 [.int .i64 x, .int .i64 lo, .int .i64 hi] [] nid (.bool (!outB x lo hi)) [] := by
  refine acall_run c89 (by simp [a89]) ?_
  simp -dsimp only [a89, aqT, aqU, aqN, ↓seqK, ↓blkK, ↓loopK, step, stepBin, Nat.reduceBEq, Nat.reduceBeqDiff, Nat.add_assoc nid, Nat.reduceAdd, reduceCtorEq, ↓reduceIte, Nat.reduceLeDiff, Nat.reduceBneDiff, Option.toList, ← Int.ofNat_tmod, ← Int.ofNat_tdiv, Nat.reduceLT]
  refine S2.dec (fun h => ?_) (fun h => ?_) <;> simp -dsimp only [aqT, aqU, aqN, ↓seqK, ↓blkK, ↓loopK, step, stepBin, Nat.reduceBEq, Nat.reduceBeqDiff, Nat.add_assoc nid, Nat.reduceAdd, reduceCtorEq, ↓reduceIte, Nat.reduceLeDiff, Nat.reduceBneDiff, Option.toList, ← Int.ofNat_tmod, ← Int.ofNat_tdiv, Nat.reduceLT] <;> refine RetOK.pure (.inl rfl) rfl ?_ <;> simp [cvT, step, res, outB] <;> first | omega | (rw [Bool.eq_iff_iff]; simp; omega)
theorem take_eqS {l m : List Int} {k : Nat} (hl : k < l.length) (hm : k < m.length) (h : l.take k = m.take k) (hx : l.getD k 0 = m.getD k 0) : l.take (k + 1) = m.take (k + 1) := by
  rw [take_snoc (x := l.getD k 0) (by rw [List.getD_eq_getElem?_getD, List.getElem?_eq_getElem hl]; rfl), take_snoc (x := m.getD k 0) (by rw [List.getD_eq_getElem?_getD, List.getElem?_eq_getElem hm]; rfl), h, hx]
theorem equalI_c (nl nl' : Bool) (l m : List Int) (nid : Nat) (hl : l.length ≤ 1000000000000) (hm : m.length ≤ 1000000000000) : ACall Tryd.prog 47 [litI nl l, litI nl' m] [] nid (.bool (l == m)) [] := by
  refine acall_run c47 (by simp [a47]) ?_
  unfold litI
  simp -dsimp only [a47, aqT, aqU, aqN, ↓seqK, ↓blkK, ↓loopK, step, stepBin, Nat.reduceBEq, Nat.reduceBeqDiff, Nat.add_assoc nid, Nat.reduceAdd, reduceCtorEq, ↓reduceIte, Nat.reduceLeDiff, Nat.reduceBneDiff, Option.toList, ← Int.ofNat_tmod, ← Int.ofNat_tdiv, Nat.reduceLT]
  refine S2.intro (fun h => ?_) (fun h => ?_) <;> simp -dsimp only [aqT, aqU, aqN, ↓seqK, ↓blkK, ↓loopK, step, stepBin, Nat.reduceBEq, Nat.reduceBeqDiff, Nat.add_assoc nid, Nat.reduceAdd, reduceCtorEq, ↓reduceIte, Nat.reduceLeDiff, Nat.reduceBneDiff, Option.toList, ← Int.ofNat_tmod, ← Int.ofNat_tdiv, Nat.reduceLT]
  · refine RetOK.pure (.inl rfl) rfl ?_
    have h1 : l ≠ m := fun e => by subst e; simp at h
    have h2 : (l == m) = false := by simpa using h1
    simp [cvT, step, res, h1]
  have hlm : l.length = m.length := by have : (l.length : Int) = m.length := by simpa using h
                                       omega
  refine LP.mkP (fun k : Nat => k ≤ l.length ∧ l.take k = m.take k) (fun k : Nat => ⟨[(13, .int .i64 k), (12, .int .i64 l.length), (0, litI nl l), (1, litI nl' m)], [], nid + 36, nid⟩) (fun k => l.length + 1 - k) 0 ⟨by omega, rfl⟩ (Cov.go [] [] ?_) (fun k hk => ?_)
  · simp [cvT, step, res, litI]
  unfold litI
  obtain ⟨hk, ht⟩ := hk
  simp -dsimp only [aqT, aqU, aqN, ↓seqK, ↓blkK, ↓loopK, step, stepBin, Nat.reduceBEq, Nat.reduceBeqDiff, Nat.add_assoc nid, Nat.reduceAdd, reduceCtorEq, ↓reduceIte, Nat.reduceLeDiff, Nat.reduceBneDiff, Option.toList, ← Int.ofNat_tmod, ← Int.ofNat_tdiv, Nat.reduceLT]
  refine S2.dec (fun h3 => ?_) (fun h3 => ?_) <;> simp -dsimp only [aqT, aqU, aqN, ↓seqK, ↓blkK, ↓loopK, step, stepBin, Nat.reduceBEq, Nat.reduceBeqDiff, Nat.add_assoc nid, Nat.reduceAdd, reduceCtorEq, ↓reduceIte, Nat.reduceLeDiff, Nat.reduceBneDiff, Option.toList, ← Int.ofNat_tmod, ← Int.ofNat_tdiv, Nat.reduceLT]
  · refine ⟨by omega, by omega, S2.intro (fun h4 => ?_) (fun h4 => ?_)⟩ <;> simp -dsimp only [aqT, aqU, aqN, ↓seqK, ↓blkK, ↓loopK, step, stepBin, Nat.reduceBEq, Nat.reduceBeqDiff, Nat.add_assoc nid, Nat.reduceAdd, reduceCtorEq, ↓reduceIte, Nat.reduceLeDiff, Nat.reduceBneDiff, Option.toList, ← Int.ofNat_tmod, ← Int.ofNat_tdiv, Nat.reduceLT]
    · refine RetOK.pure (.inl rfl) rfl ?_
      have h1 : l ≠ m := fun e => by subst e; simp at h4
      simp [cvT, step, res, h1]
    · have h5 : l.getD k 0 = m.getD k 0 := by simpa using h4
      refine ⟨by unfold inI64; omega, k + 1, ⟨⟨by omega, take_eqS (by omega) (by omega) ht h5⟩, by omega⟩, Cov.go [] [] ?_⟩
      simp [cvT, step, res, litI]
  · have hkl : k = l.length := by omega
    have h1 : l = m := by rw [hkl] at ht; rw [List.take_length, hlm, List.take_length] at ht; exact ht
    refine RetOK.pure (.inl rfl) rfl ?_
    simp [cvT, step, res, h1]
theorem cloneI_c (nl : Bool) (l : List Int) (nid : Nat) (hl : l.length ≤ 1000000000) (hnl : nl = true → l = []) : ACall Tryd.prog 56 [litI nl l] [] nid (.sl nid 0 l.length) [(nid, arrI l)] := by
  refine acall_run c56 (by simp [a56]) ?_
  unfold litI
  simp -dsimp only [a56, aqT, aqU, aqN, ↓seqK, ↓blkK, ↓loopK, step, stepBin, Nat.reduceBEq, Nat.reduceBeqDiff, Nat.add_assoc nid, Nat.reduceAdd, reduceCtorEq, ↓reduceIte, Nat.reduceLeDiff, Nat.reduceBneDiff, Option.toList, ← Int.ofNat_tmod, ← Int.ofNat_tdiv, Nat.reduceLT]
  refine S2.intro (fun h => ?_) (fun h => ?_) <;> simp -dsimp only [aqT, aqU, aqN, ↓seqK, ↓blkK, ↓loopK, step, stepBin, Nat.reduceBEq, Nat.reduceBeqDiff, Nat.add_assoc nid, Nat.reduceAdd, reduceCtorEq, ↓reduceIte, Nat.reduceLeDiff, Nat.reduceBneDiff, Option.toList, ← Int.ofNat_tmod, ← Int.ofNat_tdiv, Nat.reduceLT]
  · refine RetOK.go [] [(nid, 1)] (.inl rfl) ?_
    have := hnl h
    subst this
    simp [a56, cvT, step, res, arrI]
  · refine ⟨⟨by omega, by omega⟩, RetOK.go [(nid, nid + 20)] [] (.inl rfl) ?_⟩
    simp [a56, cvT, step, res, arrI]
theorem index_c (nl : Bool) (l : List Int) (x : Int) (nid : Nat) (hl : l.length ≤ 1000000000) : ∃ r : Int, (0 ≤ r ↔ x ∈ l) ∧ ACall Tryd.prog 155 [litI nl l, .int .i64 x] [] nid (.int .i64 r) [] := by
  refine ⟨match l.findIdx? (· == x) with | some k => (k : Int) | none => -1, ?_, ?_⟩
  · cases h : l.findIdx? (· == x) with
    | none =>
      rw [List.findIdx?_eq_none_iff] at h
      simp only [Int.reduceNeg, Int.reduceLE, false_iff]
      exact fun hx => by simpa using h x hx
    | some k =>
      simp only [Int.natCast_nonneg, true_iff]
      obtain ⟨hk, h1, _⟩ := List.findIdx?_eq_some_iff_getElem.1 h
      have : l[k] = x := by simpa using h1
      rw [← this]; exact List.getElem_mem hk
  refine acall_run c155 (by simp [a155]) ?_
  unfold litI
  simp -dsimp only [aqT, aqU, aqN, ↓seqK, ↓blkK, ↓loopK, step, stepBin, Nat.reduceBEq, Nat.reduceBeqDiff, Nat.add_assoc nid, Nat.reduceAdd, reduceCtorEq, ↓reduceIte, Nat.reduceLeDiff, Nat.reduceBneDiff, Option.toList, ← Int.ofNat_tmod, ← Int.ofNat_tdiv, Nat.reduceLT, a155]
  refine LP.mkP (fun k : Nat => k ≤ l.length ∧ ∀ i, i < k → l.getD i 0 ≠ x) (fun k : Nat => ⟨[(8, .int .i64 k), (7, .int .i64 l.length), (0, litI nl l), (1, .int .i64 x)], [], nid + 1000, nid⟩) (fun k => l.length + 1 - k) 0 ?_ (Cov.go [] [] ?_) (fun k hk => ?_)
  · exact ⟨by omega, fun i hi => by omega⟩
  · simp [cvT, step, res, litI]
  unfold litI
  obtain ⟨hk, hno⟩ := hk
  have get : ∀ i (hi : i < l.length), l.getD i 0 = l[i] := fun i hi => by rw [List.getD_eq_getElem?_getD, List.getElem?_eq_getElem hi]; rfl
  simp -dsimp only [aqT, aqU, aqN, ↓seqK, ↓blkK, ↓loopK, step, stepBin, Nat.reduceBEq, Nat.reduceBeqDiff, Nat.add_assoc nid, Nat.reduceAdd, reduceCtorEq, ↓reduceIte, Nat.reduceLeDiff, Nat.reduceBneDiff, Option.toList, ← Int.ofNat_tmod, ← Int.ofNat_tdiv, Nat.reduceLT]
  refine S2.dec (fun h3 => ?_) (fun h3 => ?_) <;> simp -dsimp only [aqT, aqU, aqN, ↓seqK, ↓blkK, ↓loopK, step, stepBin, Nat.reduceBEq, Nat.reduceBeqDiff, Nat.add_assoc nid, Nat.reduceAdd, reduceCtorEq, ↓reduceIte, Nat.reduceLeDiff, Nat.reduceBneDiff, Option.toList, ← Int.ofNat_tmod, ← Int.ofNat_tdiv, Nat.reduceLT]
  · have hkl : k < l.length := by omega
    refine ⟨by omega, S2.intro (fun h4 => ?_) (fun h4 => ?_)⟩ <;> simp -dsimp only [aqT, aqU, aqN, ↓seqK, ↓blkK, ↓loopK, step, stepBin, Nat.reduceBEq, Nat.reduceBeqDiff, Nat.add_assoc nid, Nat.reduceAdd, reduceCtorEq, ↓reduceIte, Nat.reduceLeDiff, Nat.reduceBneDiff, Option.toList, ← Int.ofNat_tmod, ← Int.ofNat_tdiv, Nat.reduceLT]
    · have h5 : x = l.getD k 0 := by simpa using h4
      have : l.findIdx? (· == x) = some k := by
        rw [List.findIdx?_eq_some_iff_getElem]
        refine ⟨hkl, by rw [← get k hkl, ← h5]; simp, fun i hi => ?_⟩
        have := hno i hi
        rw [get i (by omega)] at this
        simpa using this
      rw [this]
      refine RetOK.pure (.inl rfl) rfl ?_
      simp [cvT, step, res]
    · have h5 : x ≠ l.getD k 0 := by simpa using h4
      refine ⟨by unfold inI64; omega, k + 1, ⟨⟨by omega, fun i hi => ?_⟩, by omega⟩, Cov.go [] [] ?_⟩
      · by_cases e : i = k
        · subst e; exact fun h => h5 h.symm
        · exact hno i (by omega)
      · simp [cvT, step, res, litI]
  · have : l.findIdx? (· == x) = none := by
      rw [List.findIdx?_eq_none_iff]
      intro y hy
      obtain ⟨i, hi, rfl⟩ := List.mem_iff_getElem.1 hy
      have := hno i (by omega)
      rw [get i hi] at this
      simpa using this
    rw [this]
    refine RetOK.pure (.inl rfl) rfl ?_
    simp [cvT, step, res]
theorem contains_c (nl : Bool) (l : List Int) (x : Int) (nid : Nat) (hl : l.length ≤ 1000000000) : ACall Tryd.prog 116 [litI nl l, .int .i64 x] [] nid (.bool (l.contains x)) [] := by
  refine acall_run c116 (by simp [a116]) ?_
  simp -dsimp only [a116, aqT, aqU, aqN, ↓seqK, ↓blkK, ↓loopK, step, stepBin, Nat.reduceBEq, Nat.reduceBeqDiff, Nat.add_assoc nid, Nat.reduceAdd, reduceCtorEq, ↓reduceIte, Nat.reduceLeDiff, Nat.reduceBneDiff, Option.toList, ← Int.ofNat_tmod, ← Int.ofNat_tdiv, Nat.reduceLT]
  obtain ⟨r, h1, h2⟩ := index_c nl l x (nid + 12) hl
  refine CallO.pure (h2) ?_
  simp -dsimp only [aqT, aqU, aqN, ↓seqK, ↓blkK, ↓loopK, step, stepBin, Nat.reduceBEq, Nat.reduceBeqDiff, Nat.add_assoc nid, Nat.reduceAdd, reduceCtorEq, ↓reduceIte, Nat.reduceLeDiff, Nat.reduceBneDiff, Option.toList, ← Int.ofNat_tmod, ← Int.ofNat_tdiv, Nat.reduceLT]
  have : decide (0 ≤ r) = l.contains x := by
    rw [Bool.eq_iff_iff]
    simp [h1]
  rw [this]
  refine RetOK.pure (.inl rfl) rfl ?_
  simp [cvT, step, res]
end Go.Proofs.YthcldfmlfjomfaaDoor
namespace Go.Proofs.YthcldfmlfjomfaaDoor
open Go.RowKit
theorem bits_c (s : List UInt8) (nid : Nat) (hs : s.length ≤ 1099511627776) : ACall Tryd.prog 92 [.str s] [] nid (.bool (bitsOk s)) [] := by
  refine acall_run c92 (by simp [a92]) ?_
  simp -dsimp only [aqT, aqU, aqN, ↓seqK, ↓blkK, ↓loopK, step, stepBin, Nat.reduceBEq, Nat.reduceBeqDiff, Nat.add_assoc nid, Nat.reduceAdd, reduceCtorEq, ↓reduceIte, Nat.reduceLeDiff, Nat.reduceBneDiff, Option.toList, ← Int.ofNat_tmod, ← Int.ofNat_tdiv, Nat.reduceLT, a92]
  refine CallO.pure (trim_cc s [48, 49] _ (by omega) (by decide) (by decide)) ?_
  simp -dsimp only [aqT, aqU, aqN, ↓seqK, ↓blkK, ↓loopK, step, stepBin, Nat.reduceBEq, Nat.reduceBeqDiff, Nat.add_assoc nid, Nat.reduceAdd, reduceCtorEq, ↓reduceIte, Nat.reduceLeDiff, Nat.reduceBneDiff, Option.toList, ← Int.ofNat_tmod, ← Int.ofNat_tdiv, Nat.reduceLT]
  rw [trim_bits]
  refine RetOK.pure (.inl rfl) rfl ?_
  simp [cvT, step, res]
theorem bitsFaultR_c (s : List UInt8) (nid : Nat) (hs : s.length ≤ 1099511627776) : ACall Tryd.prog 90 [.str s] [] nid (.int .i64 (if bitsOk s = true then 0 else 9)) [] := by
  refine acall_run c90 (by simp [a90]) ?_
  simp -dsimp only [aqT, aqU, aqN, ↓seqK, ↓blkK, ↓loopK, step, stepBin, Nat.reduceBEq, Nat.reduceBeqDiff, Nat.add_assoc nid, Nat.reduceAdd, reduceCtorEq, ↓reduceIte, Nat.reduceLeDiff, Nat.reduceBneDiff, Option.toList, ← Int.ofNat_tmod, ← Int.ofNat_tdiv, Nat.reduceLT, a90]
  refine CallO.pure (trim_cc s [48, 49] _ (by omega) (by decide) (by decide)) ?_
  simp -dsimp only [aqT, aqU, aqN, ↓seqK, ↓blkK, ↓loopK, step, stepBin, Nat.reduceBEq, Nat.reduceBeqDiff, Nat.add_assoc nid, Nat.reduceAdd, reduceCtorEq, ↓reduceIte, Nat.reduceLeDiff, Nat.reduceBneDiff, Option.toList, ← Int.ofNat_tmod, ← Int.ofNat_tdiv, Nat.reduceLT]
  rw [trim_bits]
  cases h : bitsOk s <;> simp -dsimp only [aqT, aqU, aqN, ↓seqK, ↓blkK, ↓loopK, step, stepBin, Nat.reduceBEq, Nat.reduceBeqDiff, Nat.add_assoc nid, Nat.reduceAdd, reduceCtorEq, ↓reduceIte, Nat.reduceLeDiff, Nat.reduceBneDiff, Option.toList, ← Int.ofNat_tmod, ← Int.ofNat_tdiv, Nat.reduceLT]
  · refine RetOK.pure (.inl rfl) rfl ?_
    simp [cvT, step, res]
  · refine RetOK.pure (.inl rfl) rfl ?_
    simp [cvT, step, res]
theorem or_c (nl : Bool) (l : List Int) (nid : Nat) (hl : l.length ≤ 1000000000) : ACall Tryd.prog 45 [litI nl l] [] nid (.int .i64 (firstBad (fun x : Int => x) l)) [] := by
  refine acall_run c45 (by simp [a45]) ?_
  unfold litI
  simp -dsimp only [aqT, aqU, aqN, ↓seqK, ↓blkK, ↓loopK, step, stepBin, Nat.reduceBEq, Nat.reduceBeqDiff, Nat.add_assoc nid, Nat.reduceAdd, reduceCtorEq, ↓reduceIte, Nat.reduceLeDiff, Nat.reduceBneDiff, Option.toList, ← Int.ofNat_tmod, ← Int.ofNat_tdiv, Nat.reduceLT, a45]
  refine LP.mkP (fun k : Nat => k ≤ l.length ∧ firstBad (fun x : Int => x) (l.take k) = 0) (fun k : Nat => ⟨[(8, .int .i64 k), (7, .int .i64 l.length), (6, litI nl l), (3, .int .i64 0)], [], nid + 100, nid⟩) (fun k => l.length + 1 - k) 0 ⟨by omega, rfl⟩ (Cov.go [] [] ?_) (fun k hk => ?_)
  · simp [cvT, step, res, litI]
  unfold litI
  obtain ⟨hk, hb⟩ := hk
  simp -dsimp only [aqT, aqU, aqN, aqS, ↓seqK, ↓blkK, ↓loopK, step, stepBin, Nat.add_assoc nid, ↓reduceIte, Option.toList, ← Int.ofNat_tmod, ← Int.ofNat_tdiv, simprocAttr, BEq.rfl, LN_succ]
  refine S2.dec (fun h3 => ?_) (fun h3 => ?_) <;> simp -dsimp only [aqT, aqU, aqN, aqS, ↓seqK, ↓blkK, ↓loopK, step, stepBin, Nat.add_assoc nid, ↓reduceIte, Option.toList, ← Int.ofNat_tmod, ← Int.ofNat_tdiv, simprocAttr, BEq.rfl, LN_succ]
  · have hkl : k < l.length := by omega
    have bad : l.getD k 0 ≠ 0 → firstBad (fun x : Int => x) l = l.getD k 0 := fun h => firstBad_hit (x := l.getD k 0) (by rw [List.getD_eq_getElem?_getD, List.getElem?_eq_getElem hkl]; rfl) hb h
    have good : l.getD k 0 = 0 → firstBad (fun x : Int => x) (l.take (k + 1)) = 0 := fun h => firstBad_step (x := l.getD k 0) (by rw [List.getD_eq_getElem?_getD, List.getElem?_eq_getElem hkl]; rfl) hb h
    refine ⟨by omega, S2.intro (fun h4 => ?_) (fun h4 => ?_)⟩ <;> simp -dsimp only [aqT, aqU, aqN, aqS, ↓seqK, ↓blkK, ↓loopK, step, stepBin, Nat.add_assoc nid, ↓reduceIte, Option.toList, ← Int.ofNat_tmod, ← Int.ofNat_tdiv, simprocAttr, BEq.rfl, LN_succ]
    · rw [bad (by simpa using h4)]
      refine RetOK.pure (.inl rfl) rfl ?_
      simp [cvT, step, res]
    · refine ⟨by unfold inI64; omega, k + 1, ⟨⟨by omega, good (by simpa using h4)⟩, by omega⟩, Cov.go [] [] ?_⟩
      simp [cvT, step, res, litI]
  · have hkn : k = l.length := by omega
    subst hkn
    rw [List.take_length] at hb
    rw [hb]
    refine RetOK.pure (.inl rfl) rfl ?_
    simp [cvT, step, res]
end Go.Proofs.YthcldfmlfjomfaaDoor
namespace Go.Proofs.YthcldfmlfjomfaaDoor
open Go.RowKit
theorem oddI_c (s nid : Nat) (nl : Bool) (A : List Int) (p : Nat) (lo hi : Int) (h : s < nid) (hp : p ≤ 1099511627000) (hA : A.length ≤ 17592186044416) (h1 : lo ≤ hi) (hl : -1000000 ≤ lo) (hh : hi ≤ 1000000) :
    ∃ x : Int, (-1099511627776 ≤ x ∧ x ≤ 1099511627776) ∧ ACall Tryd.prog 57 [.ptr s 0, .int .i64 lo, .int .i64 hi] [(s, strmC nl A p)] nid (.int .i64 x) [(s, strmC nl A (p + 2))] := by
  obtain ⟨e1, e2, e3, e4, e5, e6, e7, e8, e9⟩ := id_all h
  refine acall_ex c57 (by simp [a57]) ?_
  simp -dsimp only [aqT0, ROp0, aqT, aqU, aqN, aqS, ↓seqK, ↓blkK, ↓loopK, step, stepBin, Nat.add_assoc nid, ↓reduceIte, Option.toList, ← Int.ofNat_tmod, ← Int.ofNat_tdiv, simprocAttr, BEq.rfl, LN_succ, e1, e2, e3, e4, e5, e6, e7, e8, e9, a57, strmC_low]
  refine CallX.on (flip_c s _ nl A p _ (by omega) (by omega) hA (by omega)) (subH_get (by simp only [aqT, aqU, aqN, ↓seqK, ↓blkK, ↓loopK, step, stepBin, Nat.reduceBEq, Nat.reduceBeqDiff, Nat.add_assoc nid, Nat.reduceAdd, reduceCtorEq, ↓reduceIte, Nat.reduceLeDiff, Nat.reduceBneDiff, Option.toList, ← Int.ofNat_tmod, ← Int.ofNat_tdiv, Nat.reduceLT, e1, e2, e3, e4, e5, e6, e7, e8, e9])) ?_
  simp -dsimp only [aqT0, ROp0, aqT, aqU, aqN, aqS, ↓seqK, ↓blkK, ↓loopK, step, stepBin, Nat.add_assoc nid, ↓reduceIte, Option.toList, ← Int.ofNat_tmod, ← Int.ofNat_tdiv, simprocAttr, BEq.rfl, LN_succ, e1, e2, e3, e4, e5, e6, e7, e8, e9, strmC_low]
  refine S2.intro (fun h2 => ?_) (fun h2 => ?_) <;> simp -dsimp only [aqT0, ROp0, aqT, aqU, aqN, aqS, ↓seqK, ↓blkK, ↓loopK, step, stepBin, Nat.add_assoc nid, ↓reduceIte, Option.toList, ← Int.ofNat_tmod, ← Int.ofNat_tdiv, simprocAttr, BEq.rfl, LN_succ, e1, e2, e3, e4, e5, e6, e7, e8, e9, strmC_low]
  · refine ⟨by unfold inI64; omega, by unfold inI64; omega, CallX.pick_go (T := 3) (nl := nl) (A := A) (p := p + 1) (g := fun i => [lo - 1, hi + 1, lo, hi, -1099511627776, 1099511627776].getD i 0) (by simp only [aqT, aqU, aqN, ↓seqK, ↓blkK, ↓loopK, step, stepBin, Nat.reduceBEq, Nat.reduceBeqDiff, Nat.add_assoc nid, Nat.reduceAdd, reduceCtorEq, ↓reduceIte, Nat.reduceLeDiff, Nat.reduceBneDiff, Option.toList, ← Int.ofNat_tmod, ← Int.ofNat_tdiv, Nat.reduceLT, e1, e2, e3, e4, e5, e6, e7, e8, e9]) (by simp only [aqT, aqU, aqN, ↓seqK, ↓blkK, ↓loopK, step, stepBin, Nat.reduceBEq, Nat.reduceBeqDiff, Nat.add_assoc nid, Nat.reduceAdd, reduceCtorEq, ↓reduceIte, Nat.reduceLeDiff, Nat.reduceBneDiff, Option.toList, ← Int.ofNat_tmod, ← Int.ofNat_tdiv, Nat.reduceLT, e1, e2, e3, e4, e5, e6, e7, e8, e9]) (by simp only [aqT, aqU, aqN, ↓seqK, ↓blkK, ↓loopK, step, stepBin, Nat.reduceBEq, Nat.reduceBeqDiff, Nat.add_assoc nid, Nat.reduceAdd, reduceCtorEq, ↓reduceIte, Nat.reduceLeDiff, Nat.reduceBneDiff, Option.toList, ← Int.ofNat_tmod, ← Int.ofNat_tdiv, Nat.reduceLT, e1, e2, e3, e4, e5, e6, e7, e8, e9]) (by omega) (by omega) hA (by omega) (by omega) ?_⟩
    simp -dsimp only [aqT0, ROp0, aqT, aqU, aqN, aqS, ↓seqK, ↓blkK, ↓loopK, step, stepBin, Nat.add_assoc nid, ↓reduceIte, Option.toList, ← Int.ofNat_tmod, ← Int.ofNat_tdiv, simprocAttr, BEq.rfl, LN_succ, e1, e2, e3, e4, e5, e6, e7, e8, e9, strmC_low]
    have hb := pickV_bd A (p + 1) (l := [lo - 1, hi + 1, lo, hi, -1099511627776, 1099511627776]) (lo := -1099511627776) (hi := 1099511627776) (by simp) (by simp; omega)
    refine EndOK.mk _ hb ?_
    refine RetOK.go [] [] (.inl rfl) ?_
    simp [a57, cvT, step, res, e1, e2, e3, e4, e5, e6, e7, e8, e9, strmC, pickV]
    omega
  · refine CallX.on (range_c s _ nl A (p + 1) _ _ (by omega) (by omega) hA h1 (by omega) (by omega)) (subH_get (by simp only [aqT, aqU, aqN, ↓seqK, ↓blkK, ↓loopK, step, stepBin, Nat.reduceBEq, Nat.reduceBeqDiff, Nat.add_assoc nid, Nat.reduceAdd, reduceCtorEq, ↓reduceIte, Nat.reduceLeDiff, Nat.reduceBneDiff, Option.toList, ← Int.ofNat_tmod, ← Int.ofNat_tdiv, Nat.reduceLT, e1, e2, e3, e4, e5, e6, e7, e8, e9])) ?_
    simp -dsimp only [aqT0, ROp0, aqT, aqU, aqN, aqS, ↓seqK, ↓blkK, ↓loopK, step, stepBin, Nat.add_assoc nid, ↓reduceIte, Option.toList, ← Int.ofNat_tmod, ← Int.ofNat_tdiv, simprocAttr, BEq.rfl, LN_succ, e1, e2, e3, e4, e5, e6, e7, e8, e9, strmC_low]
    have hb := rangeV_bd A (p + 1) h1
    refine EndOK.mk (rangeV A (p + 1) lo hi) (by omega) ?_
    refine RetOK.go [] [] (.inl rfl) ?_
    simp [a57, cvT, step, res, e1, e2, e3, e4, e5, e6, e7, e8, e9, strmC]
    omega
theorem some_c (s nid : Nat) (nl nl' : Bool) (A : List Int) (p : Nat) (n : Nat) (g : Nat → List UInt8) (h : s < nid) (hp : p ≤ 1099511627775) (hA : A.length ≤ 17592186044416) (h1 : 0 < n) (hn : n ≤ 1099511627776) :
    ACall Tryd.prog 86 [.ptr s 0, .lit nl' n [.s g]] [(s, strmC nl A p)] nid (.str (g (pickI A p n))) [(s, strmC nl A (p + 1))] := by
  obtain ⟨e1, e2, e3, e4, e5, e6, e7, e8, e9⟩ := id_all h
  refine acall_run c86 (by simp [a86]) ?_
  simp -dsimp only [aqT, aqU, aqN, ↓seqK, ↓blkK, ↓loopK, step, stepBin, Nat.reduceBEq, Nat.reduceBeqDiff, Nat.add_assoc nid, Nat.reduceAdd, reduceCtorEq, ↓reduceIte, Nat.reduceLeDiff, Nat.reduceBneDiff, Option.toList, ← Int.ofNat_tmod, ← Int.ofNat_tdiv, Nat.reduceLT, e1, e2, e3, e4, e5, e6, e7, e8, e9, a86]
  refine CallO.on (next_c _ _ _ _ _ _ (by omega) hp hA (by omega)) (subH_hit _ _ _) ?_
  simp -dsimp only [aqT, aqU, aqN, ↓seqK, ↓blkK, ↓loopK, step, stepBin, Nat.reduceBEq, Nat.reduceBeqDiff, Nat.add_assoc nid, Nat.reduceAdd, reduceCtorEq, ↓reduceIte, Nat.reduceLeDiff, Nat.reduceBneDiff, Option.toList, ← Int.ofNat_tmod, ← Int.ofNat_tdiv, Nat.reduceLT, e1, e2, e3, e4, e5, e6, e7, e8, e9]
  have := nextV_bd A p (n := (n : Int)) (by omega)
  refine ⟨this, RetOK.same (.inl rfl) rfl (by simp [strmC, liveIds]; omega) ?_ ?_⟩
  · simp [cvT, step, res, strmC]
  · simp [cvT, step, res, pickI]
theorem CallX.some_go {s id nid : Nat} {nl : Bool} {A : List Int} {p : Nat} {n T : Nat} {g : Nat → List UInt8} {H : Heap} {K : PV → Heap → List Nat → Prop} (hs : getH H s = strmC nl A p) (hid : getH H id = some (.arr T n [.s g])) (hne : (s == id) = false) (h : s < nid) (hp : p ≤ 1099511627775) (hA : A.length ≤ 17592186044416) (h1 : 0 < n) (hn : n ≤ 1099511627776)
    (hK : K (.str (g (pickI A p n))) [(s, strmC nl A (p + 1)), (id, none)] [s, id]) : CallX Tryd.prog 86 [.ptr s 0, .sl id 0 n] H nid K := by
  refine CallX.given [id] (u := [(s, strmC nl A (p + 1))]) (fun nl' => ?_) (subH_get hs) (by simp [getH, hne]) hK
  have e : lends H [id] nl' [.ptr s 0, .sl id 0 n] = [.ptr s 0, .lit (nl' id) n [.s g]] := by simp [lends, lend, hid, noOs]
  rw [e]
  exact some_c s _ nl _ A p n _ h hp hA h1 hn
theorem CallO.some_go {s id nid : Nat} {nl : Bool} {A : List Int} {p : Nat} {n T : Nat} {g : Nat → List UInt8} {H : Heap} {K : PV → Heap → Prop} (hs : getH H s = strmC nl A p) (hid : getH H id = some (.arr T n [.s g])) (hne : (s == id) = false) (h : s < nid) (hp : p ≤ 1099511627775) (hA : A.length ≤ 17592186044416) (h1 : 0 < n) (hn : n ≤ 1099511627776)
    (hK : K (.str (g (pickI A p n))) [(s, strmC nl A (p + 1)), (id, none)]) : CallOK Tryd.prog 86 [.ptr s 0, .sl id 0 n] H nid K :=
  CallO.x (CallX.some_go hs hid hne h hp hA h1 hn hK)
theorem getD_all {α : Type} {P : α → Prop} {l : List α} {d : α} (h : ∀ x ∈ l, P x) {i : Nat} (hi : i < l.length) : P (l.getD i d) := by
  rw [List.getD_eq_getElem?_getD, List.getElem?_eq_getElem hi]
  exact h _ (List.getElem_mem _)
def bit01 (b : UInt8) : Bool := b == 48 || b == 49
theorem bitsX (s nid : Nat) (nl : Bool) (A : List Int) (p n : Nat) (h : s < nid) (hn : n ≤ 1000000) (hp : p ≤ 1099510000000) (hA : A.length ≤ 17592186044416) :
    ∃ t : List UInt8, (t.length = n ∧ t.all bit01 = true) ∧ ACall Tryd.prog 84 [.ptr s 0, .int .i64 n] [(s, strmC nl A p)] nid (.str t) [(s, strmC nl A (p + n))] := by
  obtain ⟨e1, e2, e3, e4, e5, e6, e7, e8, e9⟩ := id_all h
  refine acall_ex c84 (by simp [a84]) ?_
  simp -dsimp only [aqT0, ROp0, aqT, aqU, aqN, aqS, ↓seqK, ↓blkK, ↓loopK, step, stepBin, Nat.add_assoc nid, ↓reduceIte, Option.toList, ← Int.ofNat_tmod, ← Int.ofNat_tdiv, simprocAttr, BEq.rfl, LN_succ, e1, e2, e3, e4, e5, e6, e7, e8, e9, a84, strmC_low]
  refine LP0.mkP (fun x : List UInt8 => x.length ≤ n ∧ x.all bit01 = true) (fun x => ⟨[(7, .int .i64 x.length), (6, .int .i64 n), (5, .str x), (0, .ptr s 0)], [(s, strmC nl A (p + x.length))], nid + 100, nid⟩) (fun x => n - x.length) [] (by simp) (Cov.go [] [] ?_) (fun x hx => ?_)
  · simp [cvT, step, res, e1, e2, e3, e4, e5, e6, e7, e8, e9, strmC]
  obtain ⟨hx1, hx2⟩ := hx
  simp -dsimp only [aqT0, ROp0, aqT, aqU, aqN, aqS, ↓seqK, ↓blkK, ↓loopK, step, stepBin, Nat.add_assoc nid, ↓reduceIte, Option.toList, ← Int.ofNat_tmod, ← Int.ofNat_tdiv, simprocAttr, BEq.rfl, LN_succ, e1, e2, e3, e4, e5, e6, e7, e8, e9, strmC_low]
  refine S2.dec (fun h2 => ?_) (fun h2 => ?_) <;> simp -dsimp only [aqT0, ROp0, aqT, aqU, aqN, aqS, ↓seqK, ↓blkK, ↓loopK, step, stepBin, Nat.add_assoc nid, ↓reduceIte, Option.toList, ← Int.ofNat_tmod, ← Int.ofNat_tdiv, simprocAttr, BEq.rfl, LN_succ, e1, e2, e3, e4, e5, e6, e7, e8, e9, strmC_low]
  · refine CallX.some_go (T := 9) (nl := nl) (A := A) (p := p + x.length) (g := fun i => [[48], [49]].getD i []) (by simp only [aqT, aqU, aqN, ↓seqK, ↓blkK, ↓loopK, step, stepBin, Nat.reduceBEq, Nat.reduceBeqDiff, Nat.add_assoc nid, Nat.reduceAdd, reduceCtorEq, ↓reduceIte, Nat.reduceLeDiff, Nat.reduceBneDiff, Option.toList, ← Int.ofNat_tmod, ← Int.ofNat_tdiv, Nat.reduceLT, e1, e2, e3, e4, e5, e6, e7, e8, e9]) (by simp only [aqT, aqU, aqN, ↓seqK, ↓blkK, ↓loopK, step, stepBin, Nat.reduceBEq, Nat.reduceBeqDiff, Nat.add_assoc nid, Nat.reduceAdd, reduceCtorEq, ↓reduceIte, Nat.reduceLeDiff, Nat.reduceBneDiff, Option.toList, ← Int.ofNat_tmod, ← Int.ofNat_tdiv, Nat.reduceLT, e1, e2, e3, e4, e5, e6, e7, e8, e9]) (by simp only [aqT, aqU, aqN, ↓seqK, ↓blkK, ↓loopK, step, stepBin, Nat.reduceBEq, Nat.reduceBeqDiff, Nat.add_assoc nid, Nat.reduceAdd, reduceCtorEq, ↓reduceIte, Nat.reduceLeDiff, Nat.reduceBneDiff, Option.toList, ← Int.ofNat_tmod, ← Int.ofNat_tdiv, Nat.reduceLT, e1, e2, e3, e4, e5, e6, e7, e8, e9]) (by omega) (by omega) hA (by omega) (by omega) ?_
    simp -dsimp only [aqT0, ROp0, aqT, aqU, aqN, aqS, ↓seqK, ↓blkK, ↓loopK, step, stepBin, Nat.add_assoc nid, ↓reduceIte, Option.toList, ← Int.ofNat_tmod, ← Int.ofNat_tdiv, simprocAttr, BEq.rfl, LN_succ, e1, e2, e3, e4, e5, e6, e7, e8, e9, strmC_low]
    have hb : ([[48], [49]].getD (pickI A (p + x.length) 2) [] : List UInt8) = [48] ∨ ([[48], [49]].getD (pickI A (p + x.length) 2) [] : List UInt8) = [49] := by
      have := pickI_lt A (p + x.length) (n := 2) (by omega)
      rcases (by omega : pickI A (p + x.length) 2 = 0 ∨ pickI A (p + x.length) 2 = 1) with e | e <;> rw [e] <;> simp
    generalize ([[48], [49]].getD (pickI A (p + x.length) 2) [] : List UInt8) = b at hb ⊢
    have hbl : b.length = 1 ∧ b.all bit01 = true := by rcases hb with rfl | rfl <;> exact ⟨rfl, rfl⟩
    refine ⟨by omega, by unfold inI64; omega, x ++ b, ⟨⟨by rw [List.length_append]; omega, by rw [List.all_append, hx2, hbl.2]; rfl⟩, by rw [List.length_append]; omega⟩, Cov.go [] [] ?_⟩
    have e : (x ++ b).length = x.length + 1 := by rw [List.length_append, hbl.1]
    have e2 : ((x ++ b).length : Int) = (x.length : Int) + 1 := by omega
    simp [cvT, step, res, e1, e2, e3, e4, e5, e6, e7, e8, e9, strmC, e, e2, -List.length_append]
    omega
  · have e : x.length = n := by omega
    refine EndOK.mk x ⟨e, hx2⟩ ?_
    refine RetOK.go [] [] (.inl rfl) ?_
    simp [a84, cvT, step, res, e1, e2, e3, e4, e5, e6, e7, e8, e9, strmC, e]
theorem enc_all : ((List.range 256).all fun n => decide ((Utf8.encode (IntKind.i32.wrap (n : Int))).data.toList.length ≤ 2)) = true := by kernel_rfl
theorem enc_len (b : UInt8) : (Utf8.encode (IntKind.i32.wrap ((b.toNat : Nat) : Int))).data.toList.length ≤ 2 := by
  have := List.all_eq_true.1 enc_all b.toNat (List.mem_range.2 (UInt8.toNat_lt b))
  simpa using this
theorem changedX (s nid : Nat) (nl : Bool) (A : List Int) (p : Nat) (t w : List UInt8) (h : s < nid) (ht : t.length ≤ 1000000000) (hw : w.length ≤ 1000) (hp : p ≤ 1099511627000) (hA : A.length ≤ 17592186044416) :
    ∃ x : List UInt8 × Nat, (x.1.length ≤ t.length + w.length + 2 ∧ x.2 ≤ p + 3) ∧ ACall Tryd.prog 87 [.ptr s 0, .str t, .str w] [(s, strmC nl A p)] nid (.str x.1) [(s, strmC nl A x.2)] := by
  obtain ⟨e1, e2, e3, e4, e5, e6, e7, e8, e9⟩ := id_all h
  refine acall_ex c87 (by simp [a87]) ?_
  simp -dsimp only [aqT0, ROp0, aqT, aqU, aqN, aqS, ↓seqK, ↓blkK, ↓loopK, step, stepBin, Nat.add_assoc nid, ↓reduceIte, Option.toList, ← Int.ofNat_tmod, ← Int.ofNat_tdiv, simprocAttr, BEq.rfl, LN_succ, e1, e2, e3, e4, e5, e6, e7, e8, e9, a87, strmC_low]
  have fin : ∀ st : ST, getS st.slots 6 = .str w → st.heap = [(s, strmC nl A p)] → EndOK (fun x : List UInt8 × Nat => x.1.length ≤ t.length + w.length + 2 ∧ x.2 ≤ p + 3) (a87).res [(s, strmC nl A p)] nid (fun x => .str x.1) (fun x => [(s, strmC nl A x.2)]) .ret st := fun st hs hh => by
    refine EndOK.mk (w, p) ⟨by show w.length ≤ _; omega, by show p ≤ _; omega⟩ ?_
    refine RetOK.go [] [] (.inl rfl) ?_
    rw [hh]
    simp [a87, cvT, step, res, e1, e2, e3, e4, e5, e6, e7, e8, e9, strmC, hs]
  refine S2.intro (fun h1 => ?_) (fun h1 => ?_) <;> simp -dsimp only [aqT0, ROp0, aqT, aqU, aqN, aqS, ↓seqK, ↓blkK, ↓loopK, step, stepBin, Nat.add_assoc nid, ↓reduceIte, Option.toList, ← Int.ofNat_tmod, ← Int.ofNat_tdiv, simprocAttr, BEq.rfl, LN_succ, e1, e2, e3, e4, e5, e6, e7, e8, e9, strmC_low]
  · exact fin _ rfl rfl
  refine S2.intro (fun h2 => ?_) (fun h2 => ?_) <;> simp -dsimp only [aqT0, ROp0, aqT, aqU, aqN, aqS, ↓seqK, ↓blkK, ↓loopK, step, stepBin, Nat.add_assoc nid, ↓reduceIte, Option.toList, ← Int.ofNat_tmod, ← Int.ofNat_tdiv, simprocAttr, BEq.rfl, LN_succ, e1, e2, e3, e4, e5, e6, e7, e8, e9, strmC_low]
  · exact fin _ rfl rfl
  clear fin
  have ht0 : 0 < t.length := by
    cases t with
    | nil => simp at h1
    | cons b t => simp
  have hw0 : 0 < w.length := by
    cases w with
    | nil => simp at h2
    | cons b w => simp
  refine CallX.on (next_c s _ nl A p _ (by omega) (by omega) hA (by omega)) (subH_get (by simp only [aqT, aqU, aqN, ↓seqK, ↓blkK, ↓loopK, step, stepBin, Nat.reduceBEq, Nat.reduceBeqDiff, Nat.add_assoc nid, Nat.reduceAdd, reduceCtorEq, ↓reduceIte, Nat.reduceLeDiff, Nat.reduceBneDiff, Option.toList, ← Int.ofNat_tmod, ← Int.ofNat_tdiv, Nat.reduceLT, e1, e2, e3, e4, e5, e6, e7, e8, e9])) ?_
  simp -dsimp only [aqT0, ROp0, aqT, aqU, aqN, aqS, ↓seqK, ↓blkK, ↓loopK, step, stepBin, Nat.add_assoc nid, ↓reduceIte, Option.toList, ← Int.ofNat_tmod, ← Int.ofNat_tdiv, simprocAttr, BEq.rfl, LN_succ, e1, e2, e3, e4, e5, e6, e7, e8, e9, strmC_low]
  have hb := nextV_bd A p (n := (t.length : Int)) (by omega)
  obtain ⟨I, hI⟩ : ∃ I : Nat, nextV A p (t.length : Int) = I := ⟨_, (Int.toNat_of_nonneg hb.1).symm⟩
  rw [hI] at hb ⊢
  refine CallX.on (next_c s _ nl A (p + 1) _ (by omega) (by omega) hA (by omega)) (subH_get (by simp only [aqT, aqU, aqN, ↓seqK, ↓blkK, ↓loopK, step, stepBin, Nat.reduceBEq, Nat.reduceBeqDiff, Nat.add_assoc nid, Nat.reduceAdd, reduceCtorEq, ↓reduceIte, Nat.reduceLeDiff, Nat.reduceBneDiff, Option.toList, ← Int.ofNat_tmod, ← Int.ofNat_tdiv, Nat.reduceLT, e1, e2, e3, e4, e5, e6, e7, e8, e9])) ?_
  simp -dsimp only [aqT0, ROp0, aqT, aqU, aqN, aqS, ↓seqK, ↓blkK, ↓loopK, step, stepBin, Nat.add_assoc nid, ↓reduceIte, Option.toList, ← Int.ofNat_tmod, ← Int.ofNat_tdiv, simprocAttr, BEq.rfl, LN_succ, e1, e2, e3, e4, e5, e6, e7, e8, e9, strmC_low]
  have hb2 := nextV_bd A (p + 1) (n := (w.length : Int)) (by omega)
  obtain ⟨J, hJ⟩ : ∃ J : Nat, nextV A (p + 1) (w.length : Int) = J := ⟨_, (Int.toNat_of_nonneg hb2.1).symm⟩
  rw [hJ] at hb2 ⊢
  refine ⟨by omega, ?_⟩
  refine CallX.on (next_c s _ nl A (p + 1 + 1) _ (by omega) (by omega) hA (by omega)) (subH_get (by simp only [aqT, aqU, aqN, ↓seqK, ↓blkK, ↓loopK, step, stepBin, Nat.reduceBEq, Nat.reduceBeqDiff, Nat.add_assoc nid, Nat.reduceAdd, reduceCtorEq, ↓reduceIte, Nat.reduceLeDiff, Nat.reduceBneDiff, Option.toList, ← Int.ofNat_tmod, ← Int.ofNat_tdiv, Nat.reduceLT, e1, e2, e3, e4, e5, e6, e7, e8, e9])) ?_
  simp -dsimp only [aqT0, ROp0, aqT, aqU, aqN, aqS, ↓seqK, ↓blkK, ↓loopK, step, stepBin, Nat.add_assoc nid, ↓reduceIte, Option.toList, ← Int.ofNat_tmod, ← Int.ofNat_tdiv, simprocAttr, BEq.rfl, LN_succ, e1, e2, e3, e4, e5, e6, e7, e8, e9, strmC_low]
  have henc := enc_len (w.getD J 0)
  have fin : ∀ (x : List UInt8) (st : ST), x.length ≤ t.length + w.length + 2 → getS st.slots 6 = .str x → st.heap = [(s, strmC nl A (p + 1 + 1 + 1)), (s, strmC nl A (p + 1 + 1)), (s, strmC nl A (p + 1)), (s, strmC nl A p)] → EndOK (fun x : List UInt8 × Nat => x.1.length ≤ t.length + w.length + 2 ∧ x.2 ≤ p + 3) (a87).res [(s, strmC nl A p)] nid (fun x => .str x.1) (fun x => [(s, strmC nl A x.2)]) .ret st := fun x st hx hs hh => by
    refine EndOK.mk (x, p + 3) ⟨hx, Nat.le_refl _⟩ ?_
    refine RetOK.go [] [] (.inl rfl) ?_
    rw [hh]
    simp [a87, cvT, step, res, e1, e2, e3, e4, e5, e6, e7, e8, e9, strmC, hs]
    omega
  refine S2.intro (fun h3 => ?_) (fun h3 => ?_) <;> simp -dsimp only [aqT0, ROp0, aqT, aqU, aqN, aqS, ↓seqK, ↓blkK, ↓loopK, step, stepBin, Nat.add_assoc nid, ↓reduceIte, Option.toList, ← Int.ofNat_tmod, ← Int.ofNat_tdiv, simprocAttr, BEq.rfl, LN_succ, e1, e2, e3, e4, e5, e6, e7, e8, e9, strmC_low]
  · refine ⟨⟨by omega, by omega⟩, by simp only [List.length_take]; omega, by unfold inI64; omega, ⟨by omega, by omega⟩, by simp only [List.length_append, List.length_take, List.length_drop]; omega, ?_⟩
    exact fin _ _ (by simp only [List.length_append, List.length_take, List.length_drop]; omega) rfl rfl
  refine S2.intro (fun h4 => ?_) (fun h4 => ?_) <;> simp -dsimp only [aqT0, ROp0, aqT, aqU, aqN, aqS, ↓seqK, ↓blkK, ↓loopK, step, stepBin, Nat.add_assoc nid, ↓reduceIte, Option.toList, ← Int.ofNat_tmod, ← Int.ofNat_tdiv, simprocAttr, BEq.rfl, LN_succ, e1, e2, e3, e4, e5, e6, e7, e8, e9, strmC_low]
  · refine ⟨⟨by omega, by omega⟩, by simp only [List.length_take]; omega, ⟨by omega, by omega⟩, by simp only [List.length_append, List.length_take, List.length_drop]; omega, ?_⟩
    exact fin _ _ (by simp only [List.length_append, List.length_take, List.length_drop]; omega) rfl rfl
  · refine ⟨⟨by omega, by omega⟩, by unfold inI64; omega, ⟨by omega, by omega⟩, by simp only [List.length_take, List.length_drop]; omega, ?_⟩
    exact fin _ _ (by simp only [List.length_append, List.length_take, List.length_drop]; omega) rfl rfl
end Go.Proofs.YthcldfmlfjomfaaDoor
namespace Go.Proofs.YthcldfmlfjomfaaDoor
open Go.RowKit
def arrS (l : List (List UInt8)) : Option ABlk := some (.arr 9 l.length [.s fun i => l.getD i []])
theorem getD_app1 (l : List (List UInt8)) (x : List UInt8) {n : Nat} (hn : l.length = n) : (fun i => if i < n then l.getD i [] else [x].getD (i - n) []) = fun i => (l ++ [x]).getD i [] := by
  subst hn
  funext i
  simp only [List.getD_eq_getElem?_getD, List.getElem?_append]
  split <;> rfl
theorem getD_setS (l : List (List UInt8)) (x : List UInt8) {I : Nat} (hI : I < l.length) : (fun j => if j = I then x else l.getD j []) = fun j => (l.set I x).getD j [] := by
  funext j
  simp only [List.getD_eq_getElem?_getD, List.getElem?_set]
  by_cases h : j = I
  · subst h; simp [hI]
  · rw [if_neg h, if_neg (fun e => h e.symm)]
def ShortRows (m : Nat) (l : List (List UInt8)) : Prop := ∀ r ∈ l, r.length ≤ m
theorem ShortRows.at {m : Nat} {l : List (List UInt8)} (h : ShortRows m l) (i : Nat) : (l.getD i []).length ≤ m := by
  rw [List.getD_eq_getElem?_getD]
  cases hg : l[i]? with
  | none => simp
  | some x => exact h x (List.mem_of_getElem? hg)
theorem ShortRows.set {m : Nat} {l : List (List UInt8)} (h : ShortRows m l) (i : Nat) {x : List UInt8} (hx : x.length ≤ m) : ShortRows m (l.set i x) := fun r hr => by
  rcases List.mem_or_eq_of_mem_set hr with h1 | h1
  · exact h r h1
  · rw [h1]; exact hx
theorem ShortRows.snoc {m : Nat} {l : List (List UInt8)} (h : ShortRows m l) {x : List UInt8} (hx : x.length ≤ m) : ShortRows m (l ++ [x]) := fun r hr => by
  rcases List.mem_append.1 hr with h1 | h1
  · exact h r h1
  · rw [List.mem_singleton.1 h1]; exact hx
theorem ShortRows.mono {m n : Nat} {l : List (List UInt8)} (h : ShortRows m l) (hn : m ≤ n) : ShortRows n l := fun r hr => Nat.le_trans (h r hr) hn
def litS (nl : Bool) (l : List (List UInt8)) : PV := .lit nl l.length [.s fun i => l.getD i []]
theorem take_eqL {l m : List (List UInt8)} {k : Nat} (hl : k < l.length) (hm : k < m.length) (h : l.take k = m.take k) (hx : l.getD k [] = m.getD k []) : l.take (k + 1) = m.take (k + 1) := by
  rw [take_snoc (x := l.getD k []) (by rw [List.getD_eq_getElem?_getD, List.getElem?_eq_getElem hl]; rfl), take_snoc (x := m.getD k []) (by rw [List.getD_eq_getElem?_getD, List.getElem?_eq_getElem hm]; rfl), h, hx]
theorem equalS_c (nl nl' : Bool) (l m : List (List UInt8)) (nid : Nat) (hl : l.length ≤ 1000000000000) (hm : m.length ≤ 1000000000000) : ACall Tryd.prog 20 [litS nl l, litS nl' m] [] nid (.bool (l == m)) [] := by
  refine acall_run c20 (by simp [a20]) ?_
  unfold litS
  simp -dsimp only [aqT, aqU, aqN, ↓seqK, ↓blkK, ↓loopK, step, stepBin, Nat.reduceBEq, Nat.reduceBeqDiff, Nat.add_assoc nid, Nat.reduceAdd, reduceCtorEq, ↓reduceIte, Nat.reduceLeDiff, Nat.reduceBneDiff, Option.toList, ← Int.ofNat_tmod, ← Int.ofNat_tdiv, Nat.reduceLT, a20]
  refine S2.intro (fun h => ?_) (fun h => ?_) <;> simp -dsimp only [aqT, aqU, aqN, ↓seqK, ↓blkK, ↓loopK, step, stepBin, Nat.reduceBEq, Nat.reduceBeqDiff, Nat.add_assoc nid, Nat.reduceAdd, reduceCtorEq, ↓reduceIte, Nat.reduceLeDiff, Nat.reduceBneDiff, Option.toList, ← Int.ofNat_tmod, ← Int.ofNat_tdiv, Nat.reduceLT]
  · refine RetOK.pure (.inl rfl) rfl ?_
    have h1 : l ≠ m := fun e => by subst e; simp at h
    have h2 : (l == m) = false := by simpa using h1
    simp [cvT, step, res, h1]
  have hlm : l.length = m.length := by have : (l.length : Int) = m.length := by simpa using h
                                       omega
  refine LP.mkP (fun k : Nat => k ≤ l.length ∧ l.take k = m.take k) (fun k : Nat => ⟨[(13, .int .i64 k), (12, .int .i64 l.length), (0, litS nl l), (1, litS nl' m)], [], nid + 36, nid⟩) (fun k => l.length + 1 - k) 0 ⟨by omega, rfl⟩ (Cov.go [] [] ?_) (fun k hk => ?_)
  · simp [cvT, step, res, litS]
  unfold litS
  obtain ⟨hk, ht⟩ := hk
  simp -dsimp only [aqT, aqU, aqN, ↓seqK, ↓blkK, ↓loopK, step, stepBin, Nat.reduceBEq, Nat.reduceBeqDiff, Nat.add_assoc nid, Nat.reduceAdd, reduceCtorEq, ↓reduceIte, Nat.reduceLeDiff, Nat.reduceBneDiff, Option.toList, ← Int.ofNat_tmod, ← Int.ofNat_tdiv, Nat.reduceLT]
  refine S2.dec (fun h3 => ?_) (fun h3 => ?_) <;> simp -dsimp only [aqT, aqU, aqN, ↓seqK, ↓blkK, ↓loopK, step, stepBin, Nat.reduceBEq, Nat.reduceBeqDiff, Nat.add_assoc nid, Nat.reduceAdd, reduceCtorEq, ↓reduceIte, Nat.reduceLeDiff, Nat.reduceBneDiff, Option.toList, ← Int.ofNat_tmod, ← Int.ofNat_tdiv, Nat.reduceLT]
  · refine ⟨by omega, by omega, S2.intro (fun h4 => ?_) (fun h4 => ?_)⟩ <;> simp -dsimp only [aqT, aqU, aqN, ↓seqK, ↓blkK, ↓loopK, step, stepBin, Nat.reduceBEq, Nat.reduceBeqDiff, Nat.add_assoc nid, Nat.reduceAdd, reduceCtorEq, ↓reduceIte, Nat.reduceLeDiff, Nat.reduceBneDiff, Option.toList, ← Int.ofNat_tmod, ← Int.ofNat_tdiv, Nat.reduceLT]
    · refine RetOK.pure (.inl rfl) rfl ?_
      have h1 : l ≠ m := fun e => by subst e; simp at h4
      simp [cvT, step, res, h1]
    · have h5 : l.getD k [] = m.getD k [] := by simpa only [Bool.not_eq_false', beq_iff_eq] using h4
      refine ⟨by unfold inI64; omega, k + 1, ⟨⟨by omega, take_eqL (by omega) (by omega) ht h5⟩, by omega⟩, Cov.go [] [] ?_⟩
      simp [cvT, step, res, litS]
  · have hkl : k = l.length := by omega
    have h1 : l = m := by rw [hkl] at ht; rw [List.take_length, hlm, List.take_length] at ht; exact ht
    refine RetOK.pure (.inl rfl) rfl ?_
    simp [cvT, step, res, h1]
end Go.Proofs.YthcldfmlfjomfaaDoor
namespace Go.Proofs.YthcldfmlfjomfaaDoor
open Go.RowKit
theorem len_ne {a b : Int} (h : (a != b) = true) : a ≠ b := by simpa using h
set_option maxHeartbeats 4000000 in
theorem checkVectors_all (nl : Bool) (n : Int) (v : List (List UInt8)) (nid : Nat) (hv : v.length ≤ 1000000000) (hr : ShortRows 1000000000 v) : ACall Tryd.prog 26 [.int .i64 n, litS nl v] [] nid (.int .i64 (patV n v)) [] := by
  refine acall_run c26 (by simp [a26]) ?_
  unfold litS
  simp -dsimp only [aqT, aqU, aqN, ↓seqK, ↓blkK, ↓loopK, step, stepBin, Nat.reduceBEq, Nat.reduceBeqDiff, Nat.add_assoc nid, Nat.reduceAdd, reduceCtorEq, ↓reduceIte, Nat.reduceLeDiff, Nat.reduceBneDiff, Option.toList, ← Int.ofNat_tmod, ← Int.ofNat_tdiv, Nat.reduceLT, a26]
  refine CallO.pure (out_c _ _ _ _) ?_
  cases h0 : outB n 1 100 <;> simp -dsimp only [aqT, aqU, aqN, aqS, ↓seqK, ↓blkK, ↓loopK, step, stepBin, Nat.add_assoc nid, ↓reduceIte, Option.toList, ← Int.ofNat_tmod, ← Int.ofNat_tdiv, simprocAttr, BEq.rfl, LN_succ]
  case true =>
    have e : patV n v = 1 := by unfold patV; rw [if_pos h0]
    rw [e]
    refine RetOK.pure (.inl rfl) rfl ?_
    simp [cvT, step, res]
  refine S2.dec (fun h1 => ?_) (fun h1 => ?_) <;> simp -dsimp only [aqT, aqU, aqN, aqS, ↓seqK, ↓blkK, ↓loopK, step, stepBin, Nat.add_assoc nid, ↓reduceIte, Option.toList, ← Int.ofNat_tmod, ← Int.ofNat_tdiv, simprocAttr, BEq.rfl, LN_succ]
  · have e : patV n v = 2 := by unfold patV; rw [if_neg (by simp [h0]), if_pos (by omega)]
    rw [e]
    refine RetOK.pure (.inl rfl) rfl ?_
    simp [cvT, step, res]
  have eV : patV n v = firstBad (patRow n) v := by unfold patV; rw [if_neg (by simp [h0]), if_neg (by omega)]
  rw [eV]
  refine LP.mkP (fun k : Nat => k ≤ v.length ∧ firstBad (patRow n) (v.take k) = 0) (fun k : Nat => ⟨[(16, .int .i64 k), (15, .int .i64 v.length), (14, .lit nl v.length [.s fun i => v.getD i []]), (0, .int .i64 n)], [], nid + 100, nid⟩) (fun k => v.length + 1 - k) 0 ⟨by omega, rfl⟩ (Cov.go [] [] ?_) (fun k hk => ?_)
  · simp [cvT, step, res]
  obtain ⟨hk, hb⟩ := hk
  simp -dsimp only [aqT, aqU, aqN, aqS, ↓seqK, ↓blkK, ↓loopK, step, stepBin, Nat.add_assoc nid, ↓reduceIte, Option.toList, ← Int.ofNat_tmod, ← Int.ofNat_tdiv, simprocAttr, BEq.rfl, LN_succ]
  refine S2.dec (fun h2 => ?_) (fun h2 => ?_) <;> simp -dsimp only [aqT, aqU, aqN, aqS, ↓seqK, ↓blkK, ↓loopK, step, stepBin, Nat.add_assoc nid, ↓reduceIte, Option.toList, ← Int.ofNat_tmod, ← Int.ofNat_tdiv, simprocAttr, BEq.rfl, LN_succ]
  · have hkl : k < v.length := by omega
    obtain ⟨bad, good⟩ := rowsFB (d := []) hkl hb
    have hrl := hr.at k
    generalize hrr : v.getD k [] = r at *
    refine ⟨by omega, S2.intro (fun h3 => ?_) (fun h3 => ?_)⟩ <;> simp -dsimp only [aqT, aqU, aqN, aqS, ↓seqK, ↓blkK, ↓loopK, step, stepBin, Nat.add_assoc nid, ↓reduceIte, Option.toList, ← Int.ofNat_tmod, ← Int.ofNat_tdiv, simprocAttr, BEq.rfl, LN_succ]
    · have e : patRow n r = 3 := by unfold patRow; rw [if_neg (len_ne h3)]
      rw [bad (by rw [e]; decide), e]
      refine RetOK.pure (.inl rfl) rfl ?_
      simp [cvT, step, res]
    have h3' : (r.length : Int) = n := by simpa using h3
    refine CallO.pure (bits_c r _ (by omega)) ?_
    cases h4 : bitsOk r <;> simp -dsimp only [aqT, aqU, aqN, aqS, ↓seqK, ↓blkK, ↓loopK, step, stepBin, Nat.add_assoc nid, ↓reduceIte, Option.toList, ← Int.ofNat_tmod, ← Int.ofNat_tdiv, simprocAttr, BEq.rfl, LN_succ, Bool.not_true, Bool.not_false]
    · have e : patRow n r = 9 := by unfold patRow; rw [if_pos h3', if_neg (by simp [h4])]
      rw [bad (by rw [e]; decide), e]
      refine RetOK.pure (.inl rfl) rfl ?_
      simp [cvT, step, res]
    · have e : patRow n r = 0 := by unfold patRow; rw [if_pos h3', if_pos h4]
      refine ⟨by unfold inI64; omega, k + 1, ⟨⟨by omega, good e⟩, by omega⟩, Cov.go [] [] ?_⟩
      simp [cvT, step, res]
  · have hkn : k = v.length := by omega
    rw [hkn, List.take_length] at hb
    rw [hb]
    refine RetOK.pure (.inl rfl) rfl ?_
    simp [cvT, step, res]
set_option maxHeartbeats 4000000 in
theorem patternsFault_all (nl : Bool) (n : Int) (v : List (List UInt8)) (nid : Nat) (hv : v.length ≤ 1000000000) (hr : ShortRows 1000000000 v) : ACall Tryd.prog 24 [.int .i64 n, litS nl v] [] nid (.int .i64 (patV n v)) [] := by
  refine acall_run c24 (by simp [a24]) ?_
  unfold litS
  simp -dsimp only [aqT, aqU, aqN, ↓seqK, ↓blkK, ↓loopK, step, stepBin, Nat.reduceBEq, Nat.reduceBeqDiff, Nat.add_assoc nid, Nat.reduceAdd, reduceCtorEq, ↓reduceIte, Nat.reduceLeDiff, Nat.reduceBneDiff, Option.toList, ← Int.ofNat_tmod, ← Int.ofNat_tdiv, Nat.reduceLT, a24]
  refine CallO.pure (in_c _ _ _ _) ?_
  cases h0 : outB n 1 100 <;> simp -dsimp only [aqT, aqU, aqN, aqS, ↓seqK, ↓blkK, ↓loopK, step, stepBin, Nat.add_assoc nid, ↓reduceIte, Option.toList, ← Int.ofNat_tmod, ← Int.ofNat_tdiv, simprocAttr, BEq.rfl, LN_succ, Bool.not_true, Bool.not_false]
  case true =>
    have e : patV n v = 1 := by unfold patV; rw [if_pos h0]
    rw [e]
    refine RetOK.pure (.inl rfl) rfl ?_
    simp [cvT, step, res]
  refine S2.dec (fun h1 => ?_) (fun h1 => ?_) <;> simp -dsimp only [aqT, aqU, aqN, aqS, ↓seqK, ↓blkK, ↓loopK, step, stepBin, Nat.add_assoc nid, ↓reduceIte, Option.toList, ← Int.ofNat_tmod, ← Int.ofNat_tdiv, simprocAttr, BEq.rfl, LN_succ]
  · have e : patV n v = 2 := by unfold patV; rw [if_neg (by simp [h0]), if_pos (by omega)]
    rw [e]
    refine RetOK.pure (.inl rfl) rfl ?_
    simp [cvT, step, res]
  have eV : patV n v = firstBad (patRow n) v := by unfold patV; rw [if_neg (by simp [h0]), if_neg (by omega)]
  rw [eV]
  refine LP.mkP (fun k : Nat => k ≤ v.length ∧ firstBad (patRow n) (v.take k) = 0) (fun k : Nat => ⟨[(18, .int .i64 k), (17, .int .i64 v.length), (16, .lit nl v.length [.s fun i => v.getD i []]), (0, .int .i64 n)], [], nid + 100, nid⟩) (fun k => v.length + 1 - k) 0 ⟨by omega, rfl⟩ (Cov.go [] [] ?_) (fun k hk => ?_)
  · simp [cvT, step, res]
  obtain ⟨hk, hb⟩ := hk
  simp -dsimp only [aqT, aqU, aqN, aqS, ↓seqK, ↓blkK, ↓loopK, step, stepBin, Nat.add_assoc nid, ↓reduceIte, Option.toList, ← Int.ofNat_tmod, ← Int.ofNat_tdiv, simprocAttr, BEq.rfl, LN_succ]
  refine S2.dec (fun h2 => ?_) (fun h2 => ?_) <;> simp -dsimp only [aqT, aqU, aqN, aqS, ↓seqK, ↓blkK, ↓loopK, step, stepBin, Nat.add_assoc nid, ↓reduceIte, Option.toList, ← Int.ofNat_tmod, ← Int.ofNat_tdiv, simprocAttr, BEq.rfl, LN_succ]
  · have hkl : k < v.length := by omega
    obtain ⟨bad, good⟩ := rowsFB (d := []) hkl hb
    have hrl := hr.at k
    generalize hrr : v.getD k [] = r at *
    refine ⟨by omega, S2.intro (fun h3 => ?_) (fun h3 => ?_)⟩ <;> simp -dsimp only [aqT, aqU, aqN, aqS, ↓seqK, ↓blkK, ↓loopK, step, stepBin, Nat.add_assoc nid, ↓reduceIte, Option.toList, ← Int.ofNat_tmod, ← Int.ofNat_tdiv, simprocAttr, BEq.rfl, LN_succ]
    · have e : patRow n r = 3 := by unfold patRow; rw [if_neg (len_ne h3)]
      rw [bad (by rw [e]; decide), e]
      refine RetOK.pure (.inl rfl) rfl ?_
      simp [cvT, step, res]
    have h3' : (r.length : Int) = n := by simpa using h3
    refine CallO.pure (bitsFaultR_c r _ (by omega)) ?_
    cases h4 : bitsOk r <;> simp -dsimp only [aqT, aqU, aqN, aqS, ↓seqK, ↓blkK, ↓loopK, step, stepBin, Nat.add_assoc nid, ↓reduceIte, Option.toList, ← Int.ofNat_tmod, ← Int.ofNat_tdiv, simprocAttr, BEq.rfl, LN_succ]
    · have e : patRow n r = 9 := by unfold patRow; rw [if_pos h3', if_neg (by simp [h4])]
      rw [bad (by rw [e]; decide), e]
      refine RetOK.pure (.inl rfl) rfl ?_
      simp [cvT, step, res]
    · have e : patRow n r = 0 := by unfold patRow; rw [if_pos h3', if_pos h4]
      refine ⟨by unfold inI64; omega, k + 1, ⟨⟨by omega, good e⟩, by omega⟩, Cov.go [] [] ?_⟩
      simp [cvT, step, res]
  · have hkn : k = v.length := by omega
    rw [hkn, List.take_length] at hb
    rw [hb]
    refine RetOK.pure (.inl rfl) rfl ?_
    simp [cvT, step, res]
end Go.Proofs.YthcldfmlfjomfaaDoor
namespace Go.Proofs.YthcldfmlfjomfaaDoor
open Go.RowKit
end Go.Proofs.YthcldfmlfjomfaaDoor
namespace Go.Proofs.YthcldfmlfjomfaaDoor
open Go.RowKit
def partC (v : List (List UInt8)) (i j : Nat) (k : Nat) : List UInt8 := colB (v.take (if k < j then i + 1 else i)) k
theorem colB_snoc {v : List (List UInt8)} {i : Nat} (h : i < v.length) (k : Nat) : colB (v.take (i + 1)) k = colB (v.take i) k ++ [(v.getD i []).getD k 0] := by
  have e : v.take (i + 1) = v.take i ++ [v.getD i []] := take_snoc (by rw [List.getD_eq_getElem?_getD, List.getElem?_eq_getElem h]; rfl)
  rw [e]
  simp [colB]
theorem partC_step {v : List (List UInt8)} {i : Nat} (h : i < v.length) (j : Nat) : (fun k => if k = j then partC v i j j ++ [(v.getD i []).getD j 0] else partC v i j k) = partC v i (j + 1) := by
  funext k
  unfold partC
  by_cases hk : k = j
  · subst hk
    rw [if_pos rfl, if_neg (by omega), if_pos (by omega), colB_snoc h]
  · rw [if_neg hk]
    by_cases h2 : k < j
    · rw [if_pos h2, if_pos (by omega)]
    · rw [if_neg h2, if_neg (by omega)]
theorem partC_len (v : List (List UInt8)) (i j k : Nat) : (partC v i j k).length ≤ v.length := by
  unfold partC
  rw [colB_len, List.length_take]
  omega
theorem sub1 {s : List UInt8} {j : Nat} (h : j < s.length) : (s.drop j).take 1 = [s.getD j 0] := by
  rw [List.drop_eq_getElem_cons h, List.getD_eq_getElem?_getD, List.getElem?_eq_getElem h]
  rfl
set_option maxHeartbeats 8000000 in
theorem sequencesOf_c (nl : Bool) (v : List (List UInt8)) (n : Nat) (nid : Nat) (hv : v.length ≤ 1000000) (hn : n ≤ 1000000) (hw : ∀ s ∈ v, n ≤ s.length) : ACall Tryd.prog 27 [.int .i64 (n : Nat), litS nl v] [] nid (.sl nid 0 n) [(nid, arrS (turnL v n))] := by
  refine acall_run c27 (by simp [a27]) ?_
  unfold litS
  simp -dsimp only [aqT, aqU, aqN, ↓seqK, ↓blkK, ↓loopK, step, stepBin, Nat.reduceBEq, Nat.reduceBeqDiff, Nat.add_assoc nid, Nat.reduceAdd, reduceCtorEq, ↓reduceIte, Nat.reduceLeDiff, Nat.reduceBneDiff, Option.toList, ← Int.ofNat_tmod, ← Int.ofNat_tdiv, Nat.reduceLT, a27]
  refine ⟨by omega, ?_⟩
  refine LP.mkP (fun i : Nat => i ≤ v.length) (fun i : Nat => ⟨[(13, .int .i64 i), (12, .int .i64 v.length), (11, litS nl v), (5, .sl (nid + 4) 0 n), (0, .int .i64 (n : Nat))], [(nid + 4, some (.arr 9 n [.s (partC v i 0)]))], nid + 100, nid⟩) (fun i => v.length + 1 - i) 0 (by omega) (Cov.go [(nid + 4, nid + 8)] [] ?_) (fun i hi => ?_)
  · simp [cvT, step, res, litS, Col.const]
    refine ColEq.s fun k hk => ?_
    simp [partC, colB]
  unfold litS
  simp -dsimp only [aqT, aqU, aqN, aqS, ↓seqK, ↓blkK, ↓loopK, step, stepBin, Nat.add_assoc nid, ↓reduceIte, Option.toList, ← Int.ofNat_tmod, ← Int.ofNat_tdiv, simprocAttr, BEq.rfl, LN_succ]
  refine S2.dec (fun h1 => ?_) (fun h1 => ?_) <;> simp -dsimp only [aqT, aqU, aqN, aqS, ↓seqK, ↓blkK, ↓loopK, step, stepBin, Nat.add_assoc nid, ↓reduceIte, Option.toList, ← Int.ofNat_tmod, ← Int.ofNat_tdiv, simprocAttr, BEq.rfl, LN_succ]
  · have hiv : i < v.length := by omega
    have hlen := getD_all (P := fun s : List UInt8 => n ≤ s.length) (d := []) hw hiv
    refine ⟨by omega, ?_⟩
    refine LP.mkP (fun j : Nat => j ≤ n) (fun j : Nat => ⟨[(18, .int .i64 j), (17, .int .i64 (n : Nat)), (7, .str (v.getD i [])), (13, .int .i64 i), (12, .int .i64 v.length), (11, litS nl v), (5, .sl (nid + 4) 0 n), (0, .int .i64 (n : Nat))], [(nid + 4, some (.arr 9 n [.s (partC v i j)]))], nid + 1000, nid⟩) (fun j => n + 1 - j) 0 (by omega) (Cov.go [] [] ?_) (fun j hj => ?_)
    · simp [cvT, step, res, litS, -List.getD_eq_getElem?_getD]
    unfold litS
    simp -dsimp only [aqT, aqU, aqN, aqS, ↓seqK, ↓blkK, ↓loopK, step, stepBin, Nat.add_assoc nid, ↓reduceIte, Option.toList, ← Int.ofNat_tmod, ← Int.ofNat_tdiv, simprocAttr, BEq.rfl, LN_succ]
    refine S2.dec (fun h2 => ?_) (fun h2 => ?_) <;> simp -dsimp only [aqT, aqU, aqN, aqS, ↓seqK, ↓blkK, ↓loopK, step, stepBin, Nat.add_assoc nid, ↓reduceIte, Option.toList, ← Int.ofNat_tmod, ← Int.ofNat_tdiv, simprocAttr, BEq.rfl, LN_succ]
    · have hjn : j < n := by omega
      have hpl := partC_len v i j j
      have e0 : ((j : Int) + 1).toNat - j = 1 := by omega
      simp only [e0, sub1 (s := v.getD i []) (j := j) (by omega)]
      rw [partC_step hiv]
      refine ⟨by omega, by unfold inI64; omega, by omega, by simp only [List.length_cons, List.length_nil]; omega, by omega, by unfold inI64; omega, j + 1, ⟨by omega, by omega⟩, Cov.go [] [] ?_⟩
      simp [cvT, step, res, litS, -List.getD_eq_getElem?_getD]
    · have hjn : j = n := by omega
      subst hjn
      refine ⟨by unfold inI64; omega, i + 1, ⟨by omega, by omega⟩, Cov.go [] [] ?_⟩
      simp [cvT, step, res, litS, -List.getD_eq_getElem?_getD]
      refine ColEq.s fun k hk => ?_
      simp [partC, hk]
  · have hin : i = v.length := by omega
    subst hin
    refine RetOK.go [(nid, nid + 4)] [] (.inl rfl) ?_
    simp [a27, cvT, step, res, arrS, turnL_len, -List.getD_eq_getElem?_getD]
    refine ColEq.s fun k hk => ?_
    rw [turnL_at _ hk]
    simp [partC]
end Go.Proofs.YthcldfmlfjomfaaDoor
namespace Go.Proofs.YthcldfmlfjomfaaDoor
open Go.RowKit Go.Lib
theorem getD_ltC {l : List (List UInt8)} {k : Nat} (hk : k < l.length) : l.getD k [] = l[k] := by rw [List.getD_eq_getElem?_getD, List.getElem?_eq_getElem hk]; rfl
def idxN (F : List UInt8 → Bool) (l : List (List UInt8)) : Int := if l.any F = true then ((l.findIdx F : Nat) : Int) else -1
theorem idxN_at {F : List UInt8 → Bool} {l : List (List UInt8)} {k : Nat} (hk : k < l.length) (h : F (l.getD k []) = true) (h0 : ∀ j, j < k → F (l.getD j []) = false) : idxN F l = (k : Nat) := by
  have e : l.findIdx F = k := (List.findIdx_eq hk).2 ⟨by rw [getD_ltC hk] at h; exact h, fun j hj => by have := h0 j hj; rw [getD_ltC (by omega)] at this; exact this⟩
  unfold idxN
  rw [if_pos, e]
  refine List.any_eq_true.2 ⟨l[k], List.getElem_mem hk, ?_⟩
  rw [getD_ltC hk] at h; exact h
theorem idxN_no {F : List UInt8 → Bool} {l : List (List UInt8)} (h0 : ∀ j, j < l.length → F (l.getD j []) = false) : idxN F l = -1 := by
  unfold idxN
  rw [if_neg]
  intro h
  obtain ⟨x, hx, hf⟩ := List.any_eq_true.1 h
  obtain ⟨j, hj, rfl⟩ := List.getElem_of_mem hx
  have := h0 j hj
  rw [getD_ltC hj, hf] at this; cases this
theorem indexN_c (nl : Bool) (l : List (List UInt8)) (x : List UInt8) (nid : Nat) (hl : l.length ≤ 1000000) :
    ACall Tryd.prog 190 [litS nl l, .str x] [] nid (.int .i64 (idxN (fun y => x == y) l)) [] := by
  refine acall_run c190 (by simp [a190]) ?_
  unfold litS
  simp -dsimp only [aqT, aqU, aqN, aqS, ↓seqK, ↓blkK, ↓loopK, step, stepBin, Nat.add_assoc nid, ↓reduceIte, Option.toList, ← Int.ofNat_tmod, ← Int.ofNat_tdiv, simprocAttr, BEq.rfl, LN_succ, a190]
  refine LP.mkP (fun k : Nat => k ≤ l.length ∧ ∀ j, j < k → (x == l.getD j []) = false) (fun k : Nat => ⟨[(8, .int .i64 k), (7, .int .i64 l.length), (0, litS nl l), (1, .str x)], [], nid + 100, nid⟩) (fun k => l.length + 1 - k) 0 ⟨by omega, fun j hj => by omega⟩ (Cov.go [] [] ?_) (fun k hk => ?_)
  · simp [cvT, step, res, litS]
  obtain ⟨hk, hb⟩ := hk
  unfold litS
  simp -dsimp only [aqT, aqU, aqN, aqS, ↓seqK, ↓blkK, ↓loopK, step, stepBin, Nat.add_assoc nid, ↓reduceIte, Option.toList, ← Int.ofNat_tmod, ← Int.ofNat_tdiv, simprocAttr, BEq.rfl, LN_succ]
  refine S2.dec (fun h3 => ?_) (fun h3 => ?_) <;> simp -dsimp only [aqT, aqU, aqN, aqS, ↓seqK, ↓blkK, ↓loopK, step, stepBin, Nat.add_assoc nid, ↓reduceIte, Option.toList, ← Int.ofNat_tmod, ← Int.ofNat_tdiv, simprocAttr, BEq.rfl, LN_succ]
  · have hkl : k < l.length := by omega
    have hat := fun h => idxN_at (F := fun y => x == y) hkl h hb
    have hnx : (x == l.getD k []) = false → ∀ j, j < k + 1 → (x == l.getD j []) = false := fun h j hj => by
      by_cases e : j = k
      · rw [e]; exact h
      · exact hb j (by omega)
    generalize l.getD k [] = y at *
    refine ⟨by omega, S2.intro (fun h4 => ?_) (fun h4 => ?_)⟩ <;> simp -dsimp only [aqT, aqU, aqN, aqS, ↓seqK, ↓blkK, ↓loopK, step, stepBin, Nat.add_assoc nid, ↓reduceIte, Option.toList, ← Int.ofNat_tmod, ← Int.ofNat_tdiv, simprocAttr, BEq.rfl, LN_succ]
    · rw [hat h4]
      refine RetOK.pure (.inl rfl) rfl ?_
      simp [cvT, step, res]
    · refine ⟨by unfold inI64; omega, k + 1, ⟨⟨by omega, hnx h4⟩, by omega⟩, Cov.go [] [] ?_⟩
      simp [cvT, step, res, litS]
  · have hkn : k = l.length := by omega
    subst hkn
    rw [idxN_no hb]
    refine RetOK.pure (.inl rfl) rfl ?_
    simp [cvT, step, res]
theorem containsN_c (nl : Bool) (l : List (List UInt8)) (x : List UInt8) (nid : Nat) (hl : l.length ≤ 1000000) :
    ACall Tryd.prog 153 [litS nl l, .str x] [] nid (.bool (l.contains x)) [] := by
  have e : decide (0 ≤ idxN (fun y => x == y) l) = l.contains x := by
    rw [List.contains_eq_any_beq]
    unfold idxN
    cases h : l.any (fun y => x == y) <;> simp
  refine acall_run c153 (by simp [a153]) ?_
  simp -dsimp only [aqT, aqU, aqN, aqS, ↓seqK, ↓blkK, ↓loopK, step, stepBin, Nat.add_assoc nid, ↓reduceIte, Option.toList, ← Int.ofNat_tmod, ← Int.ofNat_tdiv, simprocAttr, BEq.rfl, LN_succ, a153]
  refine CallO.pure (indexN_c nl l x _ hl) ?_
  simp -dsimp only [aqT, aqU, aqN, aqS, ↓seqK, ↓blkK, ↓loopK, step, stepBin, Nat.add_assoc nid, ↓reduceIte, Option.toList, ← Int.ofNat_tmod, ← Int.ofNat_tdiv, simprocAttr, BEq.rfl, LN_succ]
  rw [e]
  refine RetOK.pure (.inl rfl) rfl ?_
  simp [cvT, step, res]
end Go.Proofs.YthcldfmlfjomfaaDoor
namespace Go.Proofs.YthcldfmlfjomfaaDoor
open Go.RowKit
theorem whole_all : ((List.range 64).all fun j => decide (IntKind.u64.wrap (IntKind.u64.wrap (1 * 2 ^ (min ((j : Nat) : Int).toNat IntKind.u64.bits)) - 1) = ((2 ^ j - 1 : Nat) : Int))) = true := by kernel_rfl
theorem whole_eq {j : Nat} (hj : j < 64) : IntKind.u64.wrap (IntKind.u64.wrap (1 * 2 ^ (min j IntKind.u64.bits)) - 1) = ((2 ^ j - 1 : Nat) : Int) := by
  have h1 := List.all_eq_true.1 whole_all j (List.mem_range.2 hj)
  simpa using h1
structure FltOk (n : Nat) (f : Flt) : Prop where
  lo : 1 ≤ f.kind
  hi : f.kind ≤ 6
  pos : 0 < f.nets.length
  len : f.nets.length ≤ 6
  nets : ∀ x ∈ f.nets, x < n
theorem FltOk.at {n : Nat} {f : Flt} (h : FltOk n f) {i : Nat} (hi : i < f.nets.length) : f.nets.getD i 0 < n := by
  rw [List.getD_eq_getElem?_getD, List.getElem?_eq_getElem hi]
  exact h.nets _ (List.getElem_mem _)
theorem foldl_take {α β : Type} (g : β → α → β) (b : β) {l : List α} {k : Nat} {d : α} (h : k < l.length) : (l.take (k + 1)).foldl g b = g ((l.take k).foldl g b) (l.getD k d) := by
  have e : l.take (k + 1) = l.take k ++ [l.getD k d] := take_snoc (by rw [List.getD_eq_getElem?_getD, List.getElem?_eq_getElem h]; rfl)
  rw [e, List.foldl_append]
  rfl
theorem setU (l : List Nat) (x : Nat) {I : Nat} (hI : I < l.length) : (fun j => if j = I then ((x : Nat) : Int) else ((l.getD j 0 : Nat) : Int)) = fun j => (((l.set I x).getD j 0 : Nat) : Int) := by
  funext j
  simp only [List.getD_eq_getElem?_getD, List.getElem?_set]
  by_cases h : j = I
  · subst h; simp [hI]
  · rw [if_neg h, if_neg (fun e => h e.symm)]
end Go.Proofs.YthcldfmlfjomfaaDoor
namespace Go.Proofs.YthcldfmlfjomfaaDoor
open Go.RowKit
def litU (nl : Bool) (r : List Nat) : PV := .lit nl r.length [.i .u64 fun i => ((r.getD i 0 : Nat) : Int)]
end Go.Proofs.YthcldfmlfjomfaaDoor
namespace Go.Proofs.YthcldfmlfjomfaaDoor
open Go.RowKit
def bshI (c i : Nat) : Int := IntKind.u64.wrap (IntKind.u64.wrap (IntKind.u8.wrap (((c : Nat) : Int) - 48)) * 2 ^ min i IntKind.u64.bits)
theorem bsh_all : ([48, 49].all fun c => (List.range 64).all fun i => decide (bshI c i = (((c - 48) <<< i : Nat) : Int) ∧ (c - 48) <<< i < two64)) = true := by kernel_rfl
theorem bsh_eq {c i : Nat} (hc : c = 48 ∨ c = 49) (hi : i < 64) : bshI c i = (((c - 48) <<< i : Nat) : Int) ∧ (c - 48) <<< i < two64 := by
  have h1 := List.all_eq_true.1 bsh_all c (by simpa using hc)
  exact of_decide_eq_true (List.all_eq_true.1 h1 i (List.mem_range.2 hi))
theorem bit_nat2 {s : List UInt8} (h : bitsOk s = true) {k : Nat} (hk : k < s.length) : (s.getD k 0).toNat = 48 ∨ (s.getD k 0).toNat = 49 := by
  rcases bitsOk_at h hk with e | e <;> rw [e]
  · exact .inl rfl
  · exact .inr rfl
def rowTo (s : List UInt8) (k : Nat) : Nat := ((List.range s.length).take k).foldl (fun a i => a ||| ((s.getD i 0).toNat - 48) <<< i) 0
theorem rowTo_step {s : List UInt8} {k : Nat} (hk : k < s.length) : rowTo s (k + 1) = rowTo s k ||| ((s.getD k 0).toNat - 48) <<< k := by
  have h := foldl_take (fun a i => a ||| ((s.getD i 0).toNat - 48) <<< i) 0 (l := List.range s.length) (k := k) (d := 0) (by simpa using hk)
  have hrk : (List.range s.length).getD k 0 = k := by rw [List.getD_eq_getElem?_getD, List.getElem?_range hk]; rfl
  rw [hrk] at h
  exact h
theorem rowTo_lt {s : List UInt8} (h : bitsOk s = true) (hl : s.length ≤ 64) : ∀ k, k ≤ s.length → rowTo s k < two64
  | 0, _ => by simp [rowTo, two64]
  | k + 1, hk => by
    rw [rowTo_step (by omega)]
    exact Nat.or_lt_two_pow (n := 64) (rowTo_lt h hl k (by omega)) (bsh_eq (bit_nat2 h (by omega)) (by omega)).2
theorem rowTo_all (s : List UInt8) : rowTo s s.length = rowN s := by unfold rowTo rowN; rw [List.take_of_length_le (by simp)]
theorem rows_small {t : List (List UInt8)} (h : ∀ s ∈ t, bitsOk s = true ∧ s.length ≤ 64) : Small (t.map rowN) := fun x hx => by
  obtain ⟨s, hs, rfl⟩ := List.mem_map.1 hx
  rw [← rowTo_all]
  exact rowTo_lt (h s hs).1 (h s hs).2 _ (Nat.le_refl _)
theorem mapTakeL {α β : Type} (f : α → β) {l : List α} {k : Nat} {d : α} (h : k < l.length) : (l.map f).take (k + 1) = (l.map f).take k ++ [f (l.getD k d)] := by
  refine take_snoc ?_
  rw [List.getElem?_map, List.getD_eq_getElem?_getD, List.getElem?_eq_getElem h]
  rfl
theorem getD_appN (l : List Nat) (x : Nat) {n : Nat} (hn : l.length = n) (T : IntKind) : (fun i => if i < n then ((l.getD i 0 : Nat) : Int) else [((x : Nat) : Int)].getD (i - n) 0) = fun i => (((l ++ [x]).getD i 0 : Nat) : Int) := by
  subst hn
  funext i
  simp only [List.getD_eq_getElem?_getD, List.getElem?_append]
  split
  · rfl
  · rename_i h
    cases hk : i - l.length with
    | zero => rfl
    | succ k => rfl
def maskL (t : List (List UInt8)) (fs : List Flt) (ones : Nat) : List Nat := fs.map fun f => detV (t.map rowN) f ones
end Go.Proofs.YthcldfmlfjomfaaDoor
namespace Go.Proofs.YthcldfmlfjomfaaDoor
open Go.RowKit
def arrBo (l : List Bool) : Option ABlk := some (.arr 4 l.length [.b fun i => l.getD i false])
def litBo (nl : Bool) (l : List Bool) : PV := .lit nl l.length [.b fun i => l.getD i false]
def domS (l : List Nat) (q : MK) : Bool := l.any fun x => decide (q = MK.i (x : Nat))
theorem domS_snoc (l : List Nat) (a : Nat) : (fun p => if p = MK.i (a : Nat) then true else domS l p) = domS (l ++ [a]) := by
  funext q
  unfold domS
  rw [List.any_append]
  by_cases h : q = MK.i (a : Nat) <;> simp [h]
theorem domS_nil : (fun _ : MK => false) = domS [] := by funext q; rfl
theorem domS_card (l : List Nat) : cardD (.i .u64) (domS l) = (uniq l).length := by
  rw [cardD_of (L := (uniq l).map fun x => MK.i (x : Nat)), List.length_map]
  refine ⟨?_, fun q => ?_⟩
  · rw [List.nodup_iff_pairwise_ne, List.pairwise_map]
    have h := uniq_nodup l
    rw [List.nodup_iff_pairwise_ne] at h
    refine h.imp fun hne e => hne ?_
    injection e with e
    omega
  · unfold domS
    rw [List.mem_map, List.any_eq_true]
    constructor
    · rintro ⟨x, hx, rfl⟩
      exact ⟨rfl, x, uniq_mem.1 hx, by simp⟩
    · rintro ⟨_, x, hx, he⟩
      exact ⟨x, uniq_mem.2 hx, (of_decide_eq_true he).symm⟩
def mapU (l : List Nat) : Option ABlk := some (.map (.i .u64) (domS l) (.b (domS l)))
theorem getD_appBo (l : List Bool) (x : Bool) {n : Nat} (hn : l.length = n) : (fun i => if i < n then l.getD i false else [x].getD (i - n) false) = fun i => (l ++ [x]).getD i false := by
  subst hn
  funext i
  simp only [List.getD_eq_getElem?_getD, List.getElem?_append]
  split <;> rfl
set_option maxHeartbeats 4000000 in
theorem seen_c (nl : Bool) (s : List Nat) (mask nid : Nat) (hs : Small s) (hl : s.length ≤ 1000) (hm : mask < two64) :
    ACall Tryd.prog 75 [litU nl s, .int .u64 (mask : Nat)] [] nid (.tup [.int .i64 (manyV s mask : Nat), .sl nid 0 s.length]) [(nid, arrBo (flagsV s mask))] := by
  have hfl : (flagsV s mask).length = s.length := by simp [flagsV]
  have hcard : cardD (.i .u64) (domS ((s.map (· &&& mask)).take s.length)) = manyV s mask := by rw [domS_card, List.take_of_length_le (by simp)]; rfl
  have hft : (flagsV s mask).take s.length = flagsV s mask := List.take_of_length_le (by omega)
  have hf1 := fun k h => mapTakeL (flagV mask) (l := s) (k := k) (d := 0) h
  have hd1 := fun k h => mapTakeL (· &&& mask) (l := s) (k := k) (d := 0) h
  change ∀ k, k < s.length → (flagsV s mask).take (k + 1) = (flagsV s mask).take k ++ [flagV mask (s.getD k 0)] at hf1
  generalize manyV s mask = many at *
  generalize flagsV s mask = F at *
  generalize s.map (· &&& mask) = D at *
  refine acall_run c75 (by simp [a75]) ?_
  unfold litU
  simp -dsimp only [aqT, aqU, aqN, aqS, ↓seqK, ↓blkK, ↓loopK, step, stepBin, Nat.add_assoc nid, ↓reduceIte, Option.toList, ← Int.ofNat_tmod, ← Int.ofNat_tdiv, simprocAttr, BEq.rfl, LN_succ, a75]
  refine LP.mkP (fun k : Nat => k ≤ s.length) (fun k : Nat => ⟨[(12, .int .i64 k), (11, .int .i64 s.length), (10, litU nl s), (5, .sl (nid + 8) 0 (F.take k).length), (6, .mp (nid + 12)), (1, .int .u64 (mask : Nat))], [(nid + 8, arrBo (F.take k)), (nid + 12, mapU (D.take k))], nid + 200, nid⟩) (fun k => s.length + 1 - k) 0 (by omega) (Cov.go [(nid + 12, nid + 8)] [(nid + 8, 1)] ?_) (fun k hk => ?_)
  · simp [cvT, step, res, arrBo, mapU, litU, ← domS_nil, -List.getD_eq_getElem?_getD]
  have hkl : (F.take k).length = k := by rw [List.length_take]; omega
  have hkl1 : k < s.length → (F.take (k + 1)).length = k + 1 := fun h => by rw [List.length_take]; omega
  have hf1 := hf1 k
  have hd1 := hd1 k
  unfold litU arrBo mapU
  simp -dsimp only [aqT, aqU, aqN, aqS, ↓seqK, ↓blkK, ↓loopK, step, stepBin, Nat.add_assoc nid, ↓reduceIte, Option.toList, ← Int.ofNat_tmod, ← Int.ofNat_tdiv, simprocAttr, BEq.rfl, LN_succ]
  refine S2.dec (fun h3 => ?_) (fun h3 => ?_) <;> simp -dsimp only [aqT, aqU, aqN, aqS, ↓seqK, ↓blkK, ↓loopK, step, stepBin, Nat.add_assoc nid, ↓reduceIte, Option.toList, ← Int.ofNat_tmod, ← Int.ofNat_tdiv, simprocAttr, BEq.rfl, LN_succ]
  · have hks : k < s.length := by omega
    have hf1 := hf1 hks
    have hd1 := hd1 hks
    have hx := hs.at k
    have hkl1 := hkl1 hks
    obtain ⟨ha, hb⟩ := and_u hx hm
    have hfv : flagV mask (s.getD k 0) = (decide (s.getD k 0 &&& mask ≠ 0) && decide (s.getD k 0 &&& mask ≠ mask)) := rfl
    generalize s.getD k 0 = x at *
    rw [ha]
    refine ⟨by omega, ?_⟩
    rw [domS_snoc, ← hd1]
    by_cases hz : x &&& mask = 0
    · have hff : flagV mask x = false := by rw [hfv]; simp [hz]
      rw [hff] at hf1
      rw [hz]
      refine S2.no (by simp) ?_
      simp -dsimp only [aqT, aqU, aqN, aqS, ↓seqK, ↓blkK, ↓loopK, step, stepBin, Nat.add_assoc nid, ↓reduceIte, Option.toList, ← Int.ofNat_tmod, ← Int.ofNat_tdiv, simprocAttr, BEq.rfl, LN_succ]
      rw [getD_appBo (F.take k) false rfl, ← hf1]
      refine ⟨⟨by omega, by omega⟩, by unfold inI64; omega, k + 1, ⟨by omega, by omega⟩, Cov.go [(nid + 8, nid + 288)] [] ?_⟩
      simp [cvT, step, res, arrBo, mapU, litU, hkl1, hkl, -List.getD_eq_getElem?_getD]
    · have hff : ((((x &&& mask : Nat) : Int)) != ((mask : Nat) : Int)) = flagV mask x := by
        rw [hfv, Bool.eq_iff_iff]
        simp only [bne_iff_ne, ne_eq, Bool.and_eq_true, decide_eq_true_eq]
        exact ⟨fun h => ⟨hz, fun e => h (by rw [e])⟩, fun h e => h.2 (by omega)⟩
      refine S2.yes (by simpa using hz) ?_
      simp -dsimp only [aqT, aqU, aqN, aqS, ↓seqK, ↓blkK, ↓loopK, step, stepBin, Nat.add_assoc nid, ↓reduceIte, Option.toList, ← Int.ofNat_tmod, ← Int.ofNat_tdiv, simprocAttr, BEq.rfl, LN_succ]
      rw [ha, hff]
      rw [getD_appBo (F.take k) (flagV mask x) rfl, ← hf1]
      refine ⟨⟨by omega, by omega⟩, by unfold inI64; omega, k + 1, ⟨by omega, by omega⟩, Cov.go [(nid + 8, nid + 288)] [] ?_⟩
      simp [cvT, step, res, arrBo, mapU, litU, hkl1, hkl, -List.getD_eq_getElem?_getD]
  · have hke : k = s.length := by omega
    subst hke
    rw [hcard, hft]
    refine RetOK.go [(nid, nid + 8)] [] (.inl rfl) ?_
    simp [a75, cvT, step, res, arrBo, hfl, -List.getD_eq_getElem?_getD]
end Go.Proofs.YthcldfmlfjomfaaDoor
namespace Go.Proofs.YthcldfmlfjomfaaDoor
open Go.RowKit
end Go.Proofs.YthcldfmlfjomfaaDoor
namespace Go.Proofs.YthcldfmlfjomfaaDoor
open Go.RowKit
def cmpS (n k : Nat) : List (List UInt8) := (List.range n).map fun i => numV i k ++ invV (numV i k)
end Go.Proofs.YthcldfmlfjomfaaDoor
namespace Go.Proofs.YthcldfmlfjomfaaDoor
open Go.RowKit
end Go.Proofs.YthcldfmlfjomfaaDoor
namespace Go.Proofs.YthcldfmlfjomfaaDoor
open Go.RowKit
def pop (n : Nat) : Nat := ((List.range 14).filter fun j => n.testBit j).length
def andU (a b : Int) : Int := IntKind.u64.wrap ((BitVec.ofInt IntKind.u64.bits a &&& BitVec.ofInt IntKind.u64.bits b).toNat : Int)
def o1 (x : Int) : Int := IntKind.u64.wrap (andU (x.fdiv (2 ^ min 1 IntKind.u64.bits)) 6148914691236517205 + andU x 6148914691236517205)
def o2 (x : Int) : Int := IntKind.u64.wrap (andU (x.fdiv (2 ^ min 2 IntKind.u64.bits)) 3689348814741910323 + andU x 3689348814741910323)
def o4 (x : Int) : Int := andU (IntKind.u64.wrap (x.fdiv (2 ^ min 4 IntKind.u64.bits) + x)) 1085102592571150095
def o8 (x : Int) : Int := IntKind.u64.wrap (x + x.fdiv (2 ^ min 8 IntKind.u64.bits))
def o16 (x : Int) : Int := IntKind.u64.wrap (x + x.fdiv (2 ^ min 16 IntKind.u64.bits))
def o32 (x : Int) : Int := IntKind.u64.wrap (x + x.fdiv (2 ^ min 32 IntKind.u64.bits))
def oF (x : Int) : Int := IntKind.i64.wrap ((BitVec.ofInt IntKind.i64.bits (IntKind.i64.wrap x) &&& BitVec.ofInt IntKind.i64.bits 127).toNat : Int)
def onesI (n : Nat) : Int := oF (o32 (o16 (o8 (o4 (o2 (o1 (n : Nat)))))))
def onesN (n : Nat) : Nat :=
  let a := (n / 2 &&& 6148914691236517205) + (n &&& 6148914691236517205)
  let b := (a / 4 &&& 3689348814741910323) + (a &&& 3689348814741910323)
  let c := (b / 16 + b) &&& 1085102592571150095
  let d := c + c / 256
  let e := d + d / 65536
  let f := e + e / 4294967296
  f &&& 127
theorem fdivP {x : Nat} (k : Nat) (hk : k ≤ 64) : ((x : Nat) : Int).fdiv (2 ^ min k IntKind.u64.bits) = ((x / 2 ^ k : Nat) : Int) := by
  rw [show min k IntKind.u64.bits = k from Nat.min_eq_left hk, Int.fdiv_eq_ediv_of_nonneg _ (Int.le_of_lt (Int.pow_pos (by decide))), Int.natCast_ediv, Int.natCast_pow]; rfl
theorem andUN {x y : Nat} (hx : x < two64) (hy : y < two64) : andU (x : Nat) (y : Nat) = ((x &&& y : Nat) : Int) := (and_u hx hy).1
theorem ones_nat {n : Nat} (hn : n < two64) : onesI n = ((onesN n : Nat) : Int) := by
  have h2 : two64 = 18446744073709551616 := rfl
  unfold onesI onesN
  simp only
  have e1 : o1 (n : Nat) = (((n / 2 &&& 6148914691236517205) + (n &&& 6148914691236517205) : Nat) : Int) := by
    unfold o1
    rw [fdivP 1 (by omega)]
    have ha := andUN (x := n / 2 ^ 1) (y := 6148914691236517205) (by omega) (by omega)
    have hb := andUN (x := n) (y := 6148914691236517205) hn (by omega)
    rw [show ((6148914691236517205 : Nat) : Int) = 6148914691236517205 from rfl] at ha hb
    rw [ha, hb, ← Int.natCast_add]
    have b1 : n / 2 ^ 1 &&& 6148914691236517205 ≤ 6148914691236517205 := Nat.and_le_right
    have b2 : n &&& 6148914691236517205 ≤ 6148914691236517205 := Nat.and_le_right
    exact u64_in (by omega)
  have b1 : n / 2 &&& 6148914691236517205 ≤ 6148914691236517205 := Nat.and_le_right
  have b2 : n &&& 6148914691236517205 ≤ 6148914691236517205 := Nat.and_le_right
  rw [e1]
  generalize ha : (n / 2 &&& 6148914691236517205) + (n &&& 6148914691236517205) = a at *
  have al : a < two64 := by omega
  have e2 : o2 (a : Nat) = (((a / 4 &&& 3689348814741910323) + (a &&& 3689348814741910323) : Nat) : Int) := by
    unfold o2
    rw [fdivP 2 (by omega)]
    have ha := andUN (x := a / 2 ^ 2) (y := 3689348814741910323) (by omega) (by omega)
    have hb := andUN (x := a) (y := 3689348814741910323) al (by omega)
    rw [show ((3689348814741910323 : Nat) : Int) = 3689348814741910323 from rfl] at ha hb
    rw [ha, hb, ← Int.natCast_add]
    have b1 : a / 2 ^ 2 &&& 3689348814741910323 ≤ 3689348814741910323 := Nat.and_le_right
    have b2 : a &&& 3689348814741910323 ≤ 3689348814741910323 := Nat.and_le_right
    exact u64_in (by omega)
  have b3 : a / 4 &&& 3689348814741910323 ≤ 3689348814741910323 := Nat.and_le_right
  have b4 : a &&& 3689348814741910323 ≤ 3689348814741910323 := Nat.and_le_right
  rw [e2]
  generalize hb : (a / 4 &&& 3689348814741910323) + (a &&& 3689348814741910323) = b at *
  have bl : b ≤ 7378697629483820646 := by omega
  have e4 : o4 (b : Nat) = (((b / 16 + b) &&& 1085102592571150095 : Nat) : Int) := by
    unfold o4
    rw [fdivP 4 (by omega), ← Int.natCast_add, u64_in (by omega)]
    have ha := andUN (x := b / 2 ^ 4 + b) (y := 1085102592571150095) (by omega) (by omega)
    rw [show ((1085102592571150095 : Nat) : Int) = 1085102592571150095 from rfl] at ha
    exact ha
  have b5 : (b / 16 + b) &&& 1085102592571150095 ≤ 1085102592571150095 := Nat.and_le_right
  rw [e4]
  generalize (b / 16 + b) &&& 1085102592571150095 = c at *
  have e8 : o8 (c : Nat) = ((c + c / 256 : Nat) : Int) := by
    unfold o8
    rw [fdivP 8 (by omega), ← Int.natCast_add]
    exact u64_in (by omega)
  rw [e8]
  generalize hd : c + c / 256 = d at *
  have e16 : o16 (d : Nat) = ((d + d / 65536 : Nat) : Int) := by
    unfold o16
    rw [fdivP 16 (by omega), ← Int.natCast_add]
    exact u64_in (by omega)
  rw [e16]
  generalize he : d + d / 65536 = e at *
  have e32 : o32 (e : Nat) = ((e + e / 4294967296 : Nat) : Int) := by
    unfold o32
    rw [fdivP 32 (by omega), ← Int.natCast_add]
    exact u64_in (by omega)
  rw [e32]
  generalize hf : e + e / 4294967296 = f at *
  unfold oF
  have f1 : f < 4611686018427387904 := by omega
  have f2 : f < two64 := by omega
  have w1 : IntKind.i64.wrap (f : Int) = f := IntWalk.i64_in _ (by omega)
  rw [w1]
  have ha := andUN (x := f) (y := 127) f2 (by omega)
  have hle : f &&& 127 ≤ 127 := Nat.and_le_right
  have hu : (BitVec.ofInt IntKind.i64.bits (f : Int) &&& BitVec.ofInt IntKind.i64.bits 127).toNat = f &&& 127 := by
    rw [BitVec.toNat_and, BitVec.toNat_ofInt, BitVec.toNat_ofInt]
    have q1 : ((f : Int) % ((2 ^ IntKind.i64.bits : Nat) : Int)).toNat = f := by
      show ((f : Int) % 18446744073709551616).toNat = f
      omega
    have q2 : ((127 : Int) % ((2 ^ IntKind.i64.bits : Nat) : Int)).toNat = 127 := by decide
    rw [q1, q2]
  rw [hu]
  exact IntWalk.i64_in _ (by omega)
def popR : Nat → Nat → Nat
  | 0, _ => 0
  | k + 1, n => n % 2 + popR k (n / 2)
theorem pop_r (k : Nat) : ∀ n : Nat, ((List.range k).filter fun j => n.testBit j).length = popR k n := by
  induction k with
  | zero => intro n; rfl
  | succ k ih =>
    intro n
    rw [List.range_succ_eq_map, List.filter_cons, popR, ← ih (n / 2)]
    have e : ((List.range k).map Nat.succ).filter (fun j => n.testBit j) = ((List.range k).filter fun j => (n / 2).testBit j).map Nat.succ := by
      rw [List.filter_map]
      congr 1
      refine List.filter_congr fun j _ => ?_
      show n.testBit (j + 1) = _
      rw [Nat.testBit_succ]
    rw [e]
    rw [Nat.testBit_zero]
    rcases Nat.mod_two_eq_zero_or_one n with h | h
    · simp [h]
    · simp [h]; omega
theorem ones_all : ((List.range 16384).all fun n => Nat.beq (onesN n) (popR 14 n)) = true := by kernel_rfl
theorem ones_eq {n : Nat} (hn : n < 16384) : onesI n = (pop n : Nat) := by
  rw [ones_nat (by unfold two64; omega)]
  have h := List.all_eq_true.1 ones_all n (List.mem_range.2 hn)
  rw [Nat.eq_of_beq_eq_true h]
  unfold pop
  rw [pop_r]
set_option maxHeartbeats 4000000 in
theorem ones64_c (n : Nat) (nid : Nat) (hn : n < 16384) : ACall Tryd.prog 131 [.int .u64 (n : Nat)] [] nid (.int .i64 (pop n : Nat)) [] := by
  have e := ones_eq hn
  refine acall_run c131 (by simp [a131]) ?_
  simp -dsimp only [aqT, aqU, aqN, aqS, ↓seqK, ↓blkK, ↓loopK, step, stepBin, Nat.add_assoc nid, ↓reduceIte, Option.toList, ← Int.ofNat_tmod, ← Int.ofNat_tdiv, simprocAttr, BEq.rfl, LN_succ, a131]
  simp only [onesI, oF, o32, o16, o8, o4, o2, o1, andU] at e
  rw [e]
  refine RetOK.pure (.inl rfl) rfl ?_
  simp [cvT, step, res]
theorem ones_c (n : Nat) (nid : Nat) (hn : n < 16384) : ACall Tryd.prog 76 [.int .u64 (n : Nat)] [] nid (.int .i64 (pop n : Nat)) [] := by
  refine acall_run c76 (by simp [a76]) ?_
  simp -dsimp only [aqT, aqU, aqN, aqS, ↓seqK, ↓blkK, ↓loopK, step, stepBin, Nat.add_assoc nid, ↓reduceIte, Option.toList, ← Int.ofNat_tmod, ← Int.ofNat_tdiv, simprocAttr, BEq.rfl, LN_succ, a76]
  refine CallO.pure (ones64_c n _ hn) ?_
  simp -dsimp only [aqT, aqU, aqN, aqS, ↓seqK, ↓blkK, ↓loopK, step, stepBin, Nat.add_assoc nid, ↓reduceIte, Option.toList, ← Int.ofNat_tmod, ← Int.ofNat_tdiv, simprocAttr, BEq.rfl, LN_succ]
  refine RetOK.pure (.inl rfl) rfl ?_
  simp [cvT, step, res]
end Go.Proofs.YthcldfmlfjomfaaDoor
namespace Go.Proofs.YthcldfmlfjomfaaDoor
open Go.RowKit
inductive FltGood (n : Nat) : Flt → Prop
  | one {k a : Nat} (hk : k = 1 ∨ k = 2 ∨ k = 6) (ha : a < n) : FltGood n ⟨k, [a]⟩
  | two {k a b : Nat} (hk : k = 3 ∨ k = 4) (ha : a < b) (hb : b < n) : FltGood n ⟨k, [a, b]⟩
  | fst {a b : Nat} (hab : a ≠ b) (ha : a < n) (hb : b < n) : FltGood n ⟨5, [a, b]⟩
theorem FltGood.ok {n : Nat} {f : Flt} (h : FltGood n f) : FltOk n f := by
  cases h with
  | one hk ha => exact ⟨by simp only; omega, by simp only; omega, by simp, by simp, fun x hx => by simp at hx; omega⟩
  | two hk ha hb => exact ⟨by simp only; omega, by simp only; omega, by simp, by simp, fun x hx => by simp at hx; omega⟩
  | fst hab ha hb => exact ⟨by simp only; omega, by simp only; omega, by simp, by simp, fun x hx => by simp at hx; omega⟩
def rising (f : Flt) : List Nat := if f.kind = 5 then f.nets.drop 1 else f.nets
structure FltRight (n : Nat) (f : Flt) : Prop extends FltOk n f where
  short : (!outB (f.kind : Nat) 3 5) = decide (1 < f.nets.length)
  ord : ∀ i, 1 ≤ i → i < (rising f).length → (rising f).getD (i - 1) 0 < (rising f).getD i 0
  twice : f.kind = 5 → f.nets.getD 0 0 ∉ rising f
theorem FltGood.right {n : Nat} {f : Flt} (h : FltGood n f) : FltRight n f := by
  refine ⟨h.ok, ?_, ?_, ?_⟩
  · cases h with
    | one hk ha =>
      rename_i k a
      have : outB ((k : Nat) : Int) 3 5 = true := by unfold outB; simp; omega
      simp [this]
    | two hk ha hb =>
      rename_i k a b
      have : outB ((k : Nat) : Int) 3 5 = false := by unfold outB; simp; omega
      simp [this]
    | fst hab ha hb =>
      have : outB 5 3 5 = false := rfl
      simp [this]
  · cases h with
    | one hk ha => intro i h1 h2; unfold rising at h2; rw [if_neg (by simp only; omega)] at h2; simp at h2; omega
    | two hk ha hb =>
      intro i h1 h2
      unfold rising at h2 ⊢
      rw [if_neg (by simp only; omega)] at h2 ⊢
      simp at h2
      have : i = 1 := by omega
      subst this
      simpa using ha
    | fst hab ha hb => intro i h1 h2; simp [rising] at h2; omega
  · cases h with
    | one hk ha => intro h5; simp only at h5; omega
    | two hk ha hb => intro h5; simp only at h5; omega
    | fst hab ha hb => intro _; simp [rising]; exact hab
end Go.Proofs.YthcldfmlfjomfaaDoor
namespace Go.Proofs.YthcldfmlfjomfaaDoor
open Go.RowKit
end Go.Proofs.YthcldfmlfjomfaaDoor
namespace Go.Proofs.YthcldfmlfjomfaaDoor
open Go.RowKit
end Go.Proofs.YthcldfmlfjomfaaDoor
namespace Go.Proofs.YthcldfmlfjomfaaDoor
open Go.RowKit
end Go.Proofs.YthcldfmlfjomfaaDoor
namespace Go.Proofs.YthcldfmlfjomfaaDoor
open Go.RowKit
def cmpK (n : Nat) : Nat := ((List.range 14).find? fun j => decide (1 ≤ j) && decide (n ≤ 2 ^ j)).getD 0
end Go.Proofs.YthcldfmlfjomfaaDoor
namespace Go.Proofs.YthcldfmlfjomfaaDoor
open Go.RowKit
end Go.Proofs.YthcldfmlfjomfaaDoor
namespace Go.Proofs.YthcldfmlfjomfaaDoor
def shortK (k : Nat) : Bool := decide (3 ≤ k) && decide (k ≤ 5)
def takeB (k a b : Nat) : Bool := decide (a < b) || (decide (b < a) && decide (k = 5))
def rowB (k a m : Nat) : List Flt := ((List.range m).filter (takeB k a)).map fun b => ⟨k, [a, b]⟩
def rowA (n k a : Nat) : List Flt := if shortK k then rowB k a n else [⟨k, [a]⟩]
def allK (n k m : Nat) : List Flt := (List.range m).flatMap (rowA n k)
def allV (n : Nat) (ks : List Nat) : List Flt := ks.flatMap fun k => allK n k n
def undV (t : List (List UInt8)) (fs : List Flt) (ones : Nat) : List Nat := (List.range fs.length).filter fun i => (maskL t fs ones).getD i 0 == 0
theorem covers_all : ((List.range 12).all fun m => (allV (m + 1) [1, 2, 3, 4, 5, 6]).all fun f => !(detV ((cmpS (m + 1) (cmpK (m + 1))).map rowN) f (2 ^ (2 * cmpK (m + 1)) - 1) == 0)) = true := by kernel_rfl
theorem covers {n : Nat} (h1 : 1 ≤ n) (h2 : n ≤ 12) : undV (cmpS n (cmpK n)) (allV n [1, 2, 3, 4, 5, 6]) (2 ^ (2 * cmpK n) - 1) = [] := by
  obtain ⟨m, rfl⟩ : ∃ m, n = m + 1 := ⟨n - 1, by omega⟩
  have := List.all_eq_true.1 covers_all m (by simp; omega)
  unfold undV
  rw [List.filter_eq_nil_iff]
  intro i hi
  have hi := List.mem_range.1 hi
  unfold maskL
  have hf := List.all_eq_true.1 this ((allV (m + 1) [1, 2, 3, 4, 5, 6])[i]) (List.getElem_mem _)
  rw [List.getD_eq_getElem?_getD, List.getElem?_map, List.getElem?_eq_getElem hi]
  simpa using hf
end Go.Proofs.YthcldfmlfjomfaaDoor
namespace Go.Proofs.YthcldfmlfjomfaaDoor
open Go.RowKit
end Go.Proofs.YthcldfmlfjomfaaDoor
namespace Go.Proofs.YthcldfmlfjomfaaDoor
open Go.RowKit
end Go.Proofs.YthcldfmlfjomfaaDoor
namespace Go.Proofs.YthcldfmlfjomfaaDoor
open Go.RowKit
def arrN (l : List Nat) : Option ABlk := some (.arr 3 l.length [.i .i64 fun i => ((l.getD i 0 : Nat) : Int)])
end Go.Proofs.YthcldfmlfjomfaaDoor
namespace Go.Proofs.YthcldfmlfjomfaaDoor
open Go.RowKit
def midTo (v : List (List UInt8)) (n i c : Nat) : List Nat := (List.range n).map fun k => if k < c then rowTo (colB v k) (i + 1) else rowTo (colB v k) i
theorem midTo_len (v : List (List UInt8)) (n i c : Nat) : (midTo v n i c).length = n := by simp [midTo]
theorem midTo_at {v : List (List UInt8)} {n i c k : Nat} (hk : k < n) : (midTo v n i c).getD k 0 = if k < c then rowTo (colB v k) (i + 1) else rowTo (colB v k) i := by
  unfold midTo
  rw [List.getD_eq_getElem?_getD, List.getElem?_map, List.getElem?_range hk]
  rfl
theorem midTo_set {v : List (List UInt8)} {n i c : Nat} (hc : c < n) : (midTo v n i c).set c (rowTo (colB v c) (i + 1)) = midTo v n i (c + 1) := by
  apply List.ext_getElem?
  intro k
  rw [List.getElem?_set]
  unfold midTo
  by_cases hk : k < n
  · by_cases e : c = k
    · subst e
      simp [hk]
    · rw [if_neg e]
      simp only [List.getElem?_map, List.getElem?_range hk, Option.map_some, Option.some.injEq]
      by_cases h : k < c
      · rw [if_pos h, if_pos (by omega)]
      · rw [if_neg h, if_neg (by omega)]
  · rw [if_neg (by omega)]
    simp only [List.getElem?_map, List.getElem?_eq_none (show (List.range n).length ≤ k by simp; omega), Option.map_none]
theorem midTo_next {v : List (List UInt8)} {n i : Nat} : midTo v n i n = midTo v n (i + 1) 0 := by
  unfold midTo
  refine List.map_congr_left fun k hk => ?_
  have := List.mem_range.1 hk
  rw [if_pos this, if_neg (by omega)]
theorem midTo_zero {v : List (List UInt8)} {n : Nat} : midTo v n 0 0 = (List.range n).map fun _ => 0 := by
  unfold midTo
  refine List.map_congr_left fun k hk => ?_
  rw [if_neg (by omega)]
  rfl
theorem midTo_all {v : List (List UInt8)} {n : Nat} : midTo v n v.length 0 = (turnL v n).map rowN := by
  unfold midTo turnL
  rw [List.map_map]
  refine List.map_congr_left fun k hk => ?_
  rw [if_neg (by omega), Function.comp_apply, ← rowTo_all, colB_len]
theorem zeros_at (n : Nat) : (fun _ : Nat => (0 : Int)) = fun i => ((((List.range n).map fun _ => 0).getD i 0 : Nat) : Int) := by
  funext i
  rw [List.getD_eq_getElem?_getD, List.getElem?_map]
  cases h : (List.range n)[i]? <;> rfl
def worseI (best mask : Nat) : Bool :=
  let d : Int := IntKind.u64.wrap ((BitVec.ofInt IntKind.u64.bits ((mask : Nat) : Int) ^^^ BitVec.ofInt IntKind.u64.bits ((best : Nat) : Int)).toNat : Int)
  let low : Int := IntKind.u64.wrap ((BitVec.ofInt IntKind.u64.bits d &&& BitVec.ofInt IntKind.u64.bits (IntKind.u64.wrap (0 - d))).toNat : Int)
  IntKind.u64.wrap ((BitVec.ofInt IntKind.u64.bits ((mask : Nat) : Int) &&& BitVec.ofInt IntKind.u64.bits low).toNat : Int) == 0
def skipB (best mask : Nat) : Bool := decide (0 < ((pop mask : Nat) : Int) - ((pop best : Nat) : Int)) || (((((pop mask : Nat) : Int) - ((pop best : Nat) : Int)) == 0) && worseI best mask)
def nextB (S : List Nat) (full best mask : Nat) : Nat := if skipB best mask then best else if sameV S full mask then mask else best
def bestTo (S : List Nat) (full x : Nat) : Nat := (List.range x).foldl (nextB S full) full
theorem bestTo_step (S : List Nat) (full x : Nat) : bestTo S full (x + 1) = nextB S full (bestTo S full x) x := by
  unfold bestTo
  rw [List.range_succ, List.foldl_append]; rfl
theorem sameV_self (S : List Nat) (full : Nat) : sameV S full full = true := by unfold sameV; simp
theorem bestTo_good (S : List Nat) (full : Nat) : ∀ x, x ≤ full + 1 → sameV S full (bestTo S full x) = true ∧ bestTo S full x ≤ full
  | 0, _ => ⟨sameV_self S full, Nat.le_refl _⟩
  | x + 1, h => by
    obtain ⟨h1, h2⟩ := bestTo_good S full x (by omega)
    rw [bestTo_step]
    unfold nextB
    split
    · exact ⟨h1, h2⟩
    · split
      · rename_i h3; exact ⟨h3, by omega⟩
      · exact ⟨h1, h2⟩
def bestV (S : List Nat) (m : Nat) : Nat := bestTo S (2 ^ m - 1) (2 ^ m)
def fewTo (B x : Nat) : List Nat := (List.range x).filter fun i => B.testBit i
theorem fewTo_yes {B x : Nat} (h : B.testBit x = true) : fewTo B (x + 1) = fewTo B x ++ [x] := by
  unfold fewTo
  rw [List.range_succ, List.filter_append]
  simp [h]
theorem fewTo_no {B x : Nat} (h : B.testBit x = false) : fewTo B (x + 1) = fewTo B x := by
  unfold fewTo
  rw [List.range_succ, List.filter_append]
  simp [h]
theorem fewTo_len (B x : Nat) : (fewTo B x).length ≤ x := Nat.le_trans (List.length_filter_le _ _) (by simp)
end Go.Proofs.YthcldfmlfjomfaaDoor
namespace Go.Proofs.YthcldfmlfjomfaaDoor
theorem rowTo_bit {s : List UInt8} (hb : bitsOk s = true) (j : Nat) : ∀ k, k ≤ s.length → (rowTo s k).testBit j = (decide (j < k) && s.getD j 0 == 49)
  | 0, _ => by simp [rowTo]
  | k + 1, h => by
    rw [rowTo_step (by omega), Nat.testBit_or, rowTo_bit hb j k (by omega), Nat.testBit_shiftLeft]
    by_cases hjk : j = k
    · subst hjk
      simp only [Nat.lt_irrefl, decide_false, Bool.false_and, Bool.false_or, ge_iff_le, Nat.le_refl, decide_true, Bool.true_and, Nat.sub_self, Nat.lt_succ_self]
      rcases bitsOk_at hb (show j < s.length by omega) with e | e <;> rw [e] <;> decide
    · by_cases hlt : j < k
      · have : ¬ k ≤ j := by omega
        have h2 : j < k + 1 := by omega
        simp [hlt, this, h2]
      · have h1 : k ≤ j := by omega
        have h2 : ¬ j < k + 1 := by omega
        simp only [hlt, h2, h1, decide_true, decide_false, Bool.false_and, Bool.false_or, Bool.true_and, ge_iff_le]
        have hx : (s.getD k 0).toNat - 48 = 0 ∨ (s.getD k 0).toNat - 48 = 1 := by rcases bit_nat2 hb (show k < s.length by omega) with e | e <;> omega
        obtain ⟨d, hd⟩ : ∃ d, j - k = d + 1 := ⟨j - k - 1, by omega⟩
        rcases hx with e | e <;> rw [e, hd]
        · simp
        · rw [Nat.testBit_succ]; simp
theorem rowN_bit {s : List UInt8} (hb : bitsOk s = true) (j : Nat) : (rowN s).testBit j = (decide (j < s.length) && s.getD j 0 == 49) := by
  rw [← rowTo_all]
  exact rowTo_bit hb j _ (Nat.le_refl _)
theorem bit_cmp {s t : List UInt8} (hs : bitsOk s = true) (ht : bitsOk t = true) {i : Nat} (h1 : i < s.length) (h2 : i < t.length) : ((s.getD i 0 == 49) = (t.getD i 0 == 49)) ↔ s.getD i 0 = t.getD i 0 := by
  rcases bitsOk_at hs h1 with e | e <;> rcases bitsOk_at ht h2 with e2 | e2 <;> rw [e, e2] <;> decide
theorem rowN_eq {s t : List UInt8} (hs : bitsOk s = true) (ht : bitsOk t = true) (hl : s.length = t.length) : rowN s = rowN t ↔ ∀ i, i < s.length → s.getD i 0 = t.getD i 0 := by
  constructor
  · intro h i hi
    have hb := congrArg (fun x => x.testBit i) h
    rw [rowN_bit hs, rowN_bit ht] at hb
    simp only [hi, show i < t.length by omega, decide_true, Bool.true_and] at hb
    exact (bit_cmp hs ht hi (by omega)).1 hb
  · intro h
    refine Nat.eq_of_testBit_eq fun i => ?_
    rw [rowN_bit hs, rowN_bit ht]
    by_cases hi : i < s.length
    · rw [h i hi, hl]
    · simp [hi, show ¬ i < t.length by omega]
theorem rowN_lt {s : List UInt8} (hs : bitsOk s = true) : rowN s < 2 ^ s.length := by
  refine Nat.lt_pow_two_of_testBit _ fun i hi => ?_
  rw [rowN_bit hs]
  simp; omega
def someV (v : List (List UInt8)) (L : List Nat) : List (List UInt8) := L.map fun i => v.getD i []
theorem few_eq {n : Nat} {v : List (List UInt8)} (hv : PatOk (n : Nat) v) {B p q : Nat} (hp : p < n) (hq : q < n) :
    rowN (colB (someV v (fewTo B v.length)) p) = rowN (colB (someV v (fewTo B v.length)) q) ↔ rowN (colB v p) &&& B = rowN (colB v q) &&& B := by
  have hrow := hv.row
  have hcb : ∀ k, k < n → bitsOk (colB v k) = true := fun k hk => colB_bits fun s hs => ⟨by have := (hrow s hs).1; omega, (hrow s hs).2⟩
  have hmem : ∀ i, i ∈ fewTo B v.length ↔ i < v.length ∧ B.testBit i = true := fun i => by unfold fewTo; rw [List.mem_filter, List.mem_range]
  have hsv : ∀ s ∈ someV v (fewTo B v.length), s ∈ v := fun s hs => by
    unfold someV at hs
    obtain ⟨i, hi, rfl⟩ := List.mem_map.1 hs
    have := ((hmem i).1 hi).1
    rw [List.getD_eq_getElem?_getD, List.getElem?_eq_getElem this]
    exact List.getElem_mem _
  have hcf : ∀ k, k < n → bitsOk (colB (someV v (fewTo B v.length)) k) = true := fun k hk => colB_bits fun s hs => ⟨by have := (hrow s (hsv s hs)).1; omega, (hrow s (hsv s hs)).2⟩
  have hsl : (someV v (fewTo B v.length)).length = (fewTo B v.length).length := by simp [someV]
  have hat : ∀ j (hj : j < (fewTo B v.length).length) k, (colB (someV v (fewTo B v.length)) k).getD j 0 = (colB v k).getD ((fewTo B v.length)[j]) 0 := fun j hj k => by
    have hm := ((hmem _).1 (List.getElem_mem hj)).1
    rw [colB_at _ _ (by omega), colB_at _ _ hm]
    have e : (someV v (fewTo B v.length)).getD j [] = v.getD ((fewTo B v.length)[j]) [] := by
      unfold someV
      rw [List.getD_eq_getElem?_getD, List.getElem?_map, List.getElem?_eq_getElem hj]
      rfl
    rw [e]
  rw [rowN_eq (hcf p hp) (hcf q hq) (by rw [colB_len, colB_len]), colB_len, hsl]
  constructor
  · intro h
    refine Nat.eq_of_testBit_eq fun i => ?_
    rw [Nat.testBit_and, Nat.testBit_and, rowN_bit (hcb p hp), rowN_bit (hcb q hq), colB_len, colB_len]
    by_cases hi : i < v.length
    · cases hB : B.testBit i
      · simp
      · obtain ⟨j, hj, e⟩ := List.getElem_of_mem ((hmem i).2 ⟨hi, hB⟩)
        have := h j hj
        rw [hat j hj, hat j hj, e] at this
        rw [this]
    · simp [hi]
  · intro h j hj
    have hm := (hmem _).1 (List.getElem_mem hj)
    have hb := congrArg (fun x => x.testBit ((fewTo B v.length)[j])) h
    rw [Nat.testBit_and, Nat.testBit_and, rowN_bit (hcb p hp), rowN_bit (hcb q hq), colB_len, colB_len, hm.2] at hb
    simp only [hm.1, decide_true, Bool.true_and, Bool.and_true] at hb
    rw [hat j hj, hat j hj]
    exact (bit_cmp (hcb p hp) (hcb q hq) (by rw [colB_len]; exact hm.1) (by rw [colB_len]; exact hm.1)).1 hb
end Go.Proofs.YthcldfmlfjomfaaDoor
namespace Go.Proofs.YthcldfmlfjomfaaDoor
open Go.RowKit
theorem neg_u {d : Nat} (h0 : 0 < d) (h : d < two64) : IntKind.u64.wrap (0 - (d : Int)) = ((two64 - d : Nat) : Int) := by
  unfold two64 at *
  show (0 - (d : Int)) % 18446744073709551616 = _
  omega
theorem worse_eq {best mask n : Nat} (hb : best < 2 ^ n) (hm : mask < 2 ^ n) (hn : n ≤ 62) (hlen : (fewG mask n).length = (fewG best n).length) : worseI best mask = !decide (cmpG (fewG mask n) (fewG best n) < 0) := by
  have hp : (2 : Nat) ^ n ≤ 2 ^ 62 := Nat.pow_le_pow_right (by omega) hn
  have hm2 : mask < two64 := by unfold two64; omega
  have hb2 : best < two64 := by unfold two64; omega
  have hx := xor_u hm2 hb2
  rw [← low_before hm hb hn hlen]
  unfold worseI
  simp only
  rw [hx.1]
  generalize hd : mask ^^^ best = d at *
  by_cases h0 : d = 0
  · subst h0
    rw [show IntKind.u64.wrap (0 - ((0 : Nat) : Int)) = ((0 : Nat) : Int) from by decide]
    have h1 := (and_u (show (0 : Nat) < two64 by decide) (show (0 : Nat) < two64 by decide)).1
    rw [h1]
    have h2 := (and_u hm2 (show (0 &&& 0 : Nat) < two64 by decide)).1
    rw [h2]
    simp
  · rw [neg_u (by omega) hx.2]
    have h1 := and_u hx.2 (show two64 - d < two64 by omega)
    rw [h1.1]
    have h2 := and_u hm2 h1.2
    rw [h2.1]
    rw [Bool.eq_iff_iff]
    simp only [beq_iff_eq, decide_eq_true_eq]
    unfold two64
    constructor
    · intro h; exact Int.ofNat_inj.1 h
    · intro h; rw [h]; rfl
theorem pop_few {x n : Nat} (hx : x < 2 ^ n) (hn : n ≤ 14) : pop x = (fewG x n).length := by
  unfold pop fewG
  have e : (14 : Nat) = n + (14 - n) := by omega
  rw [e, List.range_add, List.filter_append, List.length_append]
  have : ((List.range (14 - n)).map (n + ·)).filter (fun j => x.testBit j) = [] := by
    rw [List.filter_eq_nil_iff]
    intro j hj
    obtain ⟨k, _, rfl⟩ := List.mem_map.1 hj
    rw [Nat.testBit_lt_two_pow (Nat.lt_of_lt_of_le hx (Nat.pow_le_pow_right (by omega) (by omega)))]
    simp
  rw [this]
  rfl
theorem skipB_eq {best mask n : Nat} (hb : best < 2 ^ n) (hm : mask < 2 ^ n) (hn : n ≤ 14) : skipB best mask = !decide (ordG (fewG mask n) (fewG best n) < 0) := by
  unfold skipB ordG
  rw [pop_few hm hn, pop_few hb hn]
  by_cases h1 : (fewG mask n).length < (fewG best n).length
  · rw [if_pos h1]
    have a1 : ¬ (0 : Int) < ((fewG mask n).length : Nat) - ((fewG best n).length : Nat) := by omega
    have a2 : ((((fewG mask n).length : Nat) : Int) - ((fewG best n).length : Nat) == 0) = false := by rw [beq_eq_false_iff_ne]; omega
    rw [decide_eq_false a1, a2]
    rfl
  · rw [if_neg h1]
    by_cases h2 : (fewG best n).length < (fewG mask n).length
    · rw [if_pos h2]
      have a1 : (0 : Int) < ((fewG mask n).length : Nat) - ((fewG best n).length : Nat) := by omega
      rw [decide_eq_true a1]
      rfl
    · rw [if_neg h2]
      have a1 : ¬ (0 : Int) < ((fewG mask n).length : Nat) - ((fewG best n).length : Nat) := by omega
      have a2 : ((((fewG mask n).length : Nat) : Int) - ((fewG best n).length : Nat) == 0) = true := by rw [beq_iff_eq]; omega
      rw [decide_eq_false a1, a2, worse_eq hb hm (by omega) (by omega)]
      rfl
theorem bestTo_short (S : List Nat) {n : Nat} (hn : n ≤ 14) : ∀ x, x ≤ 2 ^ n → bestTo S (2 ^ n - 1) x = shortToG (sameV S (2 ^ n - 1)) n x
  | 0, _ => rfl
  | x + 1, h => by
    have hlt := shortToG_lt (sameV S (2 ^ n - 1)) n x (by omega)
    rw [bestTo_step, bestTo_short S hn x (by omega), shortToG_succ]
    unfold nextB shortStepG
    rw [skipB_eq hlt (by omega) hn]
    by_cases h1 : ordG (fewG x n) (fewG (shortToG (sameV S (2 ^ n - 1)) n x) n) < 0
    · rw [decide_eq_true h1, if_neg (by simp)]
      cases h2 : sameV S (2 ^ n - 1) x
      · rw [if_neg (by simp), if_neg (by simp)]
      · rw [if_pos rfl, if_pos ⟨h1, rfl⟩]
    · rw [decide_eq_false h1, if_pos (show (!false) = true from rfl), if_neg (fun h => h1 h.1)]
theorem bestV_short (S : List Nat) {n : Nat} (hn : n ≤ 14) : bestV S n = shortToG (sameV S (2 ^ n - 1)) n (2 ^ n) := bestTo_short S hn _ (Nat.le_refl _)
end Go.Proofs.YthcldfmlfjomfaaDoor
namespace Go.Proofs.YthcldfmlfjomfaaDoor
open Go.RowKit
def eqOne (S : List (List UInt8)) (n i : Nat) : List Nat := i :: ((List.range' (i + 1) (n - i - 1)).filter fun k => S.getD k [] == S.getD i [])
def eqGb (S : List (List UInt8)) (n i : Nat) : Bool := decide (1 < (eqOne S n i).length) && !(S.take i).contains (S.getD i [])
def eqTo (S : List (List UInt8)) (n x : Nat) : List (List Nat) := ((List.range x).filter (eqGb S n)).map (eqOne S n)
theorem eqTo_succ (S : List (List UInt8)) (n x : Nat) : eqTo S n (x + 1) = if eqGb S n x = true then eqTo S n x ++ [eqOne S n x] else eqTo S n x := by
  unfold eqTo
  rw [List.range_succ, List.filter_append, List.map_append]
  cases h : eqGb S n x
  · simp [h]
  · simp [h]
theorem eqTo_len (S : List (List UInt8)) (n x : Nat) : (eqTo S n x).length ≤ x := by
  unfold eqTo
  rw [List.length_map]
  exact Nat.le_trans (List.length_filter_le _ _) (by simp)
theorem eqOne_mem {S : List (List UInt8)} {n i k : Nat} (hi : i < n) : k ∈ eqOne S n i ↔ i ≤ k ∧ k < n ∧ S.getD k [] = S.getD i [] := by
  unfold eqOne
  rw [List.mem_cons, List.mem_filter, List.mem_range'_1, beq_iff_eq]
  constructor
  · rintro (rfl | ⟨h1, h2⟩)
    · exact ⟨Nat.le_refl _, hi, rfl⟩
    · exact ⟨by omega, by omega, h2⟩
  · rintro ⟨h1, h2, h3⟩
    by_cases e : k = i
    · exact .inl e
    · exact .inr ⟨⟨by omega, by omega⟩, h3⟩
theorem take_has {S : List (List UInt8)} {i : Nat} (hi : i ≤ S.length) (x : List UInt8) : (S.take i).contains x = true ↔ ∃ j, j < i ∧ S.getD j [] = x := by
  rw [List.contains_iff_mem]
  constructor
  · intro h
    obtain ⟨j, hj, e⟩ := List.getElem_of_mem h
    rw [List.length_take] at hj
    refine ⟨j, by omega, ?_⟩
    rw [List.getElem_take] at e
    rw [List.getD_eq_getElem?_getD, List.getElem?_eq_getElem (by omega)]
    exact e
  · rintro ⟨j, hj, rfl⟩
    rw [List.getD_eq_getElem?_getD, List.getElem?_eq_getElem (by omega)]
    exact List.mem_take_iff_getElem.2 ⟨j, by omega, rfl⟩
theorem least_at {p : Nat → Prop} : ∀ n : Nat, p n → ∃ i, i ≤ n ∧ p i ∧ ∀ k, k < i → ¬ p k := by
  intro n
  induction n using Nat.strongRecOn with
  | _ n ih =>
    intro hn
    by_cases h : ∃ k, k < n ∧ p k
    · obtain ⟨k, hk, hp⟩ := h
      obtain ⟨i, h1, h2, h3⟩ := ih k hk hp
      exact ⟨i, by omega, h2, h3⟩
    · exact ⟨n, Nat.le_refl _, hn, fun k hk hp => h ⟨k, hk, hp⟩⟩
theorem eqB_first {S : List (List UInt8)} {n p q : Nat} (hS : S.length = n) (hpq : p < q) (hq : q < n) (h : S.getD p [] = S.getD q []) : ∃ i, i ≤ p ∧ eqGb S n i = true ∧ S.getD i [] = S.getD p [] := by
  obtain ⟨i, hip, he, hl⟩ := least_at (p := fun i => S.getD i [] = S.getD p []) p rfl
  refine ⟨i, hip, ?_, he⟩
  unfold eqGb
  rw [Bool.and_eq_true, decide_eq_true_eq, Bool.not_eq_true']
  constructor
  · have hm : q ∈ eqOne S n i := (eqOne_mem (by omega)).2 ⟨by omega, hq, by rw [← h, he]⟩
    unfold eqOne at hm ⊢
    rw [List.mem_cons] at hm
    rcases hm with e | hm
    · omega
    · have := List.length_pos_of_mem hm
      simp only [List.length_cons]
      omega
  · cases hc : (S.take i).contains (S.getD i []) with
    | false => rfl
    | true =>
      obtain ⟨j, hj, e⟩ := (take_has (by omega) _).1 hc
      exact absurd (e.trans he) (hl j hj)
theorem eqTo_iff {S T : List (List UInt8)} {n : Nat} (hS : S.length = n) (hT : T.length = n) : eqTo S n n = eqTo T n n ↔ ∀ p q, p < n → q < n → (S.getD p [] = S.getD q [] ↔ T.getD p [] = T.getD q []) := by
  constructor
  · intro h
    have one : ∀ {S T : List (List UInt8)}, S.length = n → T.length = n → eqTo S n n = eqTo T n n → ∀ p q, p < q → q < n → S.getD p [] = S.getD q [] → T.getD p [] = T.getD q [] := by
      intro S T hS hT h p q hpq hq e
      obtain ⟨i, hip, hb, he⟩ := eqB_first hS hpq hq e
      have hm : eqOne S n i ∈ eqTo S n n := List.mem_map.2 ⟨i, List.mem_filter.2 ⟨List.mem_range.2 (by omega), hb⟩, rfl⟩
      rw [h] at hm
      obtain ⟨j, hj, ej⟩ := List.mem_map.1 hm
      have hjn := List.mem_range.1 (List.mem_filter.1 hj).1
      have mp : p ∈ eqOne S n i := (eqOne_mem (by omega)).2 ⟨hip, by omega, he.symm⟩
      have mq : q ∈ eqOne S n i := (eqOne_mem (by omega)).2 ⟨by omega, hq, by rw [← e, he]⟩
      rw [← ej] at mp mq
      exact ((eqOne_mem hjn).1 mp).2.2.trans ((eqOne_mem hjn).1 mq).2.2.symm
    intro p q hp hq
    rcases Nat.lt_trichotomy p q with hpq | rfl | hpq
    · exact ⟨one hS hT h p q hpq hq, one hT hS h.symm p q hpq hq⟩
    · exact ⟨fun _ => rfl, fun _ => rfl⟩
    · exact ⟨fun e => (one hS hT h q p hpq hp e.symm).symm, fun e => (one hT hS h.symm q p hpq hp e.symm).symm⟩
  · intro h
    have h1 : ∀ i, i < n → eqOne S n i = eqOne T n i := fun i hi => by
      unfold eqOne
      congr 1
      refine List.filter_congr fun k hk => ?_
      have hk := List.mem_range'_1.1 hk
      rw [Bool.eq_iff_iff, beq_iff_eq, beq_iff_eq]
      exact h k i (by omega) hi
    have h2 : ∀ i, i < n → eqGb S n i = eqGb T n i := fun i hi => by
      unfold eqGb
      rw [h1 i hi]
      congr 2
      rw [Bool.eq_iff_iff, take_has (by omega), take_has (by omega)]
      exact ⟨fun ⟨j, hj, e⟩ => ⟨j, hj, (h j i (by omega) hi).1 e⟩, fun ⟨j, hj, e⟩ => ⟨j, hj, (h j i (by omega) hi).2 e⟩⟩
    unfold eqTo
    rw [List.filter_congr fun i hi => h2 i (List.mem_range.1 hi)]
    refine List.map_congr_left fun i hi => h1 i (List.mem_range.1 (List.mem_filter.1 hi).1)
theorem filter_iff {p q : Nat → Bool} {n : Nat} : (List.range n).filter p = (List.range n).filter q ↔ ∀ k, k < n → p k = q k := by
  constructor
  · intro h k hk
    rw [Bool.eq_iff_iff]
    have h1 : k ∈ (List.range n).filter p ↔ k ∈ (List.range n).filter q := by rw [h]
    rw [List.mem_filter, List.mem_filter, List.mem_range] at h1
    exact ⟨fun e => (h1.1 ⟨hk, e⟩).2, fun e => (h1.2 ⟨hk, e⟩).2⟩
  · intro h
    exact List.filter_congr fun k hk => h k (List.mem_range.1 hk)
def stuckOne (s : List UInt8) : Bool := !decide (0 ≤ Lib.indexByte s 48) || !decide (0 ≤ Lib.indexByte s 49)
def stuckTo (S : List (List UInt8)) (x : Nat) : List Nat := (List.range x).filter fun k => stuckOne (S.getD k [])
theorem stuckTo_succ (S : List (List UInt8)) (x : Nat) : stuckTo S (x + 1) = if stuckOne (S.getD x []) = true then stuckTo S x ++ [x] else stuckTo S x := by
  unfold stuckTo
  rw [List.range_succ, List.filter_append]
  cases h : stuckOne (S.getD x [])
  · rw [List.filter_cons, h]; simp
  · rw [List.filter_cons, h]; simp
theorem stuckTo_len (S : List (List UInt8)) (x : Nat) : (stuckTo S x).length ≤ x := Nat.le_trans (List.length_filter_le _ _) (by simp)
theorem indexByte_memF {l : List UInt8} {c : UInt8} : 0 ≤ Lib.indexByte l c ↔ c ∈ l := by
  induction l with
  | nil => simp [Lib.indexByte]
  | cons b l ih =>
    have hg := Lib.indexByte_ge l c
    simp only [Lib.indexByte, List.mem_cons]
    by_cases h : b = c
    · subst h; simp
    · have h2 : ¬ c = b := fun e => h e.symm
      by_cases h3 : 0 ≤ Lib.indexByte l c
      · have : Lib.indexByte l c ≠ -1 := by omega
        have h4 := ih.1 h3
        simp [h, h2, this, h4]
        omega
      · have : Lib.indexByte l c = -1 := by omega
        have h4 : ¬ c ∈ l := fun e => h3 (ih.2 e)
        simp [h, h2, this, h4]
theorem few_row {n : Nat} {v : List (List UInt8)} (hv : PatOk (n : Nat) v) (B : Nat) : ∀ s ∈ someV v (fewTo B v.length), s ∈ v := fun s hs => by
  unfold someV at hs
  obtain ⟨i, hi, rfl⟩ := List.mem_map.1 hs
  unfold fewTo at hi
  have := List.mem_range.1 (List.mem_filter.1 hi).1
  rw [List.getD_eq_getElem?_getD, List.getElem?_eq_getElem this]
  exact List.getElem_mem _
theorem few_pat {n : Nat} {v : List (List UInt8)} (hv : PatOk (n : Nat) v) (B : Nat) : PatOk (n : Nat) (someV v (fewTo B v.length)) := by
  refine ⟨hv.lo, hv.hi, ?_, fun s hs => hv.row s (few_row hv B s hs)⟩
  have := hv.len
  have h2 := fewTo_len B v.length
  unfold someV
  rw [List.length_map]
  omega
theorem few_all {v : List (List UInt8)} : someV v (fewTo (2 ^ v.length - 1) v.length) = v := by
  have : fewTo (2 ^ v.length - 1) v.length = List.range v.length := by
    unfold fewTo
    rw [List.filter_eq_self]
    intro i hi
    rw [Nat.testBit_two_pow_sub_one]
    simpa using hi
  rw [this]
  unfold someV
  apply List.ext_getElem
  · simp
  · intro i h1 h2
    simp only [List.getElem_map, List.getElem_range]
    rw [List.getD_eq_getElem?_getD, List.getElem?_eq_getElem h2]; rfl
theorem few_has {n : Nat} {v : List (List UInt8)} (hv : PatOk (n : Nat) v) {B k : Nat} (c : UInt8) : c ∈ colB (someV v (fewTo B v.length)) k ↔ ∃ i, i < v.length ∧ B.testBit i = true ∧ (colB v k).getD i 0 = c := by
  have hmem : ∀ i, i ∈ fewTo B v.length ↔ i < v.length ∧ B.testBit i = true := fun i => by unfold fewTo; rw [List.mem_filter, List.mem_range]
  constructor
  · intro h
    unfold colB someV at h
    rw [List.map_map] at h
    obtain ⟨i, hi, e⟩ := List.mem_map.1 h
    obtain ⟨h1, h2⟩ := (hmem i).1 hi
    refine ⟨i, h1, h2, ?_⟩
    rw [colB_at _ _ h1]
    exact e
  · rintro ⟨i, h1, h2, h3⟩
    unfold colB someV
    rw [List.map_map]
    refine List.mem_map.2 ⟨i, (hmem i).2 ⟨h1, h2⟩, ?_⟩
    rw [colB_at _ _ h1] at h3
    exact h3
theorem stuck_flag {n : Nat} {v : List (List UInt8)} (hv : PatOk (n : Nat) v) {B k : Nat} (hk : k < n) (hB : B < 2 ^ v.length) : stuckOne (colB (someV v (fewTo B v.length)) k) = !flagV B (rowN (colB v k)) := by
  have hrow := hv.row
  have hcb : bitsOk (colB v k) = true := colB_bits fun s hs => ⟨by have := (hrow s hs).1; omega, (hrow s hs).2⟩
  have h0 : decide (0 ≤ Lib.indexByte (colB (someV v (fewTo B v.length)) k) 48) = decide (rowN (colB v k) &&& B ≠ B) := by
    rw [decide_eq_decide, indexByte_memF, few_has hv]
    constructor
    · rintro ⟨i, h1, h2, h3⟩ e
      have hb := congrArg (fun x => x.testBit i) e
      simp only [Nat.testBit_and, rowN_bit hcb, colB_len, h1, h2, h3, decide_true, Bool.true_and, Bool.and_true] at hb
      cases hb
    · intro h
      refine Classical.byContradiction fun hn => h (Nat.eq_of_testBit_eq fun i => ?_)
      rw [Nat.testBit_and, rowN_bit hcb, colB_len]
      cases hBi : B.testBit i
      · simp
      · have hi : i < v.length := by
          refine Classical.byContradiction fun hx => ?_
          rw [Nat.testBit_lt_two_pow (Nat.lt_of_lt_of_le hB (Nat.pow_le_pow_right (by omega) (by omega)))] at hBi
          cases hBi
        rcases bitsOk_at hcb (show i < (colB v k).length by rw [colB_len]; exact hi) with e | e
        · exact absurd ⟨i, hi, hBi, e⟩ hn
        · rw [e]; simp [hi]
  have h1 : decide (0 ≤ Lib.indexByte (colB (someV v (fewTo B v.length)) k) 49) = decide (rowN (colB v k) &&& B ≠ 0) := by
    rw [decide_eq_decide, indexByte_memF, few_has hv]
    constructor
    · rintro ⟨i, h1, h2, h3⟩ e
      have hb := congrArg (fun x => x.testBit i) e
      simp only [Nat.testBit_and, rowN_bit hcb, colB_len, h1, h2, h3, decide_true, Bool.true_and, Bool.and_true, Nat.zero_testBit] at hb
      cases hb
    · intro h
      refine Classical.byContradiction fun hn => h (Nat.eq_of_testBit_eq fun i => ?_)
      rw [Nat.testBit_and, rowN_bit hcb, colB_len, Nat.zero_testBit]
      cases hBi : B.testBit i
      · simp
      · have hi : i < v.length := by
          refine Classical.byContradiction fun hx => ?_
          rw [Nat.testBit_lt_two_pow (Nat.lt_of_lt_of_le hB (Nat.pow_le_pow_right (by omega) (by omega)))] at hBi
          cases hBi
        rcases bitsOk_at hcb (show i < (colB v k).length by rw [colB_len]; exact hi) with e | e
        · rw [e]; simp [hi]
        · exact absurd ⟨i, hi, hBi, e⟩ hn
  unfold stuckOne flagV
  rw [h0, h1]
  cases decide (rowN (colB v k) &&& B ≠ B) <;> cases decide (rowN (colB v k) &&& B ≠ 0) <;> rfl
theorem uniq_map {g : Nat → Nat} : ∀ {l : List Nat}, (∀ x ∈ l, ∀ y ∈ l, g x = g y → x = y) → (uniq (l.map g)).length = (uniq l).length
  | [], _ => rfl
  | a :: l, h => by
    have ih := uniq_map (l := l) fun x hx y hy => h x (List.mem_cons_of_mem _ hx) y (List.mem_cons_of_mem _ hy)
    rw [List.map_cons]
    unfold uniq
    by_cases hm : a ∈ uniq l
    · rw [if_pos hm, if_pos (uniq_mem.2 (List.mem_map.2 ⟨a, uniq_mem.1 hm, rfl⟩)), ih]
    · rw [if_neg hm, if_neg fun hc => ?_, List.length_cons, List.length_cons, ih]
      obtain ⟨y, hy, e⟩ := List.mem_map.1 (uniq_mem.1 hc)
      have := h y (List.mem_cons_of_mem _ hy) a List.mem_cons_self e
      subst this
      exact hm (uniq_mem.2 hy)
theorem col_eq {n : Nat} {v : List (List UInt8)} (hv : PatOk (n : Nat) v) {p q : Nat} (hp : p < n) (hq : q < n) : colB v p = colB v q ↔ rowN (colB v p) = rowN (colB v q) := by
  have hrow := hv.row
  have hcb : ∀ k, k < n → bitsOk (colB v k) = true := fun k hk => colB_bits fun s hs => ⟨by have := (hrow s hs).1; omega, (hrow s hs).2⟩
  constructor
  · intro h; rw [h]
  · intro h
    have hl : (colB v p).length = (colB v q).length := by rw [colB_len, colB_len]
    have := (rowN_eq (hcb p hp) (hcb q hq) hl).1 h
    refine List.ext_getElem hl fun i h1 h2 => ?_
    have := this i h1
    rw [List.getD_eq_getElem?_getD, List.getD_eq_getElem?_getD, List.getElem?_eq_getElem h1, List.getElem?_eq_getElem h2] at this
    exact this
theorem sameV_doc {n : Nat} {v : List (List UInt8)} (hv : PatOk (n : Nat) v) {B : Nat} (hB : B < 2 ^ v.length) :
    sameV ((turnL v n).map rowN) (2 ^ v.length - 1) B = (decide (eqTo (turnL (someV v (fewTo B v.length)) n) n n = eqTo (turnL v n) n n) && decide (stuckTo (turnL (someV v (fewTo B v.length)) n) n = stuckTo (turnL v n) n)) := by
  have hrow := hv.row
  have hcb : ∀ k, k < n → bitsOk (colB v k) = true := fun k hk => colB_bits fun s hs => ⟨by have := (hrow s hs).1; omega, (hrow s hs).2⟩
  have hv2 := few_pat hv B
  have hpos := Nat.two_pow_pos v.length
  have hlt : ∀ x ∈ (turnL v n).map rowN, x < 2 ^ v.length := fun x hx => by
    obtain ⟨s, hs, rfl⟩ := List.mem_map.1 hx
    obtain ⟨k, hk, rfl⟩ := turnL_mem hs
    have := rowN_lt (hcb k hk)
    rwa [colB_len] at this
  have hid : ((turnL v n).map rowN).map (· &&& (2 ^ v.length - 1)) = (turnL v n).map rowN := by
    conv => rhs; rw [← List.map_id ((turnL v n).map rowN)]
    refine List.map_congr_left fun x hx => ?_
    rw [Nat.and_two_pow_sub_one_eq_mod, Nat.mod_eq_of_lt (hlt x hx)]; rfl
  have hmem : ∀ k, k < n → rowN (colB v k) ∈ (turnL v n).map rowN := fun k hk => List.mem_map.2 ⟨colB v k, List.mem_map.2 ⟨k, List.mem_range.2 hk, rfl⟩, rfl⟩
  unfold sameV
  congr 1
  · rw [decide_eq_decide, eqTo_iff (turnL_len _ _) (turnL_len _ _)]
    unfold manyV
    rw [hid]
    constructor
    · intro h p q hp hq
      rw [turnL_at _ hp, turnL_at _ hq, turnL_at _ hp, turnL_at _ hq, col_eq hv2 hp hq, col_eq hv hp hq, few_eq hv hp hq]
      exact ⟨fun e => uniq_inj h (hmem p hp) (hmem q hq) e, fun e => by rw [e]⟩
    · intro h
      refine uniq_map fun x hx y hy e => ?_
      obtain ⟨s, hs, rfl⟩ := List.mem_map.1 hx
      obtain ⟨p, hp, rfl⟩ := turnL_mem hs
      obtain ⟨t, ht, rfl⟩ := List.mem_map.1 hy
      obtain ⟨q, hq, rfl⟩ := turnL_mem ht
      have := h p q hp hq
      rw [turnL_at _ hp, turnL_at _ hq, turnL_at _ hp, turnL_at _ hq, col_eq hv2 hp hq, col_eq hv hp hq, few_eq hv hp hq] at this
      exact this.1 e
  · have hfull : ∀ k, k < n → stuckOne (colB v k) = !flagV (2 ^ v.length - 1) (rowN (colB v k)) := fun k hk => by
      have := stuck_flag hv (B := 2 ^ v.length - 1) hk (by omega)
      rwa [few_all] at this
    have hf : flagsV ((turnL v n).map rowN) B = flagsV ((turnL v n).map rowN) (2 ^ v.length - 1) ↔ stuckTo (turnL (someV v (fewTo B v.length)) n) n = stuckTo (turnL v n) n := by
      unfold stuckTo
      rw [filter_iff]
      unfold flagsV
      rw [List.map_inj_left]
      constructor
      · intro h k hk
        rw [turnL_at _ hk, turnL_at _ hk, stuck_flag hv hk hB, hfull k hk, h _ (hmem k hk)]
      · intro h x hx
        obtain ⟨s, hs, rfl⟩ := List.mem_map.1 hx
        obtain ⟨k, hk, rfl⟩ := turnL_mem hs
        have := h k hk
        rw [turnL_at _ hk, turnL_at _ hk, stuck_flag hv hk hB, hfull k hk] at this
        simpa using this
    rw [Bool.eq_iff_iff, decide_eq_true_eq, beq_iff_eq]
    exact hf
end Go.Proofs.YthcldfmlfjomfaaDoor
namespace Go.Proofs.YthcldfmlfjomfaaDoor
open Go.RowKit
def cmpV (a b : Int) : Int := if a < b then -1 else if b < a then 1 else 0
theorem nan_c (a : Int) (nid : Nat) : ACall Tryd.prog 189 [.int .i64 a] [] nid (.bool false) [] := by
  refine acall_run c189 (by simp [a189]) ?_
  simp -dsimp only [a189, aqT, aqU, aqN, aqS, ↓seqK, ↓blkK, ↓loopK, step, stepBin, Nat.add_assoc nid, ↓reduceIte, Option.toList, ← Int.ofNat_tmod, ← Int.ofNat_tdiv, simprocAttr, BEq.rfl, LN_succ, bne_self_eq_false]
  refine RetOK.pure (.inl rfl) rfl ?_
  simp [cvT, step, res]
theorem cmpI_c (a b : Int) (nid : Nat) : ACall Tryd.prog 151 [.int .i64 a, .int .i64 b] [] nid (.int .i64 (cmpV a b)) [] := by
  refine acall_run c151 (by simp [a151]) ?_
  simp -dsimp only [aqT, aqU, aqN, aqS, ↓seqK, ↓blkK, ↓loopK, step, stepBin, Nat.add_assoc nid, ↓reduceIte, Option.toList, ← Int.ofNat_tmod, ← Int.ofNat_tdiv, simprocAttr, BEq.rfl, LN_succ, a151]
  refine CallO.pure (nan_c _ _) ?_
  simp -dsimp only [aqT, aqU, aqN, aqS, ↓seqK, ↓blkK, ↓loopK, step, stepBin, Nat.add_assoc nid, ↓reduceIte, Option.toList, ← Int.ofNat_tmod, ← Int.ofNat_tdiv, simprocAttr, BEq.rfl, LN_succ]
  refine CallO.pure (nan_c _ _) ?_
  simp -dsimp only [aqT, aqU, aqN, aqS, ↓seqK, ↓blkK, ↓loopK, step, stepBin, Nat.add_assoc nid, ↓reduceIte, Option.toList, ← Int.ofNat_tmod, ← Int.ofNat_tdiv, simprocAttr, BEq.rfl, LN_succ]
  unfold cmpV
  refine S2.dec (fun h1 => ?_) (fun h1 => ?_) <;> simp -dsimp only [aqT, aqU, aqN, aqS, ↓seqK, ↓blkK, ↓loopK, step, stepBin, Nat.add_assoc nid, ↓reduceIte, Option.toList, ← Int.ofNat_tmod, ← Int.ofNat_tdiv, simprocAttr, BEq.rfl, LN_succ]
  · rw [if_pos h1]
    refine RetOK.pure (.inl rfl) rfl ?_
    simp [cvT, step, res]
  rw [if_neg h1]
  refine S2.dec (fun h2 => ?_) (fun h2 => ?_) <;> simp -dsimp only [aqT, aqU, aqN, aqS, ↓seqK, ↓blkK, ↓loopK, step, stepBin, Nat.add_assoc nid, ↓reduceIte, Option.toList, ← Int.ofNat_tmod, ← Int.ofNat_tdiv, simprocAttr, BEq.rfl, LN_succ]
  · rw [if_pos h2]
    refine RetOK.pure (.inl rfl) rfl ?_
    simp [cvT, step, res]
  · rw [if_neg h2]
    refine RetOK.pure (.inl rfl) rfl ?_
    simp [cvT, step, res]
theorem orInt_c (nl : Bool) (l : List Int) (nid : Nat) (hl : l.length ≤ 1000000000) : ACall Tryd.prog 150 [litI nl l] [] nid (.int .i64 (firstBad (fun x : Int => x) l)) [] := by
  refine acall_run c150 (by simp [a150]) ?_
  unfold litI
  simp -dsimp only [aqT, aqU, aqN, ↓seqK, ↓blkK, ↓loopK, step, stepBin, Nat.reduceBEq, Nat.reduceBeqDiff, Nat.add_assoc nid, Nat.reduceAdd, reduceCtorEq, ↓reduceIte, Nat.reduceLeDiff, Nat.reduceBneDiff, Option.toList, ← Int.ofNat_tmod, ← Int.ofNat_tdiv, Nat.reduceLT, a150]
  refine LP.mkP (fun k : Nat => k ≤ l.length ∧ firstBad (fun x : Int => x) (l.take k) = 0) (fun k : Nat => ⟨[(8, .int .i64 k), (7, .int .i64 l.length), (6, litI nl l), (3, .int .i64 0)], [], nid + 100, nid⟩) (fun k => l.length + 1 - k) 0 ⟨by omega, rfl⟩ (Cov.go [] [] ?_) (fun k hk => ?_)
  · simp [cvT, step, res, litI]
  unfold litI
  obtain ⟨hk, hb⟩ := hk
  simp -dsimp only [aqT, aqU, aqN, aqS, ↓seqK, ↓blkK, ↓loopK, step, stepBin, Nat.add_assoc nid, ↓reduceIte, Option.toList, ← Int.ofNat_tmod, ← Int.ofNat_tdiv, simprocAttr, BEq.rfl, LN_succ]
  refine S2.dec (fun h3 => ?_) (fun h3 => ?_) <;> simp -dsimp only [aqT, aqU, aqN, aqS, ↓seqK, ↓blkK, ↓loopK, step, stepBin, Nat.add_assoc nid, ↓reduceIte, Option.toList, ← Int.ofNat_tmod, ← Int.ofNat_tdiv, simprocAttr, BEq.rfl, LN_succ]
  · have hkl : k < l.length := by omega
    have bad : l.getD k 0 ≠ 0 → firstBad (fun x : Int => x) l = l.getD k 0 := fun h => firstBad_hit (x := l.getD k 0) (by rw [List.getD_eq_getElem?_getD, List.getElem?_eq_getElem hkl]; rfl) hb h
    have good : l.getD k 0 = 0 → firstBad (fun x : Int => x) (l.take (k + 1)) = 0 := fun h => firstBad_step (x := l.getD k 0) (by rw [List.getD_eq_getElem?_getD, List.getElem?_eq_getElem hkl]; rfl) hb h
    refine ⟨by omega, S2.intro (fun h4 => ?_) (fun h4 => ?_)⟩ <;> simp -dsimp only [aqT, aqU, aqN, aqS, ↓seqK, ↓blkK, ↓loopK, step, stepBin, Nat.add_assoc nid, ↓reduceIte, Option.toList, ← Int.ofNat_tmod, ← Int.ofNat_tdiv, simprocAttr, BEq.rfl, LN_succ]
    · rw [bad (by simpa using h4)]
      refine RetOK.pure (.inl rfl) rfl ?_
      simp [cvT, step, res]
    · refine ⟨by unfold inI64; omega, k + 1, ⟨⟨by omega, good (by simpa using h4)⟩, by omega⟩, Cov.go [] [] ?_⟩
      simp [cvT, step, res, litI]
  · have hkn : k = l.length := by omega
    subst hkn
    rw [List.take_length] at hb
    rw [hb]
    refine RetOK.pure (.inl rfl) rfl ?_
    simp [cvT, step, res]
theorem or2_c (nl : Bool) (a b : Int) (nid : Nat) : ACall Tryd.prog 150 [.lit nl 2 [.i .i64 fun i => [a, b].getD i 0]] [] nid (.int .i64 (if a = 0 then b else a)) [] := by
  have h := orInt_c nl [a, b] nid (by simp)
  have e : firstBad (fun x : Int => x) [a, b] = if a = 0 then b else a := by
    unfold firstBad
    by_cases h0 : a = 0
    · subst h0
      by_cases h1 : b = 0 <;> simp [firstBad, h1]
    · simp [h0]
  rw [e] at h
  exact h
end Go.Proofs.YthcldfmlfjomfaaDoor
