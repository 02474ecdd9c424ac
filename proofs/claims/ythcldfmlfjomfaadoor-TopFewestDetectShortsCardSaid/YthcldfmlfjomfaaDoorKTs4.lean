/-
  DERIVED: THE SHELF's CONTRACTS AT THIS DUMP, IN PLAIN WORDS (tools/lay-plain.mjs out of 'ZzShelf.lean', which tools/lay-shelf.mjs wrote): THE SAME DECLARATIONS UNDER THE SAME NAMES: 'import', 'namespace', 'open', 'def', 'theorem' AND NOTHING ELSE: no command of the shelf's: FOR A HAND-IN. Each laying: the table of numbers ('.._ren') and one theorem, a field a fact of the dump's own or the kernel's comparison; each contract: ONE APPLICATION.
-/
import Derived.Test.YthcldfmlfjomfaaDoorProg
import Derived.Ground.NamesProg
import Derived.Shelf.Strings.SlTrimAscii
import Derived.Shelf.Strings.Repeat
import Derived.Shelf.Strings.Builder1
import Derived.Shelf.Strings.Split
import Derived.Shelf.Strings.Cut
import Derived.Test.YthcldfmlfjomfaaDoorKTs3
import Derived.WalkKit
import Derived.Lib.Agree
import Derived.Test.YthcldfmlfjomfaaDoorKTs1
set_option linter.unusedVariables false
set_option linter.unusedSimpArgs false
set_option maxRecDepth 100000
namespace Go.Proofs
open Go.Shelf
def Tryd.lays160_ren : Go.Shelf.Ren := ⟨fun | 160 => 138 | 232 => 177 | 231 => 176 | 227 => 178 | 234 => 180 | 233 => 179 | 236 => 182 | 235 => 181 | 228 => 217 | 271 => 219 | 151 => 218 | 197 => 195 | 120 => 241 | 152 => 240 | 260 => 231 | 137 => 216 | 119 => 254 | 224 => 245 | 225 => 244 | 217 => 239 | 266 => 253 | n => n, fun | 9 => 9 | 4 => 4 | 3 => 3 | 5 => 5 | 117 => 189 | 116 => 188 | 0 => 0 | 124 => 192 | 21 => 21 | 105 => 200 | 46 => 95 | 119 => 239 | 139 => 242 | 138 => 241 | n => n, fun | 3 => 2 | 4 => 3 | n => n⟩
theorem Tryd.lays160 : Go.Proofs.Lays.n160 Tryd.prog Tryd.lays160_ren := {
  mixed := by kernel_rfl
  f119 := Tryd.func254.trans (congrArg some (by kernel_rfl))
  f120 := Tryd.func241.trans (congrArg some (by kernel_rfl))
  f137 := Tryd.func216.trans (congrArg some (by kernel_rfl))
  f151 := Tryd.func218.trans (congrArg some (by kernel_rfl))
  f152 := Tryd.func240.trans (congrArg some (by kernel_rfl))
  f160 := Tryd.func138.trans (congrArg some (by kernel_rfl))
  f197 := Tryd.func195.trans (congrArg some (by kernel_rfl))
  f217 := Tryd.func239.trans (congrArg some (by kernel_rfl))
  f224 := Tryd.func245.trans (congrArg some (by kernel_rfl))
  f225 := Tryd.func244.trans (congrArg some (by kernel_rfl))
  f227 := Tryd.func178.trans (congrArg some (by kernel_rfl))
  f228 := Tryd.func217.trans (congrArg some (by kernel_rfl))
  f231 := Tryd.func176.trans (congrArg some (by kernel_rfl))
  f232 := Tryd.func177.trans (congrArg some (by kernel_rfl))
  f233 := Tryd.func179.trans (congrArg some (by kernel_rfl))
  f234 := Tryd.func180.trans (congrArg some (by kernel_rfl))
  f235 := Tryd.func181.trans (congrArg some (by kernel_rfl))
  f236 := Tryd.func182.trans (congrArg some (by kernel_rfl))
  f260 := Tryd.func231.trans (congrArg some (by kernel_rfl))
  f266 := Tryd.func253.trans (congrArg some (by kernel_rfl))
  f271 := Tryd.func219.trans (congrArg some (by kernel_rfl))
  t0 := Tryd.underlying0
  a0 := Tryd.isAgg0
  z0 := Tryd.sizeOf0
  v0 := Tryd.zeroValue0
  t3 := Tryd.underlying3
  a3 := Tryd.isAgg3
  z3 := Tryd.sizeOf3
  v3 := Tryd.zeroValue3
  t4 := Tryd.underlying4
  a4 := Tryd.isAgg4
  z4 := Tryd.sizeOf4
  v4 := Tryd.zeroValue4
  t5 := Tryd.underlying5
  a5 := Tryd.isAgg5
  z5 := Tryd.sizeOf5
  v5 := Tryd.zeroValue5
  t9 := Tryd.underlying9
  a9 := Tryd.isAgg9
  z9 := Tryd.sizeOf9
  v9 := Tryd.zeroValue9
  t21 := Tryd.underlying21
  a21 := Tryd.isAgg21
  z21 := Tryd.sizeOf21
  v21 := Tryd.zeroValue21
  t46 := Tryd.underlying95
  a46 := Tryd.isAgg95
  z46 := Tryd.sizeOf95
  v46 := Tryd.zeroValue95
  t105 := Tryd.underlying200
  a105 := Tryd.isAgg200
  z105 := Tryd.sizeOf200
  v105 := Tryd.zeroValue200
  t116 := Tryd.underlying188
  a116 := Tryd.isAgg188
  z116 := Tryd.sizeOf188
  t117 := Tryd.underlying189
  a117 := Tryd.isAgg189
  z117 := Tryd.sizeOf189
  v117 := Tryd.zeroValue189
  t119 := Tryd.underlying239
  a119 := Tryd.isAgg239
  z119 := Tryd.sizeOf239
  t124 := Tryd.underlying192
  a124 := Tryd.isAgg192
  z124 := Tryd.sizeOf192
  v124 := Tryd.zeroValue192
  t138 := Tryd.underlying241
  a138 := Tryd.isAgg241
  z138 := Tryd.sizeOf241
  v138 := Tryd.zeroValue241
  t139 := Tryd.underlying242
  a139 := Tryd.isAgg242
  z139 := Tryd.sizeOf242
  v139 := Tryd.zeroValue242
  g3 := by kernel_rfl
  g4 := by kernel_rfl }
end Go.Proofs
namespace Go.Proofs.YthcldfmlfjomfaaDoor
open Go.RowKit Go.Shelf Go.Lib
theorem trim_cc (s cs : List UInt8) (nid : Nat) (hs : s.length ≤ 9223372036854775807) (hcs : cs.length < 4294967281) (ha : cs.all (fun b => decide (b.toNat < 128)) = true) : ACall Tryd.prog 138 [.str s, .str cs] [] nid (.str (Lib.trimS s cs)) [] :=
  acall_below (us := [.string ⟨s.toArray⟩, .string ⟨cs.toArray⟩]) nid Tryd.func138 (by kernel_rfl) (by kernel_rfl) rfl rfl (fun w => by
    have h := Any.strings_Trim_laid Tryd.lays160 (by kernel_rfl) ⟨s.toArray⟩ ⟨cs.toArray⟩ w (by simpa [ByteArray.size] using hs) (by simpa [ByteArray.size] using hcs) (ascii_of_all (by simpa using ha))
    have hf : Tryd.lays160_ren.f 160 = 138 := by kernel_rfl
    rw [hf] at h
    simpa using h)
end Go.Proofs.YthcldfmlfjomfaaDoor
namespace Go.Proofs.YthcldfmlfjomfaaDoor
def a2 : AFn := ⟨1, [], .ops [⟨(some 0), none, .call 1 []⟩]⟩
theorem c2 : compF Go.Proofs.Tryd.prog 2 = some a2 := by kernel_rfl
def a3 : AFn := ⟨111, [.t 2], .seq (.ops [⟨(some 2), none, .mv (.c (.bool false))⟩])
 (.seq (.ops [⟨(some 21), none, .mv (.t 0)⟩, ⟨(some 22), none, .build [(.lit true 0 []), (.int .i64 0)] [(0, 1, (.t 21))]⟩, ⟨(some 23), none, .box 25 (.t 22)⟩, ⟨(some 24), none, .mv (.t 0)⟩, ⟨(some 25), none, .build [(.lit true 0 []), (.int .i64 0)] [(0, 1, (.t 24))]⟩, ⟨(some 26), none, .box 25 (.t 25)⟩, ⟨(some 3), none, .mv (.t 23)⟩, ⟨(some 4), none, .mv (.t 26)⟩])
 (.seq (.ops [⟨(some 28), none, .mv (.t 3)⟩, ⟨(some 29), none, .call 12 [(.t 28), (.c (.int .i64 5))]⟩, ⟨(some 27), none, .mv (.t 29)⟩, ⟨(some 30), none, .ext (.t 27) 0⟩, ⟨(some 31), none, .ext (.t 27) 1⟩, ⟨(some 5), none, .mv (.t 30)⟩, ⟨(some 6), none, .mv (.t 31)⟩])
 (.seq (.ops [⟨(some 33), none, .mv (.t 4)⟩, ⟨(some 34), none, .call 12 [(.t 33), (.c (.int .i64 5))]⟩, ⟨(some 32), none, .mv (.t 34)⟩, ⟨(some 35), none, .ext (.t 32) 0⟩, ⟨(some 36), none, .ext (.t 32) 1⟩, ⟨(some 7), none, .mv (.t 35)⟩, ⟨(some 8), none, .mv (.t 36)⟩])
 (.seq (.ops [⟨(some 38), none, .mv (.t 5)⟩, ⟨(some 39), none, .mv (.t 6)⟩, ⟨(some 40), none, .call 13 [(.t 38), (.t 39)]⟩, ⟨(some 37), none, .mv (.t 40)⟩, ⟨(some 41), none, .ext (.t 37) 0⟩, ⟨(some 42), none, .ext (.t 37) 1⟩, ⟨(some 9), none, .mv (.t 41)⟩, ⟨(some 10), none, .mv (.t 42)⟩])
 (.seq (.ops [⟨(some 44), none, .mv (.t 5)⟩, ⟨(some 45), none, .mv (.t 6)⟩, ⟨(some 46), none, .call 14 [(.t 44), (.t 45)]⟩, ⟨(some 43), none, .mv (.t 46)⟩, ⟨(some 47), none, .ext (.t 43) 0⟩, ⟨(some 48), none, .ext (.t 43) 1⟩, ⟨(some 11), none, .mv (.t 47)⟩, ⟨(some 12), none, .mv (.t 48)⟩])
 (.seq (.ops [⟨(some 50), none, .mv (.t 5)⟩, ⟨(some 51), none, .mv (.t 6)⟩, ⟨(some 52), none, .call 15 [(.t 50), (.t 51)]⟩, ⟨(some 49), none, .mv (.t 52)⟩, ⟨(some 53), none, .ext (.t 49) 0⟩, ⟨(some 54), none, .ext (.t 49) 1⟩, ⟨(some 13), none, .mv (.t 53)⟩, ⟨(some 14), none, .mv (.t 54)⟩])
 (.seq (.ops [⟨(some 56), none, .mv (.t 5)⟩, ⟨(some 57), none, .call 16 [(.t 56)]⟩, ⟨(some 55), none, .mv (.t 57)⟩, ⟨(some 58), none, .ext (.t 55) 0⟩, ⟨(some 59), none, .ext (.t 55) 1⟩, ⟨(some 15), none, .mv (.t 58)⟩, ⟨(some 16), none, .mv (.t 59)⟩])
 (.seq (.seq (.ops [⟨(some 60), none, .mv (.t 10)⟩, ⟨(some 61), none, .bin 0 .neq (.t 60) (.c (.int .i64 0))⟩, ⟨(some 62), none, .mv (.t 61)⟩, ⟨(some 63), (some (62, false)), .mv (.t 12)⟩, ⟨(some 64), (some (62, false)), .bin 0 .neq (.t 63) (.c (.int .i64 0))⟩, ⟨(some 65), none, .pick (.t 62) (.c (.bool true)) (.t 64)⟩, ⟨(some 66), none, .mv (.t 65)⟩, ⟨(some 67), (some (66, false)), .mv (.t 14)⟩, ⟨(some 68), (some (66, false)), .bin 0 .neq (.t 67) (.c (.int .i64 0))⟩, ⟨(some 69), none, .pick (.t 66) (.c (.bool true)) (.t 68)⟩, ⟨(some 70), none, .mv (.t 69)⟩, ⟨(some 71), (some (70, false)), .mv (.t 16)⟩, ⟨(some 72), (some (70, false)), .bin 0 .neq (.t 71) (.c (.int .i64 0))⟩, ⟨(some 73), none, .pick (.t 70) (.c (.bool true)) (.t 72)⟩])
 (.cond (.t 73) (.seq (.ops [⟨(some 2), none, .mv (.c (.bool false))⟩])
 (.ret)) (.skip)))
 (.seq (.ops [⟨(some 74), none, .mv (.t 15)⟩, ⟨(some 75), none, .call 17 [(.t 74)]⟩, ⟨(some 17), none, .mv (.t 75)⟩])
 (.seq (.seq (.ops [⟨(some 76), none, .mv (.t 11)⟩, ⟨(some 77), none, .len false (.t 76)⟩, ⟨(some 78), none, .mv (.c (.int .i64 0))⟩])
 (.block 0 (.loop (.seq (.ops [⟨(some 79), none, .bin 0 .lss (.t 78) (.t 77)⟩])
 (.seq (.cond (.t 79) (.skip) (.exit 0))
 (.seq (.block 1 (.seq (.ops [⟨(some 80), none, .iadr 1 (.t 76) (.t 78)⟩, ⟨(some 81), none, .load none (.t 80)⟩, ⟨(some 19), none, .mv (.t 81)⟩])
 (.ops [⟨(some 82), none, .mv (.t 19)⟩, ⟨(some 83), none, .call 18 [(.t 82)]⟩])))
 (.ops [⟨(some 84), none, .bin 0 .add (.t 78) (.c (.int .i64 1))⟩, ⟨(some 78), none, .mv (.t 84)⟩])))))))
 (.seq (.ops [⟨(some 85), none, .mv (.t 13)⟩, ⟨(some 86), none, .call 18 [(.t 85)]⟩])
 (.seq (.ops [⟨(some 87), none, .mv (.t 9)⟩, ⟨(some 88), none, .call 19 [(.t 87)]⟩])
 (.seq (.ops [⟨(some 89), none, .mv (.t 15)⟩, ⟨(some 90), none, .call 19 [(.t 89)]⟩])
 (.seq (.ops [⟨(some 92), none, .mv (.t 5)⟩, ⟨(some 93), none, .call 16 [(.t 92)]⟩, ⟨(some 91), none, .mv (.t 93)⟩, ⟨(some 94), none, .ext (.t 91) 0⟩, ⟨(some 95), none, .ext (.t 91) 1⟩, ⟨(some 20), none, .mv (.t 94)⟩, ⟨(some 10), none, .mv (.t 95)⟩])
 (.seq (.ops [⟨(some 96), none, .mv (.t 10)⟩, ⟨(some 97), none, .bin 0 .eql (.t 96) (.c (.int .i64 0))⟩, ⟨(some 98), none, .mv (.t 97)⟩, ⟨(some 99), (some (98, true)), .mv (.t 6)⟩, ⟨(some 100), (some (98, true)), .mv (.t 8)⟩, ⟨(some 101), (some (98, true)), .call 20 [(.t 99), (.t 100)]⟩, ⟨(some 102), none, .pick (.t 98) (.t 101) (.c (.bool false))⟩, ⟨(some 103), none, .mv (.t 102)⟩, ⟨(some 104), (some (103, true)), .mv (.t 20)⟩, ⟨(some 105), (some (103, true)), .mv (.t 17)⟩, ⟨(some 106), (some (103, true)), .call 20 [(.t 104), (.t 105)]⟩, ⟨(some 107), none, .pick (.t 103) (.t 106) (.c (.bool false))⟩, ⟨(some 108), none, .mv (.t 107)⟩, ⟨(some 109), (some (108, true)), .call 21 []⟩, ⟨(some 110), none, .pick (.t 108) (.t 109) (.c (.bool false))⟩, ⟨(some 2), none, .mv (.t 110)⟩])
 (.ret))))))))))))))))⟩
theorem c3 : compF Go.Proofs.Tryd.prog 3 = some a3 := by kernel_rfl
def a4 : AFn := ⟨157, [.t 2], .seq (.ops [⟨(some 2), none, .mv (.c (.bool false))⟩])
 (.seq (.ops [⟨(some 21), none, .mv (.t 0)⟩, ⟨(some 22), none, .build [(.lit true 0 []), (.int .i64 0)] [(0, 1, (.t 21))]⟩, ⟨(some 23), none, .box 25 (.t 22)⟩, ⟨(some 3), none, .mv (.t 23)⟩])
 (.seq (.ops [⟨(some 25), none, .mv (.t 3)⟩, ⟨(some 26), none, .call 22 [(.t 25), (.c (.int .i64 6))]⟩, ⟨(some 24), none, .mv (.t 26)⟩, ⟨(some 27), none, .ext (.t 24) 0⟩, ⟨(some 28), none, .ext (.t 24) 1⟩, ⟨(some 4), none, .mv (.t 27)⟩, ⟨(some 5), none, .mv (.t 28)⟩])
 (.seq (.ops [⟨(some 29), none, .mv (.t 3)⟩, ⟨(some 30), none, .call 23 [(.t 29)]⟩, ⟨(some 6), none, .mv (.t 30)⟩])
 (.seq (.ops [⟨(some 31), none, .mv (.t 4)⟩, ⟨(some 32), none, .mv (.t 5)⟩, ⟨(some 33), none, .call 24 [(.t 31), (.t 32)]⟩, ⟨(some 34), none, .mv (.t 6)⟩, ⟨(some 35), none, .call 25 [(.t 34)]⟩, ⟨(some 7), none, .mv (.t 33)⟩, ⟨(some 8), none, .mv (.t 35)⟩])
 (.seq (.seq (.ops [⟨(some 36), none, .mv (.t 4)⟩, ⟨(some 37), none, .mv (.t 5)⟩, ⟨(some 38), none, .call 26 [(.t 36), (.t 37)]⟩, ⟨(some 39), none, .mv (.t 7)⟩, ⟨(some 40), none, .bin 0 .neq (.t 38) (.t 39)⟩])
 (.cond (.t 40) (.seq (.ops [⟨(some 2), none, .mv (.c (.bool false))⟩])
 (.ret)) (.skip)))
 (.seq (.ops [⟨(some 42), none, .mv (.t 4)⟩, ⟨(some 43), none, .mv (.t 5)⟩, ⟨(some 44), none, .call 13 [(.t 42), (.t 43)]⟩, ⟨(some 41), none, .mv (.t 44)⟩, ⟨(some 45), none, .ext (.t 41) 0⟩, ⟨(some 46), none, .ext (.t 41) 1⟩, ⟨(some 9), none, .mv (.t 45)⟩, ⟨(some 10), none, .mv (.t 46)⟩])
 (.seq (.seq (.ops [⟨(some 47), none, .mv (.t 10)⟩, ⟨(some 48), none, .mv (.t 7)⟩, ⟨(some 49), none, .bin 0 .neq (.t 47) (.t 48)⟩, ⟨(some 50), none, .mv (.t 49)⟩, ⟨(some 51), (some (50, false)), .mv (.t 7)⟩, ⟨(some 52), (some (50, false)), .bin 0 .eql (.t 51) (.c (.int .i64 0))⟩, ⟨(some 53), (some (50, false)), .mv (.t 52)⟩, ⟨(some 54), (some (53, true)), .mv (.t 9)⟩, ⟨(some 55), (some (53, true)), .mv (.t 4)⟩, ⟨(some 56), (some (53, true)), .mv (.t 5)⟩, ⟨(some 57), (some (53, true)), .call 27 [(.t 55), (.t 56)]⟩, ⟨(some 58), (some (53, true)), .call 20 [(.t 54), (.t 57)]⟩, ⟨(some 59), (some (53, true)), .un .not (.t 58)⟩, ⟨(some 60), (some (50, false)), .pick (.t 53) (.t 59) (.c (.bool false))⟩, ⟨(some 61), none, .pick (.t 50) (.c (.bool true)) (.t 60)⟩, ⟨(some 62), none, .mv (.t 61)⟩, ⟨(some 63), (some (62, false)), .mv (.t 7)⟩, ⟨(some 64), (some (62, false)), .bin 0 .neq (.t 63) (.c (.int .i64 0))⟩, ⟨(some 65), (some (62, false)), .mv (.t 64)⟩, ⟨(some 66), (some (65, true)), .mv (.t 9)⟩, ⟨(some 67), (some (65, true)), .len false (.t 66)⟩, ⟨(some 68), (some (65, true)), .bin 0 .gtr (.t 67) (.c (.int .i64 0))⟩, ⟨(some 69), (some (62, false)), .pick (.t 65) (.t 68) (.c (.bool false))⟩, ⟨(some 70), none, .pick (.t 62) (.c (.bool true)) (.t 69)⟩])
 (.cond (.t 70) (.seq (.ops [⟨(some 2), none, .mv (.c (.bool false))⟩])
 (.ret)) (.skip)))
 (.seq (.ops [⟨(some 72), none, .mv (.t 6)⟩, ⟨(some 73), none, .call 28 [(.t 72)]⟩, ⟨(some 71), none, .mv (.t 73)⟩, ⟨(some 74), none, .ext (.t 71) 0⟩, ⟨(some 75), none, .ext (.t 71) 1⟩, ⟨(some 11), none, .mv (.t 74)⟩, ⟨(some 10), none, .mv (.t 75)⟩])
 (.seq (.seq (.ops [⟨(some 76), none, .mv (.t 10)⟩, ⟨(some 77), none, .mv (.t 8)⟩, ⟨(some 78), none, .bin 0 .neq (.t 76) (.t 77)⟩, ⟨(some 79), none, .mv (.t 78)⟩, ⟨(some 80), (some (79, false)), .mv (.t 8)⟩, ⟨(some 81), (some (79, false)), .bin 0 .eql (.t 80) (.c (.int .i64 0))⟩, ⟨(some 82), (some (79, false)), .mv (.t 81)⟩, ⟨(some 83), (some (82, true)), .mv (.t 11)⟩, ⟨(some 84), (some (82, true)), .mv (.t 6)⟩, ⟨(some 85), (some (82, true)), .call 29 [(.t 84)]⟩, ⟨(some 86), (some (82, true)), .call 20 [(.t 83), (.t 85)]⟩, ⟨(some 87), (some (82, true)), .un .not (.t 86)⟩, ⟨(some 88), (some (79, false)), .pick (.t 82) (.t 87) (.c (.bool false))⟩, ⟨(some 89), none, .pick (.t 79) (.c (.bool true)) (.t 88)⟩, ⟨(some 90), none, .mv (.t 89)⟩, ⟨(some 91), (some (90, false)), .mv (.t 8)⟩, ⟨(some 92), (some (90, false)), .bin 0 .neq (.t 91) (.c (.int .i64 0))⟩, ⟨(some 93), (some (90, false)), .mv (.t 92)⟩, ⟨(some 94), (some (93, true)), .mv (.t 11)⟩, ⟨(some 95), (some (93, true)), .len false (.t 94)⟩, ⟨(some 96), (some (93, true)), .bin 0 .gtr (.t 95) (.c (.int .i64 0))⟩, ⟨(some 97), (some (90, false)), .pick (.t 93) (.t 96) (.c (.bool false))⟩, ⟨(some 98), none, .pick (.t 90) (.c (.bool true)) (.t 97)⟩])
 (.cond (.t 98) (.seq (.ops [⟨(some 2), none, .mv (.c (.bool false))⟩])
 (.ret)) (.skip)))
 (.seq (.ops [⟨(some 100), none, .mv (.t 5)⟩, ⟨(some 101), none, .call 30 [(.t 100)]⟩, ⟨(some 99), none, .mv (.t 101)⟩, ⟨(some 102), none, .ext (.t 99) 0⟩, ⟨(some 103), none, .ext (.t 99) 1⟩, ⟨(some 12), none, .mv (.t 102)⟩, ⟨(some 10), none, .mv (.t 103)⟩])
 (.seq (.seq (.ops [⟨(some 104), none, .mv (.t 5)⟩, ⟨(some 105), none, .call 31 [(.t 104)]⟩, ⟨(some 13), none, .mv (.t 105)⟩])
 (.seq (.ops [⟨(some 106), none, .mv (.t 10)⟩, ⟨(some 107), none, .mv (.t 13)⟩, ⟨(some 108), none, .bin 0 .neq (.t 106) (.t 107)⟩, ⟨(some 109), none, .mv (.t 108)⟩, ⟨(some 110), (some (109, false)), .mv (.t 13)⟩, ⟨(some 111), (some (109, false)), .bin 0 .eql (.t 110) (.c (.int .i64 0))⟩, ⟨(some 112), (some (109, false)), .mv (.t 111)⟩, ⟨(some 113), (some (112, true)), .mv (.t 12)⟩, ⟨(some 114), (some (112, true)), .mv (.t 5)⟩, ⟨(some 115), (some (112, true)), .call 32 [(.t 114)]⟩, ⟨(some 116), (some (112, true)), .bin 1 .neq (.t 113) (.t 115)⟩, ⟨(some 117), (some (109, false)), .pick (.t 112) (.t 116) (.c (.bool false))⟩, ⟨(some 118), none, .pick (.t 109) (.c (.bool true)) (.t 117)⟩, ⟨(some 119), none, .mv (.t 118)⟩, ⟨(some 120), (some (119, false)), .mv (.t 13)⟩, ⟨(some 121), (some (119, false)), .bin 0 .neq (.t 120) (.c (.int .i64 0))⟩, ⟨(some 122), (some (119, false)), .mv (.t 121)⟩, ⟨(some 123), (some (122, true)), .mv (.t 12)⟩, ⟨(some 124), (some (122, true)), .bin 1 .neq (.t 123) (.c (.str []))⟩, ⟨(some 125), (some (119, false)), .pick (.t 122) (.t 124) (.c (.bool false))⟩, ⟨(some 126), none, .pick (.t 119) (.c (.bool true)) (.t 125)⟩])
 (.cond (.t 126) (.seq (.ops [⟨(some 2), none, .mv (.c (.bool false))⟩])
 (.ret)) (.skip))))
 (.seq (.ops [⟨(some 127), none, .mv (.t 3)⟩, ⟨(some 128), none, .call 33 [(.t 127)]⟩, ⟨(some 14), none, .mv (.t 128)⟩])
 (.seq (.ops [⟨(some 130), none, .mv (.t 14)⟩, ⟨(some 131), none, .call 34 [(.t 130)]⟩, ⟨(some 129), none, .mv (.t 131)⟩, ⟨(some 132), none, .ext (.t 129) 0⟩, ⟨(some 133), none, .ext (.t 129) 1⟩, ⟨(some 134), none, .ext (.t 129) 2⟩, ⟨(some 15), none, .mv (.t 132)⟩, ⟨(some 16), none, .mv (.t 133)⟩, ⟨(some 17), none, .mv (.t 134)⟩])
 (.seq (.ops [⟨(some 136), none, .mv (.t 14)⟩, ⟨(some 137), none, .call 35 [(.t 136)]⟩, ⟨(some 135), none, .mv (.t 137)⟩, ⟨(some 138), none, .ext (.t 135) 0⟩, ⟨(some 139), none, .ext (.t 135) 1⟩, ⟨(some 140), none, .ext (.t 135) 2⟩, ⟨(some 18), none, .mv (.t 138)⟩, ⟨(some 19), none, .mv (.t 139)⟩, ⟨(some 20), none, .mv (.t 140)⟩])
 (.seq (.ops [⟨(some 141), none, .mv (.t 17)⟩, ⟨(some 142), none, .mv (.t 20)⟩, ⟨(some 143), none, .bin 0 .eql (.t 141) (.t 142)⟩, ⟨(some 144), none, .mv (.t 143)⟩, ⟨(some 145), (some (144, true)), .mv (.t 16)⟩, ⟨(some 146), (some (144, true)), .mv (.t 19)⟩, ⟨(some 147), (some (144, true)), .bin 0 .eql (.t 145) (.t 146)⟩, ⟨(some 148), none, .pick (.t 144) (.t 147) (.c (.bool false))⟩, ⟨(some 149), none, .mv (.t 148)⟩, ⟨(some 150), (some (149, true)), .mv (.t 15)⟩, ⟨(some 151), (some (149, true)), .mv (.t 18)⟩, ⟨(some 152), (some (149, true)), .call 20 [(.t 150), (.t 151)]⟩, ⟨(some 153), none, .pick (.t 149) (.t 152) (.c (.bool false))⟩, ⟨(some 154), none, .mv (.t 153)⟩, ⟨(some 155), (some (154, true)), .call 36 []⟩, ⟨(some 156), none, .pick (.t 154) (.t 155) (.c (.bool false))⟩, ⟨(some 2), none, .mv (.t 156)⟩])
 (.ret))))))))))))))))⟩
theorem c4 : compF Go.Proofs.Tryd.prog 4 = some a4 := by kernel_rfl
def a5 : AFn := ⟨71, [.t 2], .seq (.ops [⟨(some 2), none, .mv (.c (.bool false))⟩])
 (.seq (.ops [⟨(some 12), none, .mv (.t 0)⟩, ⟨(some 13), none, .build [(.lit true 0 []), (.int .i64 0)] [(0, 1, (.t 12))]⟩, ⟨(some 14), none, .box 25 (.t 13)⟩, ⟨(some 3), none, .mv (.t 14)⟩])
 (.seq (.ops [⟨(some 15), none, .mv (.t 3)⟩, ⟨(some 16), none, .call 37 [(.t 15), (.c (.int .i64 1)), (.c (.int .i64 12))]⟩, ⟨(some 4), none, .mv (.t 16)⟩])
 (.seq (.ops [⟨(some 18), none, .mv (.t 4)⟩, ⟨(some 19), none, .call 38 [(.t 18)]⟩, ⟨(some 17), none, .mv (.t 19)⟩, ⟨(some 20), none, .ext (.t 17) 0⟩, ⟨(some 21), none, .ext (.t 17) 1⟩, ⟨(some 5), none, .mv (.t 20)⟩, ⟨(some 6), none, .mv (.t 21)⟩])
 (.seq (.seq (.ops [⟨(some 22), none, .mv (.t 6)⟩, ⟨(some 23), none, .bin 0 .neq (.t 22) (.c (.int .i64 0))⟩])
 (.cond (.t 23) (.seq (.ops [⟨(some 2), none, .mv (.c (.bool false))⟩])
 (.ret)) (.skip)))
 (.seq (.ops [⟨(some 25), none, .mv (.t 4)⟩, ⟨(some 26), none, .mv (.t 5)⟩, ⟨(some 27), none, .call 13 [(.t 25), (.t 26)]⟩, ⟨(some 24), none, .mv (.t 27)⟩, ⟨(some 28), none, .ext (.t 24) 0⟩, ⟨(some 29), none, .ext (.t 24) 1⟩, ⟨(some 7), none, .mv (.t 28)⟩, ⟨(some 6), none, .mv (.t 29)⟩])
 (.seq (.seq (.ops [⟨(some 30), none, .mv (.t 6)⟩, ⟨(some 31), none, .bin 0 .neq (.t 30) (.c (.int .i64 0))⟩])
 (.cond (.t 31) (.seq (.ops [⟨(some 2), none, .mv (.c (.bool false))⟩])
 (.ret)) (.skip)))
 (.seq (.ops [⟨(some 33), none, .mv (.t 4)⟩, ⟨(some 34), none, .bslice 3 1 6 [(.int .i64 0)] [(0, 1, (.c (.int .i64 1))), (1, 1, (.c (.int .i64 2))), (2, 1, (.c (.int .i64 3))), (3, 1, (.c (.int .i64 4))), (4, 1, (.c (.int .i64 5))), (5, 1, (.c (.int .i64 6)))]⟩, ⟨(some 35), none, .call 39 [(.t 33), (.t 34)]⟩, ⟨(some 32), none, .mv (.t 35)⟩, ⟨(some 36), none, .ext (.t 32) 0⟩, ⟨(some 37), none, .ext (.t 32) 1⟩, ⟨(some 8), none, .mv (.t 36)⟩, ⟨(some 6), none, .mv (.t 37)⟩])
 (.seq (.seq (.ops [⟨(some 38), none, .mv (.t 6)⟩, ⟨(some 39), none, .bin 0 .neq (.t 38) (.c (.int .i64 0))⟩])
 (.cond (.t 39) (.seq (.ops [⟨(some 2), none, .mv (.c (.bool false))⟩])
 (.ret)) (.skip)))
 (.seq (.ops [⟨(some 41), none, .mv (.t 7)⟩, ⟨(some 42), none, .mv (.t 8)⟩, ⟨(some 43), none, .call 40 [(.t 41), (.t 42)]⟩, ⟨(some 40), none, .mv (.t 43)⟩, ⟨(some 44), none, .ext (.t 40) 0⟩, ⟨(some 45), none, .ext (.t 40) 1⟩, ⟨(some 9), none, .mv (.t 44)⟩, ⟨(some 6), none, .mv (.t 45)⟩])
 (.seq (.ops [⟨(some 47), none, .mv (.t 7)⟩, ⟨(some 48), none, .mv (.t 8)⟩, ⟨(some 49), none, .call 41 [(.t 47), (.t 48)]⟩, ⟨(some 46), none, .mv (.t 49)⟩, ⟨(some 50), none, .ext (.t 46) 0⟩, ⟨(some 51), none, .ext (.t 46) 1⟩, ⟨(some 10), none, .alloc 61 [(.int .i64 0), (.int .i64 0)]⟩, ⟨none, none, .store 2 (.t 10) (.t 50)⟩, ⟨(some 11), none, .mv (.t 51)⟩])
 (.seq (.ops [⟨(some 52), none, .mv (.t 6)⟩, ⟨(some 53), none, .bin 0 .eql (.t 52) (.c (.int .i64 0))⟩, ⟨(some 54), none, .mv (.t 53)⟩, ⟨(some 55), (some (54, true)), .mv (.t 11)⟩, ⟨(some 56), (some (54, true)), .bin 0 .eql (.t 55) (.c (.int .i64 0))⟩, ⟨(some 57), none, .pick (.t 54) (.t 56) (.c (.bool false))⟩, ⟨(some 58), none, .mv (.t 57)⟩, ⟨(some 59), (some (58, true)), .mv (.t 9)⟩, ⟨(some 60), (some (58, true)), .len false (.t 59)⟩, ⟨(some 61), (some (58, true)), .bin 0 .eql (.t 60) (.c (.int .i64 0))⟩, ⟨(some 62), none, .pick (.t 58) (.t 61) (.c (.bool false))⟩, ⟨(some 63), none, .mv (.t 62)⟩, ⟨(some 64), (some (63, true)), .load (some 2) (.t 10)⟩, ⟨(some 65), (some (63, true)), .build [(.int .i64 0), (.int .i64 0)] [(0, 1, (.c (.int .i64 1))), (1, 1, (.c (.int .i64 1)))]⟩, ⟨(some 66), (some (63, true)), .eqs false [0, 0] (.t 64) (.t 65)⟩, ⟨(some 67), none, .pick (.t 63) (.t 66) (.c (.bool false))⟩, ⟨(some 68), none, .mv (.t 67)⟩, ⟨(some 69), (some (68, true)), .call 42 []⟩, ⟨(some 70), none, .pick (.t 68) (.t 69) (.c (.bool false))⟩, ⟨(some 2), none, .mv (.t 70)⟩])
 (.ret))))))))))))⟩
def a6 : AFn := ⟨129, [.t 2], .seq (.ops [⟨(some 2), none, .mv (.c (.bool false))⟩])
 (.seq (.ops [⟨(some 16), none, .mv (.t 0)⟩, ⟨(some 17), none, .build [(.lit true 0 []), (.int .i64 0)] [(0, 1, (.t 16))]⟩, ⟨(some 18), none, .box 25 (.t 17)⟩, ⟨(some 3), none, .mv (.t 18)⟩])
 (.seq (.ops [⟨(some 20), none, .mv (.t 3)⟩, ⟨(some 21), none, .call 22 [(.t 20), (.c (.int .i64 5))]⟩, ⟨(some 19), none, .mv (.t 21)⟩, ⟨(some 22), none, .ext (.t 19) 0⟩, ⟨(some 23), none, .ext (.t 19) 1⟩, ⟨(some 4), none, .mv (.t 22)⟩, ⟨(some 5), none, .mv (.t 23)⟩])
 (.seq (.seq (.ops [⟨(some 24), none, .mv (.t 3)⟩, ⟨(some 25), none, .call 43 [(.t 24), (.c (.int .i64 10))]⟩])
 (.cond (.t 25) (.ops [⟨(some 26), none, .bslice 9 1 2 [(.str [])] [(0, 1, (.c (.str [48]))), (1, 1, (.c (.str [49])))]⟩, ⟨(some 27), none, .mv (.t 3)⟩, ⟨(some 28), none, .call 37 [(.t 27), (.c (.int .i64 5)), (.c (.int .i64 8))]⟩, ⟨(some 29), none, .call 44 [(.t 26), (.t 28)]⟩, ⟨(some 4), none, .mv (.c (.int .i64 1))⟩, ⟨(some 5), none, .mv (.t 29)⟩]) (.skip)))
 (.seq (.ops [⟨(some 30), none, .mv (.t 4)⟩, ⟨(some 31), none, .mv (.t 5)⟩, ⟨(some 32), none, .call 24 [(.t 30), (.t 31)]⟩, ⟨(some 6), none, .mv (.t 32)⟩])
 (.seq (.ops [⟨(some 34), none, .mv (.t 4)⟩, ⟨(some 35), none, .mv (.t 5)⟩, ⟨(some 36), none, .call 15 [(.t 34), (.t 35)]⟩, ⟨(some 33), none, .mv (.t 36)⟩, ⟨(some 37), none, .ext (.t 33) 0⟩, ⟨(some 38), none, .ext (.t 33) 1⟩, ⟨(some 7), none, .mv (.t 37)⟩, ⟨(some 8), none, .mv (.t 38)⟩])
 (.seq (.ops [⟨(some 39), none, .mv (.t 6)⟩, ⟨(some 40), none, .mv (.t 5)⟩, ⟨(some 41), none, .len false (.t 40)⟩, ⟨(some 42), none, .bin 0 .gtr (.t 41) (.c (.int .i64 14))⟩, ⟨(some 43), none, .call 46 [(.t 42), (.c (.int .i64 2))]⟩, ⟨(some 44), none, .bslice 29 1 2 [(.int .i64 0)] [(0, 1, (.t 39)), (1, 1, (.t 43))]⟩, ⟨(some 45), none, .call 45 [(.t 44)]⟩, ⟨(some 46), none, .mv (.t 6)⟩, ⟨(some 47), none, .mv (.t 5)⟩, ⟨(some 48), none, .len false (.t 47)⟩, ⟨(some 49), none, .bin 0 .gtr (.t 48) (.c (.int .i64 10))⟩, ⟨(some 50), none, .call 46 [(.t 49), (.c (.int .i64 2))]⟩, ⟨(some 51), none, .bslice 29 1 2 [(.int .i64 0)] [(0, 1, (.t 46)), (1, 1, (.t 50))]⟩, ⟨(some 52), none, .call 45 [(.t 51)]⟩, ⟨(some 9), none, .mv (.t 45)⟩, ⟨(some 10), none, .mv (.t 52)⟩])
 (.seq (.seq (.ops [⟨(some 53), none, .mv (.t 8)⟩, ⟨(some 54), none, .mv (.t 9)⟩, ⟨(some 55), none, .bin 0 .neq (.t 53) (.t 54)⟩, ⟨(some 56), none, .mv (.t 55)⟩, ⟨(some 57), (some (56, false)), .mv (.t 9)⟩, ⟨(some 58), (some (56, false)), .bin 0 .eql (.t 57) (.c (.int .i64 0))⟩, ⟨(some 59), (some (56, false)), .mv (.t 58)⟩, ⟨(some 60), (some (59, true)), .mv (.t 7)⟩, ⟨(some 61), (some (59, true)), .mv (.t 4)⟩, ⟨(some 62), (some (59, true)), .mv (.t 5)⟩, ⟨(some 63), (some (59, true)), .call 48 [(.t 61), (.t 62)]⟩, ⟨(some 64), (some (59, true)), .call 47 [(.t 60), (.t 63)]⟩, ⟨(some 65), (some (59, true)), .un .not (.t 64)⟩, ⟨(some 66), (some (56, false)), .pick (.t 59) (.t 65) (.c (.bool false))⟩, ⟨(some 67), none, .pick (.t 56) (.c (.bool true)) (.t 66)⟩, ⟨(some 68), none, .mv (.t 67)⟩, ⟨(some 69), (some (68, false)), .mv (.t 9)⟩, ⟨(some 70), (some (68, false)), .bin 0 .neq (.t 69) (.c (.int .i64 0))⟩, ⟨(some 71), (some (68, false)), .mv (.t 70)⟩, ⟨(some 72), (some (71, true)), .mv (.t 7)⟩, ⟨(some 73), (some (71, true)), .len false (.t 72)⟩, ⟨(some 74), (some (71, true)), .bin 0 .gtr (.t 73) (.c (.int .i64 0))⟩, ⟨(some 75), (some (68, false)), .pick (.t 71) (.t 74) (.c (.bool false))⟩, ⟨(some 76), none, .pick (.t 68) (.c (.bool true)) (.t 75)⟩])
 (.cond (.t 76) (.seq (.ops [⟨(some 2), none, .mv (.c (.bool false))⟩])
 (.ret)) (.skip)))
 (.seq (.seq (.ops [⟨(some 77), none, .mv (.t 10)⟩, ⟨(some 78), none, .bin 0 .eql (.t 77) (.c (.int .i64 0))⟩, ⟨(some 79), none, .mv (.t 78)⟩, ⟨(some 80), (some (79, true)), .mv (.t 5)⟩, ⟨(some 81), (some (79, true)), .len false (.t 80)⟩, ⟨(some 82), (some (79, true)), .bin 0 .gtr (.t 81) (.c (.int .i64 6))⟩, ⟨(some 83), none, .pick (.t 79) (.t 82) (.c (.bool false))⟩])
 (.cond (.t 83) (.seq (.ops [⟨(some 84), none, .call 36 []⟩, ⟨(some 2), none, .mv (.t 84)⟩])
 (.ret)) (.skip)))
 (.seq (.ops [⟨(some 86), none, .mv (.t 4)⟩, ⟨(some 87), none, .mv (.t 5)⟩, ⟨(some 88), none, .call 49 [(.t 86), (.t 87)]⟩, ⟨(some 85), none, .mv (.t 88)⟩, ⟨(some 89), none, .ext (.t 85) 0⟩, ⟨(some 90), none, .ext (.t 85) 1⟩, ⟨(some 91), none, .ext (.t 85) 2⟩, ⟨(some 11), none, .mv (.t 89)⟩, ⟨(some 12), none, .mv (.t 90)⟩, ⟨(some 13), none, .mv (.t 91)⟩])
 (.seq (.seq (.ops [⟨(some 92), none, .mv (.t 10)⟩, ⟨(some 93), none, .bin 0 .neq (.t 92) (.c (.int .i64 0))⟩])
 (.cond (.t 93) (.seq (.ops [⟨(some 94), none, .mv (.t 13)⟩, ⟨(some 95), none, .mv (.t 10)⟩, ⟨(some 96), none, .bin 0 .eql (.t 94) (.t 95)⟩, ⟨(some 97), none, .mv (.t 96)⟩, ⟨(some 98), (some (97, true)), .mv (.t 11)⟩, ⟨(some 99), (some (97, true)), .len false (.t 98)⟩, ⟨(some 100), (some (97, true)), .bin 0 .eql (.t 99) (.c (.int .i64 0))⟩, ⟨(some 101), none, .pick (.t 97) (.t 100) (.c (.bool false))⟩, ⟨(some 102), none, .mv (.t 101)⟩, ⟨(some 103), (some (102, true)), .mv (.t 12)⟩, ⟨(some 104), (some (102, true)), .bin 0 .eql (.t 103) (.c (.int .i64 0))⟩, ⟨(some 105), none, .pick (.t 102) (.t 104) (.c (.bool false))⟩, ⟨(some 106), none, .mv (.t 105)⟩, ⟨(some 107), (some (106, true)), .call 36 []⟩, ⟨(some 108), none, .pick (.t 106) (.t 107) (.c (.bool false))⟩, ⟨(some 2), none, .mv (.t 108)⟩])
 (.ret)) (.skip)))
 (.seq (.ops [⟨(some 110), none, .mv (.t 5)⟩, ⟨(some 111), none, .call 50 [(.t 110)]⟩, ⟨(some 109), none, .mv (.t 111)⟩, ⟨(some 112), none, .ext (.t 109) 0⟩, ⟨(some 113), none, .ext (.t 109) 1⟩, ⟨(some 14), none, .mv (.t 112)⟩, ⟨(some 15), none, .mv (.t 113)⟩])
 (.seq (.ops [⟨(some 114), none, .mv (.t 13)⟩, ⟨(some 115), none, .bin 0 .eql (.t 114) (.c (.int .i64 0))⟩, ⟨(some 116), none, .mv (.t 115)⟩, ⟨(some 117), (some (116, true)), .mv (.t 11)⟩, ⟨(some 118), (some (116, true)), .mv (.t 14)⟩, ⟨(some 119), (some (116, true)), .call 47 [(.t 117), (.t 118)]⟩, ⟨(some 120), none, .pick (.t 116) (.t 119) (.c (.bool false))⟩, ⟨(some 121), none, .mv (.t 120)⟩, ⟨(some 122), (some (121, true)), .mv (.t 12)⟩, ⟨(some 123), (some (121, true)), .mv (.t 15)⟩, ⟨(some 124), (some (121, true)), .bin 0 .eql (.t 122) (.t 123)⟩, ⟨(some 125), none, .pick (.t 121) (.t 124) (.c (.bool false))⟩, ⟨(some 126), none, .mv (.t 125)⟩, ⟨(some 127), (some (126, true)), .call 36 []⟩, ⟨(some 128), none, .pick (.t 126) (.t 127) (.c (.bool false))⟩, ⟨(some 2), none, .mv (.t 128)⟩])
 (.ret)))))))))))))⟩
def a8 : AFn := ⟨110, [.t 2], .seq (.ops [⟨(some 2), none, .mv (.c (.bool false))⟩])
 (.seq (.ops [⟨(some 18), none, .mv (.t 0)⟩, ⟨(some 19), none, .build [(.lit true 0 []), (.int .i64 0)] [(0, 1, (.t 18))]⟩, ⟨(some 20), none, .box 25 (.t 19)⟩, ⟨(some 3), none, .mv (.t 20)⟩])
 (.seq (.ops [⟨(some 22), none, .mv (.t 3)⟩, ⟨(some 23), none, .call 12 [(.t 22), (.c (.int .i64 6))]⟩, ⟨(some 21), none, .mv (.t 23)⟩, ⟨(some 24), none, .ext (.t 21) 0⟩, ⟨(some 25), none, .ext (.t 21) 1⟩, ⟨(some 4), none, .mv (.t 24)⟩, ⟨(some 5), none, .mv (.t 25)⟩])
 (.seq (.ops [⟨(some 27), none, .mv (.t 4)⟩, ⟨(some 28), none, .mv (.t 5)⟩, ⟨(some 29), none, .call 15 [(.t 27), (.t 28)]⟩, ⟨(some 26), none, .mv (.t 29)⟩, ⟨(some 30), none, .ext (.t 26) 0⟩, ⟨(some 31), none, .ext (.t 26) 1⟩, ⟨(some 6), none, .mv (.t 30)⟩, ⟨(some 7), none, .mv (.t 31)⟩])
 (.seq (.seq (.ops [⟨(some 32), none, .mv (.t 7)⟩, ⟨(some 33), none, .bin 0 .neq (.t 32) (.c (.int .i64 0))⟩])
 (.cond (.t 33) (.seq (.ops [⟨(some 2), none, .mv (.c (.bool false))⟩])
 (.ret)) (.skip)))
 (.seq (.ops [⟨(some 8), none, .mv (.c (.lit true 0 []))⟩])
 (.seq (.seq (.ops [⟨(some 34), none, .mv (.t 6)⟩, ⟨(some 35), none, .len false (.t 34)⟩, ⟨(some 36), none, .mv (.c (.int .i64 0))⟩])
 (.block 0 (.loop (.seq (.ops [⟨(some 37), none, .bin 0 .lss (.t 36) (.t 35)⟩])
 (.seq (.cond (.t 37) (.skip) (.exit 0))
 (.seq (.block 1 (.seq (.ops [⟨(some 38), none, .iadr 1 (.t 34) (.t 36)⟩, ⟨(some 39), none, .load none (.t 38)⟩, ⟨(some 10), none, .mv (.t 39)⟩])
 (.seq (.seq (.ops [⟨(some 40), none, .mv (.t 10)⟩, ⟨(some 41), none, .bin 0 .lss (.t 40) (.c (.int .i64 0))⟩, ⟨(some 42), none, .mv (.t 41)⟩, ⟨(some 43), (some (42, false)), .mv (.t 10)⟩, ⟨(some 44), (some (42, false)), .mv (.t 5)⟩, ⟨(some 45), (some (42, false)), .len false (.t 44)⟩, ⟨(some 46), (some (42, false)), .bin 0 .geq (.t 43) (.t 45)⟩, ⟨(some 47), none, .pick (.t 42) (.c (.bool true)) (.t 46)⟩])
 (.cond (.t 47) (.seq (.ops [⟨(some 2), none, .mv (.c (.bool false))⟩])
 (.ret)) (.skip)))
 (.ops [⟨(some 48), none, .mv (.t 8)⟩, ⟨(some 49), none, .mv (.t 5)⟩, ⟨(some 50), none, .mv (.t 10)⟩, ⟨(some 51), none, .iadr 1 (.t 49) (.t 50)⟩, ⟨(some 52), none, .load none (.t 51)⟩, ⟨(some 53), none, .bslice 9 1 1 [(.str [])] [(0, 1, (.t 52))]⟩, ⟨(some 54), none, .app 9 1 16 (.t 48) (.t 53)⟩, ⟨(some 8), none, .mv (.t 54)⟩]))))
 (.ops [⟨(some 55), none, .bin 0 .add (.t 36) (.c (.int .i64 1))⟩, ⟨(some 36), none, .mv (.t 55)⟩])))))))
 (.seq (.ops [⟨(some 57), none, .mv (.t 4)⟩, ⟨(some 58), none, .mv (.t 5)⟩, ⟨(some 59), none, .call 13 [(.t 57), (.t 58)]⟩, ⟨(some 56), none, .mv (.t 59)⟩, ⟨(some 60), none, .ext (.t 56) 0⟩, ⟨(some 61), none, .ext (.t 56) 1⟩, ⟨(some 11), none, .mv (.t 60)⟩, ⟨(some 7), none, .mv (.t 61)⟩])
 (.seq (.ops [⟨(some 63), none, .mv (.t 4)⟩, ⟨(some 64), none, .mv (.t 8)⟩, ⟨(some 65), none, .call 13 [(.t 63), (.t 64)]⟩, ⟨(some 62), none, .mv (.t 65)⟩, ⟨(some 66), none, .ext (.t 62) 0⟩, ⟨(some 67), none, .ext (.t 62) 1⟩, ⟨(some 12), none, .mv (.t 66)⟩, ⟨(some 13), none, .mv (.t 67)⟩])
 (.seq (.ops [⟨(some 69), none, .mv (.t 4)⟩, ⟨(some 70), none, .bslice 3 1 2 [(.int .i64 0)] [(0, 1, (.c (.int .i64 3))), (1, 1, (.c (.int .i64 4)))]⟩, ⟨(some 71), none, .call 39 [(.t 69), (.t 70)]⟩, ⟨(some 68), none, .mv (.t 71)⟩, ⟨(some 72), none, .ext (.t 68) 0⟩, ⟨(some 73), none, .ext (.t 68) 1⟩, ⟨(some 14), none, .mv (.t 72)⟩, ⟨(some 15), none, .mv (.t 73)⟩])
 (.seq (.seq (.ops [⟨(some 74), none, .mv (.t 7)⟩, ⟨(some 75), none, .bin 0 .neq (.t 74) (.c (.int .i64 0))⟩, ⟨(some 76), none, .mv (.t 75)⟩, ⟨(some 77), (some (76, false)), .mv (.t 13)⟩, ⟨(some 78), (some (76, false)), .bin 0 .neq (.t 77) (.c (.int .i64 0))⟩, ⟨(some 79), none, .pick (.t 76) (.c (.bool true)) (.t 78)⟩, ⟨(some 80), none, .mv (.t 79)⟩, ⟨(some 81), (some (80, false)), .mv (.t 15)⟩, ⟨(some 82), (some (80, false)), .bin 0 .neq (.t 81) (.c (.int .i64 0))⟩, ⟨(some 83), none, .pick (.t 80) (.c (.bool true)) (.t 82)⟩])
 (.cond (.t 83) (.seq (.ops [⟨(some 2), none, .mv (.c (.bool false))⟩])
 (.ret)) (.skip)))
 (.seq (.ops [⟨(some 85), none, .mv (.t 11)⟩, ⟨(some 86), none, .mv (.t 14)⟩, ⟨(some 87), none, .call 40 [(.t 85), (.t 86)]⟩, ⟨(some 84), none, .mv (.t 87)⟩, ⟨(some 88), none, .ext (.t 84) 0⟩, ⟨(some 89), none, .ext (.t 84) 1⟩, ⟨(some 16), none, .mv (.t 88)⟩, ⟨(some 7), none, .mv (.t 89)⟩])
 (.seq (.ops [⟨(some 91), none, .mv (.t 12)⟩, ⟨(some 92), none, .mv (.t 14)⟩, ⟨(some 93), none, .call 40 [(.t 91), (.t 92)]⟩, ⟨(some 90), none, .mv (.t 93)⟩, ⟨(some 94), none, .ext (.t 90) 0⟩, ⟨(some 95), none, .ext (.t 90) 1⟩, ⟨(some 17), none, .mv (.t 94)⟩, ⟨(some 13), none, .mv (.t 95)⟩])
 (.seq (.ops [⟨(some 96), none, .mv (.t 7)⟩, ⟨(some 97), none, .bin 0 .eql (.t 96) (.c (.int .i64 0))⟩, ⟨(some 98), none, .mv (.t 97)⟩, ⟨(some 99), (some (98, true)), .mv (.t 13)⟩, ⟨(some 100), (some (98, true)), .bin 0 .eql (.t 99) (.c (.int .i64 0))⟩, ⟨(some 101), none, .pick (.t 98) (.t 100) (.c (.bool false))⟩, ⟨(some 102), none, .mv (.t 101)⟩, ⟨(some 103), (some (102, true)), .mv (.t 16)⟩, ⟨(some 104), (some (102, true)), .mv (.t 17)⟩, ⟨(some 105), (some (102, true)), .call 47 [(.t 103), (.t 104)]⟩, ⟨(some 106), none, .pick (.t 102) (.t 105) (.c (.bool false))⟩, ⟨(some 107), none, .mv (.t 106)⟩, ⟨(some 108), (some (107, true)), .call 42 []⟩, ⟨(some 109), none, .pick (.t 107) (.t 108) (.c (.bool false))⟩, ⟨(some 2), none, .mv (.t 109)⟩])
 (.ret))))))))))))))⟩
theorem c8 : compF Go.Proofs.Tryd.prog 8 = some a8 := by kernel_rfl
def a9 : AFn := ⟨70, [.t 2], .seq (.ops [⟨(some 2), none, .mv (.c (.bool false))⟩])
 (.seq (.ops [⟨(some 12), none, .mv (.t 0)⟩, ⟨(some 13), none, .build [(.lit true 0 []), (.int .i64 0)] [(0, 1, (.t 12))]⟩, ⟨(some 14), none, .box 25 (.t 13)⟩, ⟨(some 3), none, .mv (.t 14)⟩])
 (.seq (.ops [⟨(some 16), none, .mv (.t 3)⟩, ⟨(some 17), none, .call 12 [(.t 16), (.c (.int .i64 6))]⟩, ⟨(some 15), none, .mv (.t 17)⟩, ⟨(some 18), none, .ext (.t 15) 0⟩, ⟨(some 19), none, .ext (.t 15) 1⟩, ⟨(some 4), none, .mv (.t 18)⟩, ⟨(some 5), none, .mv (.t 19)⟩])
 (.seq (.ops [⟨(some 21), none, .mv (.t 4)⟩, ⟨(some 22), none, .mv (.t 5)⟩, ⟨(some 23), none, .call 13 [(.t 21), (.t 22)]⟩, ⟨(some 20), none, .mv (.t 23)⟩, ⟨(some 24), none, .ext (.t 20) 0⟩, ⟨(some 25), none, .ext (.t 20) 1⟩, ⟨(some 6), none, .mv (.t 24)⟩, ⟨(some 7), none, .mv (.t 25)⟩])
 (.seq (.seq (.ops [⟨(some 26), none, .mv (.t 7)⟩, ⟨(some 27), none, .bin 0 .neq (.t 26) (.c (.int .i64 0))⟩, ⟨(some 28), none, .mv (.t 27)⟩, ⟨(some 29), (some (28, false)), .mv (.t 6)⟩, ⟨(some 30), (some (28, false)), .len false (.t 29)⟩, ⟨(some 31), (some (28, false)), .mv (.t 4)⟩, ⟨(some 32), (some (28, false)), .bin 0 .neq (.t 30) (.t 31)⟩, ⟨(some 33), none, .pick (.t 28) (.c (.bool true)) (.t 32)⟩])
 (.cond (.t 33) (.seq (.ops [⟨(some 2), none, .mv (.c (.bool false))⟩])
 (.ret)) (.skip)))
 (.seq (.ops [⟨(some 35), none, .mv (.t 6)⟩, ⟨(some 36), none, .call 28 [(.t 35)]⟩, ⟨(some 34), none, .mv (.t 36)⟩, ⟨(some 37), none, .ext (.t 34) 0⟩, ⟨(some 38), none, .ext (.t 34) 1⟩, ⟨(some 8), none, .mv (.t 37)⟩, ⟨(some 7), none, .mv (.t 38)⟩])
 (.seq (.seq (.ops [⟨(some 39), none, .mv (.t 7)⟩, ⟨(some 40), none, .bin 0 .neq (.t 39) (.c (.int .i64 0))⟩, ⟨(some 41), none, .mv (.t 40)⟩, ⟨(some 42), (some (41, false)), .mv (.t 8)⟩, ⟨(some 43), (some (41, false)), .mv (.t 5)⟩, ⟨(some 44), (some (41, false)), .call 20 [(.t 42), (.t 43)]⟩, ⟨(some 45), (some (41, false)), .un .not (.t 44)⟩, ⟨(some 46), none, .pick (.t 41) (.c (.bool true)) (.t 45)⟩])
 (.cond (.t 46) (.seq (.ops [⟨(some 2), none, .mv (.c (.bool false))⟩])
 (.ret)) (.skip)))
 (.seq (.ops [⟨(some 48), none, .mv (.t 5)⟩, ⟨(some 49), none, .call 30 [(.t 48)]⟩, ⟨(some 47), none, .mv (.t 49)⟩, ⟨(some 50), none, .ext (.t 47) 0⟩, ⟨(some 51), none, .ext (.t 47) 1⟩, ⟨(some 9), none, .mv (.t 50)⟩, ⟨(some 7), none, .mv (.t 51)⟩])
 (.seq (.seq (.ops [⟨(some 52), none, .mv (.t 7)⟩, ⟨(some 53), none, .bin 0 .neq (.t 52) (.c (.int .i64 0))⟩])
 (.cond (.t 53) (.seq (.ops [⟨(some 2), none, .mv (.c (.bool false))⟩])
 (.ret)) (.skip)))
 (.seq (.ops [⟨(some 55), none, .mv (.t 9)⟩, ⟨(some 56), none, .call 34 [(.t 55)]⟩, ⟨(some 54), none, .mv (.t 56)⟩, ⟨(some 57), none, .ext (.t 54) 0⟩, ⟨(some 58), none, .ext (.t 54) 1⟩, ⟨(some 59), none, .ext (.t 54) 2⟩, ⟨(some 10), none, .mv (.t 57)⟩, ⟨(some 11), none, .mv (.t 58)⟩, ⟨(some 7), none, .mv (.t 59)⟩])
 (.seq (.ops [⟨(some 60), none, .mv (.t 7)⟩, ⟨(some 61), none, .bin 0 .eql (.t 60) (.c (.int .i64 0))⟩, ⟨(some 62), none, .mv (.t 61)⟩, ⟨(some 63), (some (62, true)), .mv (.t 10)⟩, ⟨(some 64), (some (62, true)), .mv (.t 5)⟩, ⟨(some 65), (some (62, true)), .call 20 [(.t 63), (.t 64)]⟩, ⟨(some 66), none, .pick (.t 62) (.t 65) (.c (.bool false))⟩, ⟨(some 67), none, .mv (.t 66)⟩, ⟨(some 68), (some (67, true)), .call 21 []⟩, ⟨(some 69), none, .pick (.t 67) (.t 68) (.c (.bool false))⟩, ⟨(some 2), none, .mv (.t 69)⟩])
 (.ret)))))))))))⟩
def a12 : AFn := ⟨23, [.t 4, .t 5], .seq (.ops [⟨(some 4), none, .mv (.c (.int .i64 0))⟩, ⟨(some 5), none, .mv (.c (.lit true 0 []))⟩])
 (.seq (.seq (.ops [⟨(some 8), none, .mv (.c (.int .i64 0))⟩])
 (.block 0 (.loop (.seq (.ops [⟨(some 9), none, .bin 0 .lss (.t 8) (.c (.int .i64 6))⟩])
 (.seq (.cond (.t 9) (.skip) (.exit 0))
 (.seq (.block 1 (.seq (.ops [⟨(some 11), none, .mv (.t 0)⟩, ⟨(some 12), none, .mv (.t 1)⟩, ⟨(some 13), none, .call 22 [(.t 11), (.t 12)]⟩, ⟨(some 10), none, .mv (.t 13)⟩, ⟨(some 14), none, .ext (.t 10) 0⟩, ⟨(some 15), none, .ext (.t 10) 1⟩, ⟨(some 6), none, .mv (.t 14)⟩, ⟨(some 7), none, .mv (.t 15)⟩])
 (.seq (.ops [⟨(some 16), none, .mv (.t 6)⟩, ⟨(some 17), none, .mv (.t 7)⟩, ⟨(some 18), none, .call 24 [(.t 16), (.t 17)]⟩, ⟨(some 19), none, .bin 0 .eql (.t 18) (.c (.int .i64 0))⟩])
 (.cond (.t 19) (.seq (.ops [⟨(some 20), none, .mv (.t 6)⟩, ⟨(some 21), none, .mv (.t 7)⟩, ⟨(some 4), none, .mv (.t 20)⟩, ⟨(some 5), none, .mv (.t 21)⟩])
 (.ret)) (.skip)))))
 (.ops [⟨(some 22), none, .bin 0 .add (.t 8) (.c (.int .i64 1))⟩, ⟨(some 8), none, .mv (.t 22)⟩])))))))
 (.seq (.ops [⟨(some 4), none, .mv (.c (.int .i64 1))⟩, ⟨(some 5), none, .mv (.c (.lit true 0 []))⟩])
 (.ret)))⟩
theorem c12 : compF Go.Proofs.Tryd.prog 12 = some a12 := by kernel_rfl
def a13 : AFn := ⟨16, [.t 4, .t 5], .seq (.ops [⟨(some 4), none, .mv (.c (.lit true 0 []))⟩, ⟨(some 5), none, .mv (.c (.int .i64 0))⟩])
 (.seq (.seq (.ops [⟨(some 7), none, .mv (.t 0)⟩, ⟨(some 8), none, .mv (.t 1)⟩, ⟨(some 9), none, .call 26 [(.t 7), (.t 8)]⟩, ⟨(some 6), none, .mv (.t 9)⟩])
 (.seq (.ops [⟨(some 10), none, .mv (.t 6)⟩, ⟨(some 11), none, .bin 0 .neq (.t 10) (.c (.int .i64 0))⟩])
 (.cond (.t 11) (.seq (.ops [⟨(some 12), none, .mv (.t 6)⟩, ⟨(some 4), none, .mv (.c (.lit true 0 []))⟩, ⟨(some 5), none, .mv (.t 12)⟩])
 (.ret)) (.skip))))
 (.seq (.ops [⟨(some 13), none, .mv (.t 1)⟩, ⟨(some 14), none, .mv (.t 0)⟩, ⟨(some 15), none, .call 73 [(.t 13), (.t 14)]⟩, ⟨(some 4), none, .mv (.t 15)⟩, ⟨(some 5), none, .mv (.c (.int .i64 0))⟩])
 (.ret)))⟩
theorem c13 : compF Go.Proofs.Tryd.prog 13 = some a13 := by kernel_rfl
def a15 : AFn := ⟨129, [.t 4, .t 5], .seq (.ops [⟨(some 4), none, .mv (.c (.lit true 0 []))⟩, ⟨(some 5), none, .mv (.c (.int .i64 0))⟩])
 (.seq (.seq (.ops [⟨(some 21), none, .mv (.t 0)⟩, ⟨(some 22), none, .mv (.t 1)⟩, ⟨(some 23), none, .call 26 [(.t 21), (.t 22)]⟩, ⟨(some 6), none, .mv (.t 23)⟩])
 (.seq (.ops [⟨(some 24), none, .mv (.t 6)⟩, ⟨(some 25), none, .bin 0 .neq (.t 24) (.c (.int .i64 0))⟩])
 (.cond (.t 25) (.seq (.ops [⟨(some 26), none, .mv (.t 6)⟩, ⟨(some 4), none, .mv (.c (.lit true 0 []))⟩, ⟨(some 5), none, .mv (.t 26)⟩])
 (.ret)) (.skip))))
 (.seq (.seq (.ops [⟨(some 27), none, .mv (.t 1)⟩, ⟨(some 28), none, .len false (.t 27)⟩, ⟨(some 29), none, .bin 0 .gtr (.t 28) (.c (.int .i64 14))⟩])
 (.cond (.t 29) (.seq (.ops [⟨(some 4), none, .mv (.c (.lit true 0 []))⟩, ⟨(some 5), none, .mv (.c (.int .i64 2))⟩])
 (.ret)) (.skip)))
 (.seq (.ops [⟨(some 30), none, .mv (.t 0)⟩, ⟨(some 31), none, .mks 95 1 8 [(.int .u64 0)] (.t 30)⟩, ⟨(some 7), none, .mv (.t 31)⟩])
 (.seq (.seq (.ops [⟨(some 32), none, .mv (.t 1)⟩, ⟨(some 33), none, .len false (.t 32)⟩, ⟨(some 34), none, .mv (.c (.int .i64 0))⟩])
 (.block 0 (.loop (.seq (.ops [⟨(some 35), none, .bin 0 .lss (.t 34) (.t 33)⟩])
 (.seq (.cond (.t 35) (.skip) (.exit 0))
 (.seq (.block 1 (.seq (.ops [⟨(some 36), none, .mv (.t 34)⟩, ⟨(some 37), none, .iadr 1 (.t 32) (.t 34)⟩, ⟨(some 38), none, .load none (.t 37)⟩, ⟨(some 8), none, .mv (.t 36)⟩, ⟨(some 9), none, .mv (.t 38)⟩])
 (.seq (.ops [⟨(some 39), none, .mv (.t 0)⟩, ⟨(some 40), none, .mv (.c (.int .i64 0))⟩])
 (.block 2 (.loop (.seq (.ops [⟨(some 41), none, .bin 0 .lss (.t 40) (.t 39)⟩])
 (.seq (.cond (.t 41) (.skip) (.exit 2))
 (.seq (.block 3 (.seq (.ops [⟨(some 42), none, .mv (.t 40)⟩, ⟨(some 10), none, .mv (.t 42)⟩])
 (.any [(⟨(some 43), none, .mv (.t 7)⟩, []), (⟨(some 44), none, .mv (.t 10)⟩, [0]), (⟨(some 45), none, .iadr 1 (.t 43) (.t 44)⟩, []), (⟨(some 46), none, .load none (.t 45)⟩, []), (⟨(some 47), none, .mv (.t 9)⟩, [0, 1, 2, 3]), (⟨(some 48), none, .mv (.t 10)⟩, [0, 1, 2, 3, 4]), (⟨(some 49), none, .idxs (.t 47) (.t 48)⟩, [0, 1, 2, 3]), (⟨(some 50), none, .bin 0 .sub (.t 49) (.c (.int .u8 48))⟩, [0, 1, 2, 3]), (⟨(some 51), none, .conv .u64 (.t 50)⟩, [0, 1, 2, 3]), (⟨(some 52), none, .mv (.t 8)⟩, [0, 1, 2, 3, 4, 5, 6, 7, 8]), (⟨(some 53), none, .bin 0 .shl (.t 51) (.t 52)⟩, [0, 1, 2, 3]), (⟨(some 54), none, .bin 0 .or (.t 46) (.t 53)⟩, []), (⟨(some 55), none, .iadr 1 (.t 43) (.t 44)⟩, []), (⟨none, none, .store 1 (.t 55) (.t 54)⟩, [])])))
 (.ops [⟨(some 56), none, .bin 0 .add (.t 40) (.c (.int .i64 1))⟩, ⟨(some 40), none, .mv (.t 56)⟩])))))))))
 (.ops [⟨(some 57), none, .bin 0 .add (.t 34) (.c (.int .i64 1))⟩, ⟨(some 34), none, .mv (.t 57)⟩])))))))
 (.seq (.ops [⟨(some 58), none, .mv (.t 1)⟩, ⟨(some 59), none, .len false (.t 58)⟩, ⟨(some 60), none, .bin 0 .shl (.c (.int .u64 1)) (.t 59)⟩, ⟨(some 61), none, .bin 0 .sub (.t 60) (.c (.int .u64 1))⟩, ⟨(some 11), none, .mv (.t 61)⟩])
 (.seq (.ops [⟨(some 63), none, .mv (.t 7)⟩, ⟨(some 64), none, .mv (.t 11)⟩, ⟨(some 65), none, .call 75 [(.t 63), (.t 64)]⟩, ⟨(some 62), none, .mv (.t 65)⟩, ⟨(some 66), none, .ext (.t 62) 0⟩, ⟨(some 67), none, .ext (.t 62) 1⟩, ⟨(some 12), none, .mv (.t 66)⟩, ⟨(some 13), none, .mv (.t 67)⟩])
 (.seq (.seq (.ops [⟨(some 68), none, .mv (.t 1)⟩, ⟨(some 69), none, .len false (.t 68)⟩, ⟨(some 70), none, .bin 0 .shl (.c (.int .u64 1)) (.t 69)⟩, ⟨(some 71), none, .mv (.c (.int .u64 0))⟩])
 (.block 4 (.loop (.seq (.ops [⟨(some 72), none, .bin 0 .lss (.t 71) (.t 70)⟩])
 (.seq (.cond (.t 72) (.skip) (.exit 4))
 (.seq (.block 5 (.seq (.ops [⟨(some 73), none, .mv (.t 71)⟩, ⟨(some 14), none, .mv (.t 73)⟩])
 (.seq (.ops [⟨(some 74), none, .mv (.t 14)⟩, ⟨(some 75), none, .call 76 [(.t 74)]⟩, ⟨(some 76), none, .mv (.t 11)⟩, ⟨(some 77), none, .call 76 [(.t 76)]⟩, ⟨(some 78), none, .bin 0 .sub (.t 75) (.t 77)⟩, ⟨(some 15), none, .mv (.t 78)⟩])
 (.seq (.seq (.ops [⟨(some 79), none, .mv (.t 14)⟩, ⟨(some 80), none, .mv (.t 11)⟩, ⟨(some 81), none, .bin 0 .xor (.t 79) (.t 80)⟩, ⟨(some 16), none, .mv (.t 81)⟩])
 (.seq (.ops [⟨(some 82), none, .mv (.t 15)⟩, ⟨(some 83), none, .bin 0 .gtr (.t 82) (.c (.int .i64 0))⟩, ⟨(some 84), none, .mv (.t 83)⟩, ⟨(some 85), (some (84, false)), .mv (.t 15)⟩, ⟨(some 86), (some (84, false)), .bin 0 .eql (.t 85) (.c (.int .i64 0))⟩, ⟨(some 87), (some (84, false)), .mv (.t 86)⟩, ⟨(some 88), (some (87, true)), .mv (.t 14)⟩, ⟨(some 89), (some (87, true)), .mv (.t 16)⟩, ⟨(some 90), (some (87, true)), .mv (.t 16)⟩, ⟨(some 91), (some (87, true)), .un .neg (.t 90)⟩, ⟨(some 92), (some (87, true)), .bin 0 .and (.t 89) (.t 91)⟩, ⟨(some 93), (some (87, true)), .bin 0 .and (.t 88) (.t 92)⟩, ⟨(some 94), (some (87, true)), .bin 0 .eql (.t 93) (.c (.int .u64 0))⟩, ⟨(some 95), (some (84, false)), .pick (.t 87) (.t 94) (.c (.bool false))⟩, ⟨(some 96), none, .pick (.t 84) (.c (.bool true)) (.t 95)⟩])
 (.cond (.t 96) (.exit 5) (.skip))))
 (.seq (.ops [⟨(some 98), none, .mv (.t 7)⟩, ⟨(some 99), none, .mv (.t 14)⟩, ⟨(some 100), none, .call 75 [(.t 98), (.t 99)]⟩, ⟨(some 97), none, .mv (.t 100)⟩, ⟨(some 101), none, .ext (.t 97) 0⟩, ⟨(some 102), none, .ext (.t 97) 1⟩, ⟨(some 17), none, .mv (.t 101)⟩, ⟨(some 18), none, .mv (.t 102)⟩])
 (.seq (.ops [⟨(some 103), none, .mv (.t 17)⟩, ⟨(some 104), none, .mv (.t 12)⟩, ⟨(some 105), none, .bin 0 .eql (.t 103) (.t 104)⟩, ⟨(some 106), none, .mv (.t 105)⟩, ⟨(some 107), (some (106, true)), .mv (.t 18)⟩, ⟨(some 108), (some (106, true)), .mv (.t 13)⟩, ⟨(some 109), (some (106, true)), .call 77 [(.t 107), (.t 108)]⟩, ⟨(some 110), none, .pick (.t 106) (.t 109) (.c (.bool false))⟩])
 (.cond (.t 110) (.ops [⟨(some 111), none, .mv (.t 14)⟩, ⟨(some 11), none, .mv (.t 111)⟩]) (.skip))))))))
 (.ops [⟨(some 112), none, .bin 0 .add (.t 71) (.c (.int .u64 1))⟩, ⟨(some 71), none, .mv (.t 112)⟩])))))))
 (.seq (.ops [⟨(some 19), none, .mv (.c (.lit true 0 []))⟩])
 (.seq (.seq (.ops [⟨(some 113), none, .mv (.t 1)⟩, ⟨(some 114), none, .len false (.t 113)⟩, ⟨(some 115), none, .mv (.c (.int .i64 0))⟩])
 (.block 6 (.loop (.seq (.ops [⟨(some 116), none, .bin 0 .lss (.t 115) (.t 114)⟩])
 (.seq (.cond (.t 116) (.skip) (.exit 6))
 (.seq (.block 7 (.seq (.ops [⟨(some 117), none, .mv (.t 115)⟩, ⟨(some 20), none, .mv (.t 117)⟩])
 (.seq (.ops [⟨(some 118), none, .mv (.t 11)⟩, ⟨(some 119), none, .mv (.t 20)⟩, ⟨(some 120), none, .bin 0 .shr (.t 118) (.t 119)⟩, ⟨(some 121), none, .bin 0 .and (.t 120) (.c (.int .u64 1))⟩, ⟨(some 122), none, .bin 0 .eql (.t 121) (.c (.int .u64 1))⟩])
 (.cond (.t 122) (.ops [⟨(some 123), none, .mv (.t 19)⟩, ⟨(some 124), none, .mv (.t 20)⟩, ⟨(some 125), none, .bslice 3 1 1 [(.int .i64 0)] [(0, 1, (.t 124))]⟩, ⟨(some 126), none, .app 3 1 8 (.t 123) (.t 125)⟩, ⟨(some 19), none, .mv (.t 126)⟩]) (.skip)))))
 (.ops [⟨(some 127), none, .bin 0 .add (.t 115) (.c (.int .i64 1))⟩, ⟨(some 115), none, .mv (.t 127)⟩])))))))
 (.seq (.ops [⟨(some 128), none, .mv (.t 19)⟩, ⟨(some 4), none, .mv (.t 128)⟩, ⟨(some 5), none, .mv (.c (.int .i64 0))⟩])
 (.ret)))))))))))⟩
theorem c15 : compF Go.Proofs.Tryd.prog 15 = some a15 := by kernel_rfl
def a16 : AFn := ⟨30, [.t 2, .t 3], .seq (.ops [⟨(some 1), none, .box 3 (.t 0)⟩, ⟨(some 2), none, .mv (.c (.lit true 0 []))⟩, ⟨(some 3), none, .mv (.c (.int .i64 0))⟩])
 (.seq (.seq (.ops [⟨(some 8), none, .load none (.t 1)⟩, ⟨(some 9), none, .call 78 [(.t 8)]⟩, ⟨(some 4), none, .mv (.t 9)⟩])
 (.seq (.ops [⟨(some 10), none, .mv (.t 4)⟩, ⟨(some 11), none, .bin 0 .neq (.t 10) (.c (.int .i64 0))⟩])
 (.cond (.t 11) (.seq (.ops [⟨(some 12), none, .mv (.t 4)⟩, ⟨(some 2), none, .mv (.c (.lit true 0 []))⟩, ⟨(some 3), none, .mv (.t 12)⟩])
 (.ret)) (.skip))))
 (.seq (.ops [⟨(some 13), none, .mkfn 80 [(.t 1)]⟩, ⟨(some 14), none, .call 79 [(.c (.int .i64 0)), (.t 13)]⟩, ⟨(some 5), none, .mv (.t 14)⟩])
 (.seq (.ops [⟨(some 6), none, .mv (.c (.lit true 0 []))⟩])
 (.seq (.seq (.ops [⟨(some 15), none, .load none (.t 1)⟩, ⟨(some 16), none, .mv (.c (.int .i64 0))⟩])
 (.block 0 (.loop (.seq (.ops [⟨(some 17), none, .bin 0 .lss (.t 16) (.t 15)⟩])
 (.seq (.cond (.t 17) (.skip) (.exit 0))
 (.seq (.block 1 (.seq (.ops [⟨(some 18), none, .mv (.t 16)⟩, ⟨(some 7), none, .mv (.t 18)⟩])
 (.ops [⟨(some 19), none, .mv (.t 6)⟩, ⟨(some 20), none, .mv (.t 7)⟩, ⟨(some 21), none, .bin 0 .add (.t 20) (.c (.int .i64 1))⟩, ⟨(some 22), none, .mv (.t 5)⟩, ⟨(some 23), none, .call 81 [(.t 21), (.t 22)]⟩, ⟨(some 24), none, .bslice 9 1 1 [(.str [])] [(0, 1, (.t 23))]⟩, ⟨(some 25), none, .app 9 1 16 (.t 19) (.t 24)⟩, ⟨(some 6), none, .mv (.t 25)⟩])))
 (.ops [⟨(some 26), none, .bin 0 .add (.t 16) (.c (.int .i64 1))⟩, ⟨(some 16), none, .mv (.t 26)⟩])))))))
 (.seq (.ops [⟨(some 27), none, .mv (.t 6)⟩, ⟨(some 28), none, .mv (.t 5)⟩, ⟨(some 29), none, .call 73 [(.t 27), (.t 28)]⟩, ⟨(some 2), none, .mv (.t 29)⟩, ⟨(some 3), none, .mv (.c (.int .i64 0))⟩])
 (.ret))))))⟩
theorem c16 : compF Go.Proofs.Tryd.prog 16 = some a16 := by kernel_rfl
def a20 : AFn := ⟨26, [.t 4], .seq (.ops [⟨(some 4), none, .mv (.c (.bool false))⟩])
 (.seq (.seq (.ops [⟨(some 6), none, .mv (.t 0)⟩, ⟨(some 7), none, .len false (.t 6)⟩, ⟨(some 8), none, .mv (.t 1)⟩, ⟨(some 9), none, .len false (.t 8)⟩, ⟨(some 10), none, .bin 0 .neq (.t 7) (.t 9)⟩])
 (.cond (.t 10) (.seq (.ops [⟨(some 4), none, .mv (.c (.bool false))⟩])
 (.ret)) (.skip)))
 (.seq (.seq (.ops [⟨(some 11), none, .mv (.t 0)⟩, ⟨(some 12), none, .len false (.t 11)⟩, ⟨(some 13), none, .mv (.c (.int .i64 0))⟩])
 (.block 0 (.loop (.seq (.ops [⟨(some 14), none, .bin 0 .lss (.t 13) (.t 12)⟩])
 (.seq (.cond (.t 14) (.skip) (.exit 0))
 (.seq (.block 1 (.seq (.ops [⟨(some 15), none, .mv (.t 13)⟩, ⟨(some 5), none, .mv (.t 15)⟩])
 (.seq (.any [(⟨(some 16), none, .mv (.t 0)⟩, []), (⟨(some 17), none, .mv (.t 5)⟩, [0]), (⟨(some 18), none, .iadr 1 (.t 16) (.t 17)⟩, []), (⟨(some 19), none, .load none (.t 18)⟩, []), (⟨(some 20), none, .mv (.t 1)⟩, [0, 1, 2, 3]), (⟨(some 21), none, .mv (.t 5)⟩, [0, 1, 2, 3, 4]), (⟨(some 22), none, .iadr 1 (.t 20) (.t 21)⟩, [0, 1, 2, 3]), (⟨(some 23), none, .load none (.t 22)⟩, [0, 1, 2, 3]), (⟨(some 24), none, .bin 1 .neq (.t 19) (.t 23)⟩, [])])
 (.cond (.t 24) (.seq (.ops [⟨(some 4), none, .mv (.c (.bool false))⟩])
 (.ret)) (.skip)))))
 (.ops [⟨(some 25), none, .bin 0 .add (.t 13) (.c (.int .i64 1))⟩, ⟨(some 13), none, .mv (.t 25)⟩])))))))
 (.seq (.ops [⟨(some 4), none, .mv (.c (.bool true))⟩])
 (.ret))))⟩
theorem c20 : compF Go.Proofs.Tryd.prog 20 = some a20 := by kernel_rfl
def a21 : AFn := ⟨50, [.t 0], .seq (.ops [⟨(some 0), none, .mv (.c (.bool false))⟩])
 (.seq (.ops [⟨(some 9), none, .call 82 [(.c (.int .i64 4)), (.c (.int .i64 1))]⟩, ⟨(some 8), none, .mv (.t 9)⟩, ⟨(some 10), none, .ext (.t 8) 0⟩, ⟨(some 11), none, .ext (.t 8) 1⟩, ⟨(some 1), none, .mv (.t 10)⟩, ⟨(some 2), none, .mv (.t 11)⟩])
 (.seq (.ops [⟨(some 13), none, .call 16 [(.c (.int .i64 3))]⟩, ⟨(some 12), none, .mv (.t 13)⟩, ⟨(some 14), none, .ext (.t 12) 0⟩, ⟨(some 15), none, .ext (.t 12) 1⟩, ⟨(some 3), none, .mv (.t 14)⟩, ⟨(some 4), none, .mv (.t 15)⟩])
 (.seq (.ops [⟨(some 17), none, .bslice 9 1 1 [(.str [])] [(0, 1, (.c (.str [49, 120])))]⟩, ⟨(some 18), none, .build [(.lit true 0 []), (.str [])] [(0, 1, (.t 17)), (1, 1, (.c (.str [49])))]⟩, ⟨(some 19), none, .call 83 [(.t 18)]⟩, ⟨(some 16), none, .mv (.t 19)⟩, ⟨(some 20), none, .ext (.t 16) 0⟩, ⟨(some 21), none, .ext (.t 16) 1⟩, ⟨(some 22), none, .ext (.t 16) 2⟩, ⟨(some 5), none, .alloc 61 [(.int .i64 0), (.int .i64 0)]⟩, ⟨none, none, .store 2 (.t 5) (.t 20)⟩, ⟨(some 6), none, .mv (.t 21)⟩, ⟨(some 7), none, .mv (.t 22)⟩])
 (.seq (.ops [⟨(some 23), none, .mv (.t 2)⟩, ⟨(some 24), none, .bin 0 .eql (.t 23) (.c (.int .i64 0))⟩, ⟨(some 25), none, .mv (.t 24)⟩, ⟨(some 26), (some (25, true)), .mv (.t 1)⟩, ⟨(some 27), (some (25, true)), .bin 1 .eql (.t 26) (.c (.str [49, 49, 48]))⟩, ⟨(some 28), none, .pick (.t 25) (.t 27) (.c (.bool false))⟩, ⟨(some 29), none, .mv (.t 28)⟩, ⟨(some 30), (some (29, true)), .mv (.t 4)⟩, ⟨(some 31), (some (29, true)), .bin 0 .eql (.t 30) (.c (.int .i64 0))⟩, ⟨(some 32), none, .pick (.t 29) (.t 31) (.c (.bool false))⟩, ⟨(some 33), none, .mv (.t 32)⟩, ⟨(some 34), (some (33, true)), .mv (.t 3)⟩, ⟨(some 35), (some (33, true)), .len false (.t 34)⟩, ⟨(some 36), (some (33, true)), .bin 0 .eql (.t 35) (.c (.int .i64 3))⟩, ⟨(some 37), none, .pick (.t 33) (.t 36) (.c (.bool false))⟩, ⟨(some 38), none, .mv (.t 37)⟩, ⟨(some 39), (some (38, true)), .mv (.t 7)⟩, ⟨(some 40), (some (38, true)), .bin 0 .eql (.t 39) (.c (.int .i64 0))⟩, ⟨(some 41), none, .pick (.t 38) (.t 40) (.c (.bool false))⟩, ⟨(some 42), none, .mv (.t 41)⟩, ⟨(some 43), (some (42, true)), .mv (.t 6)⟩, ⟨(some 44), none, .pick (.t 42) (.t 43) (.c (.bool false))⟩, ⟨(some 45), none, .mv (.t 44)⟩, ⟨(some 46), (some (45, true)), .load (some 2) (.t 5)⟩, ⟨(some 47), (some (45, true)), .build [(.int .i64 0), (.int .i64 0)] [(0, 1, (.c (.int .i64 1))), (1, 1, (.c (.int .i64 2)))]⟩, ⟨(some 48), (some (45, true)), .eqs false [0, 0] (.t 46) (.t 47)⟩, ⟨(some 49), none, .pick (.t 45) (.t 48) (.c (.bool false))⟩, ⟨(some 0), none, .mv (.t 49)⟩])
 (.ret)))))⟩
def a22 : AFn := ⟨73, [.t 4, .t 5], .seq (.ops [⟨(some 4), none, .mv (.c (.int .i64 0))⟩, ⟨(some 5), none, .mv (.c (.lit true 0 []))⟩])
 (.seq (.ops [⟨(some 9), none, .mv (.t 0)⟩, ⟨(some 10), none, .call 37 [(.t 9), (.c (.int .i64 1)), (.c (.int .i64 6))]⟩, ⟨(some 6), none, .mv (.t 10)⟩])
 (.seq (.ops [⟨(some 7), none, .mv (.c (.lit true 0 []))⟩])
 (.seq (.seq (.ops [⟨(some 11), none, .mv (.t 0)⟩, ⟨(some 12), none, .mv (.t 1)⟩, ⟨(some 13), none, .call 37 [(.t 11), (.c (.int .i64 0)), (.t 12)]⟩, ⟨(some 14), none, .mv (.c (.int .i64 0))⟩])
 (.block 0 (.loop (.seq (.ops [⟨(some 15), none, .bin 0 .lss (.t 14) (.t 13)⟩])
 (.seq (.cond (.t 15) (.skip) (.exit 0))
 (.seq (.block 1 (.ops [⟨(some 16), none, .mv (.t 7)⟩, ⟨(some 17), none, .mv (.t 0)⟩, ⟨(some 18), none, .mv (.t 6)⟩, ⟨(some 19), none, .call 84 [(.t 17), (.t 18)]⟩, ⟨(some 20), none, .bslice 9 1 1 [(.str [])] [(0, 1, (.t 19))]⟩, ⟨(some 21), none, .app 9 1 16 (.t 16) (.t 20)⟩, ⟨(some 7), none, .mv (.t 21)⟩]))
 (.ops [⟨(some 22), none, .bin 0 .add (.t 14) (.c (.int .i64 1))⟩, ⟨(some 14), none, .mv (.t 22)⟩])))))))
 (.seq (.seq (.ops [⟨(some 23), none, .mv (.t 7)⟩, ⟨(some 24), none, .len false (.t 23)⟩, ⟨(some 25), none, .bin 0 .gtr (.t 24) (.c (.int .i64 0))⟩, ⟨(some 26), none, .mv (.t 25)⟩, ⟨(some 27), (some (26, true)), .mv (.t 0)⟩, ⟨(some 28), (some (26, true)), .call 43 [(.t 27), (.c (.int .i64 4))]⟩, ⟨(some 29), none, .pick (.t 26) (.t 28) (.c (.bool false))⟩])
 (.cond (.t 29) (.ops [⟨(some 30), none, .mv (.t 7)⟩, ⟨(some 31), none, .mv (.t 7)⟩, ⟨(some 32), none, .iadr 1 (.t 31) (.c (.int .i64 0))⟩, ⟨(some 33), none, .load none (.t 32)⟩, ⟨(some 34), none, .bslice 9 1 1 [(.str [])] [(0, 1, (.t 33))]⟩, ⟨(some 35), none, .app 9 1 16 (.t 30) (.t 34)⟩, ⟨(some 7), none, .mv (.t 35)⟩]) (.skip)))
 (.seq (.seq (.ops [⟨(some 36), none, .mv (.t 7)⟩, ⟨(some 37), none, .len false (.t 36)⟩, ⟨(some 38), none, .bin 0 .gtr (.t 37) (.c (.int .i64 0))⟩, ⟨(some 39), none, .mv (.t 38)⟩, ⟨(some 40), (some (39, true)), .mv (.t 0)⟩, ⟨(some 41), (some (39, true)), .call 43 [(.t 40), (.c (.int .i64 12))]⟩, ⟨(some 42), none, .pick (.t 39) (.t 41) (.c (.bool false))⟩])
 (.cond (.t 42) (.seq (.ops [⟨(some 43), none, .mv (.t 0)⟩, ⟨(some 44), none, .mv (.t 7)⟩, ⟨(some 45), none, .len false (.t 44)⟩, ⟨(some 46), none, .call 85 [(.t 43), (.t 45)]⟩, ⟨(some 8), none, .mv (.t 46)⟩])
 (.any [(⟨(some 47), none, .mv (.t 7)⟩, []), (⟨(some 48), none, .mv (.t 8)⟩, [0]), (⟨(some 49), none, .mv (.t 0)⟩, [0, 1]), (⟨(some 50), none, .mv (.t 7)⟩, [0, 1, 2]), (⟨(some 51), none, .mv (.t 8)⟩, [0, 1, 2, 3]), (⟨(some 52), none, .iadr 1 (.t 50) (.t 51)⟩, [0, 1, 2]), (⟨(some 53), none, .load none (.t 52)⟩, [0, 1, 2]), (⟨(some 54), none, .mv (.t 0)⟩, [0, 1, 2, 3, 4, 5, 6]), (⟨(some 55), none, .mv (.t 6)⟩, [0, 1, 2, 3, 4, 5, 6, 7]), (⟨(some 56), none, .bin 0 .add (.t 55) (.c (.int .i64 1))⟩, [0, 1, 2, 3, 4, 5, 6, 7]), (⟨(some 57), none, .call 84 [(.t 54), (.t 56)]⟩, [0, 1, 2, 3, 4, 5, 6]), (⟨(some 58), none, .mv (.t 0)⟩, [0, 1, 2, 3, 4, 5, 6, 7, 8, 9, 10]), (⟨(some 59), none, .mv (.t 7)⟩, [0, 1, 2, 3, 4, 5, 6, 7, 8, 9, 10, 11]), (⟨(some 60), none, .mv (.t 8)⟩, [0, 1, 2, 3, 4, 5, 6, 7, 8, 9, 10, 11, 12]), (⟨(some 61), none, .iadr 1 (.t 59) (.t 60)⟩, [0, 1, 2, 3, 4, 5, 6, 7, 8, 9, 10, 11]), (⟨(some 62), none, .load none (.t 61)⟩, [0, 1, 2, 3, 4, 5, 6, 7, 8, 9, 10, 11]), (⟨(some 63), none, .call 87 [(.t 58), (.t 62), (.c (.str [50]))]⟩, [0, 1, 2, 3, 4, 5, 6]), (⟨(some 64), none, .bslice 9 1 4 [(.str [])] [(0, 1, (.t 53)), (1, 1, (.c (.str []))), (2, 1, (.t 57)), (3, 1, (.t 63))]⟩, [0, 1, 2]), (⟨(some 65), none, .call 86 [(.t 49), (.t 64)]⟩, [0, 1]), (⟨(some 66), none, .iadr 1 (.t 47) (.t 48)⟩, []), (⟨none, none, .store 1 (.t 66) (.t 65)⟩, [])])) (.skip)))
 (.seq (.seq (.ops [⟨(some 67), none, .mv (.t 0)⟩, ⟨(some 68), none, .call 43 [(.t 67), (.c (.int .i64 20))]⟩])
 (.cond (.t 68) (.ops [⟨(some 69), none, .mv (.t 0)⟩, ⟨(some 70), none, .call 57 [(.t 69), (.c (.int .i64 1)), (.c (.int .i64 100))]⟩, ⟨(some 6), none, .mv (.t 70)⟩]) (.skip)))
 (.seq (.ops [⟨(some 71), none, .mv (.t 6)⟩, ⟨(some 72), none, .mv (.t 7)⟩, ⟨(some 4), none, .mv (.t 71)⟩, ⟨(some 5), none, .mv (.t 72)⟩])
 (.ret))))))))⟩
theorem c22 : compF Go.Proofs.Tryd.prog 22 = some a22 := by kernel_rfl
def a24 : AFn := ⟨32, [.t 4], .seq (.ops [⟨(some 4), none, .mv (.c (.int .i64 0))⟩])
 (.seq (.block 0 (.seq (.ops [⟨(some 9), none, .mv (.t 0)⟩, ⟨(some 10), none, .call 89 [(.t 9), (.c (.int .i64 1)), (.c (.int .i64 100))]⟩, ⟨(some 11), none, .un .not (.t 10)⟩, ⟨(some 8), none, .mv (.t 11)⟩])
 (.cond (.t 8) (.seq (.ops [⟨(some 4), none, .mv (.c (.int .i64 1))⟩])
 (.ret)) (.seq (.ops [⟨(some 13), none, .mv (.t 1)⟩, ⟨(some 14), none, .len false (.t 13)⟩, ⟨(some 15), none, .bin 0 .gtr (.t 14) (.c (.int .i64 200))⟩, ⟨(some 12), none, .mv (.t 15)⟩])
 (.cond (.t 12) (.seq (.ops [⟨(some 4), none, .mv (.c (.int .i64 2))⟩])
 (.ret)) (.skip))))))
 (.seq (.seq (.ops [⟨(some 16), none, .mv (.t 1)⟩, ⟨(some 17), none, .len false (.t 16)⟩, ⟨(some 18), none, .mv (.c (.int .i64 0))⟩])
 (.block 1 (.loop (.seq (.ops [⟨(some 19), none, .bin 0 .lss (.t 18) (.t 17)⟩])
 (.seq (.cond (.t 19) (.skip) (.exit 1))
 (.seq (.block 2 (.seq (.ops [⟨(some 20), none, .iadr 1 (.t 16) (.t 18)⟩, ⟨(some 21), none, .load none (.t 20)⟩, ⟨(some 6), none, .mv (.t 21)⟩])
 (.seq (.seq (.ops [⟨(some 22), none, .mv (.t 6)⟩, ⟨(some 23), none, .len true (.t 22)⟩, ⟨(some 24), none, .mv (.t 0)⟩, ⟨(some 25), none, .bin 0 .neq (.t 23) (.t 24)⟩])
 (.cond (.t 25) (.seq (.ops [⟨(some 4), none, .mv (.c (.int .i64 3))⟩])
 (.ret)) (.skip)))
 (.seq (.ops [⟨(some 26), none, .mv (.t 6)⟩, ⟨(some 27), none, .call 90 [(.t 26)]⟩, ⟨(some 7), none, .mv (.t 27)⟩])
 (.seq (.ops [⟨(some 28), none, .mv (.t 7)⟩, ⟨(some 29), none, .bin 0 .neq (.t 28) (.c (.int .i64 0))⟩])
 (.cond (.t 29) (.seq (.ops [⟨(some 30), none, .mv (.t 7)⟩, ⟨(some 4), none, .mv (.t 30)⟩])
 (.ret)) (.skip)))))))
 (.ops [⟨(some 31), none, .bin 0 .add (.t 18) (.c (.int .i64 1))⟩, ⟨(some 18), none, .mv (.t 31)⟩])))))))
 (.seq (.ops [⟨(some 4), none, .mv (.c (.int .i64 0))⟩])
 (.ret))))⟩
theorem c24 : compF Go.Proofs.Tryd.prog 24 = some a24 := by kernel_rfl
def a26 : AFn := ⟨30, [.t 4], .seq (.ops [⟨(some 4), none, .mv (.c (.int .i64 0))⟩])
 (.seq (.block 0 (.seq (.ops [⟨(some 8), none, .mv (.t 0)⟩, ⟨(some 9), none, .call 91 [(.t 8), (.c (.int .i64 1)), (.c (.int .i64 100))]⟩, ⟨(some 7), none, .mv (.t 9)⟩])
 (.cond (.t 7) (.seq (.ops [⟨(some 4), none, .mv (.c (.int .i64 1))⟩])
 (.ret)) (.seq (.ops [⟨(some 11), none, .mv (.t 1)⟩, ⟨(some 12), none, .len false (.t 11)⟩, ⟨(some 13), none, .bin 0 .gtr (.t 12) (.c (.int .i64 200))⟩, ⟨(some 10), none, .mv (.t 13)⟩])
 (.cond (.t 10) (.seq (.ops [⟨(some 4), none, .mv (.c (.int .i64 2))⟩])
 (.ret)) (.skip))))))
 (.seq (.seq (.ops [⟨(some 14), none, .mv (.t 1)⟩, ⟨(some 15), none, .len false (.t 14)⟩, ⟨(some 16), none, .mv (.c (.int .i64 0))⟩])
 (.block 1 (.loop (.seq (.ops [⟨(some 17), none, .bin 0 .lss (.t 16) (.t 15)⟩])
 (.seq (.cond (.t 17) (.skip) (.exit 1))
 (.seq (.block 2 (.seq (.ops [⟨(some 18), none, .iadr 1 (.t 14) (.t 16)⟩, ⟨(some 19), none, .load none (.t 18)⟩, ⟨(some 6), none, .mv (.t 19)⟩])
 (.block 3 (.seq (.ops [⟨(some 21), none, .mv (.t 6)⟩, ⟨(some 22), none, .len true (.t 21)⟩, ⟨(some 23), none, .mv (.t 0)⟩, ⟨(some 24), none, .bin 0 .neq (.t 22) (.t 23)⟩, ⟨(some 20), none, .mv (.t 24)⟩])
 (.cond (.t 20) (.seq (.ops [⟨(some 4), none, .mv (.c (.int .i64 3))⟩])
 (.ret)) (.seq (.ops [⟨(some 26), none, .mv (.t 6)⟩, ⟨(some 27), none, .call 92 [(.t 26)]⟩, ⟨(some 28), none, .un .not (.t 27)⟩, ⟨(some 25), none, .mv (.t 28)⟩])
 (.cond (.t 25) (.seq (.ops [⟨(some 4), none, .mv (.c (.int .i64 9))⟩])
 (.ret)) (.skip))))))))
 (.ops [⟨(some 29), none, .bin 0 .add (.t 16) (.c (.int .i64 1))⟩, ⟨(some 16), none, .mv (.t 29)⟩])))))))
 (.seq (.ops [⟨(some 4), none, .mv (.c (.int .i64 0))⟩])
 (.ret))))⟩
theorem c26 : compF Go.Proofs.Tryd.prog 26 = some a26 := by kernel_rfl
def a37 : AFn := ⟨19, [.t 6], .seq (.ops [⟨(some 6), none, .mv (.c (.int .i64 0))⟩])
 (.seq (.seq (.ops [⟨(some 7), none, .mv (.t 2)⟩, ⟨(some 8), none, .mv (.t 1)⟩, ⟨(some 9), none, .bin 0 .lss (.t 7) (.t 8)⟩])
 (.cond (.t 9) (.seq (.ops [⟨(some 10), none, .mv (.t 1)⟩, ⟨(some 6), none, .mv (.t 10)⟩])
 (.ret)) (.skip)))
 (.seq (.ops [⟨(some 11), none, .mv (.t 1)⟩, ⟨(some 12), none, .mv (.t 0)⟩, ⟨(some 13), none, .mv (.t 2)⟩, ⟨(some 14), none, .mv (.t 1)⟩, ⟨(some 15), none, .bin 0 .sub (.t 13) (.t 14)⟩, ⟨(some 16), none, .bin 0 .add (.t 15) (.c (.int .i64 1))⟩, ⟨(some 17), none, .call 85 [(.t 12), (.t 16)]⟩, ⟨(some 18), none, .bin 0 .add (.t 11) (.t 17)⟩, ⟨(some 6), none, .mv (.t 18)⟩])
 (.ret)))⟩
theorem c37 : compF Go.Proofs.Tryd.prog 37 = some a37 := by kernel_rfl
def a39 : AFn := ⟨69, [.t 4, .t 5], .seq (.ops [⟨(some 4), none, .mv (.c (.lit true 0 []))⟩, ⟨(some 5), none, .mv (.c (.int .i64 0))⟩])
 (.seq (.seq (.ops [⟨(some 12), none, .mv (.t 0)⟩, ⟨(some 13), none, .mv (.t 1)⟩, ⟨(some 14), none, .call 102 [(.t 12), (.t 13)]⟩, ⟨(some 6), none, .mv (.t 14)⟩])
 (.seq (.ops [⟨(some 15), none, .mv (.t 6)⟩, ⟨(some 16), none, .bin 0 .neq (.t 15) (.c (.int .i64 0))⟩])
 (.cond (.t 16) (.seq (.ops [⟨(some 17), none, .mv (.t 6)⟩, ⟨(some 4), none, .mv (.c (.lit true 0 []))⟩, ⟨(some 5), none, .mv (.t 17)⟩])
 (.ret)) (.skip))))
 (.seq (.ops [⟨(some 7), none, .mv (.c (.lit true 0 []))⟩])
 (.seq (.seq (.ops [⟨(some 18), none, .mv (.t 1)⟩, ⟨(some 19), none, .len false (.t 18)⟩, ⟨(some 20), none, .mv (.c (.int .i64 0))⟩])
 (.block 0 (.loop (.seq (.ops [⟨(some 21), none, .bin 0 .lss (.t 20) (.t 19)⟩])
 (.seq (.cond (.t 21) (.skip) (.exit 0))
 (.seq (.block 1 (.seq (.ops [⟨(some 22), none, .iadr 1 (.t 18) (.t 20)⟩, ⟨(some 23), none, .load none (.t 22)⟩, ⟨(some 9), none, .mv (.t 23)⟩])
 (.seq (.ops [⟨(some 24), none, .mv (.t 0)⟩, ⟨(some 25), none, .mv (.c (.int .i64 0))⟩])
 (.block 2 (.loop (.seq (.ops [⟨(some 26), none, .bin 0 .lss (.t 25) (.t 24)⟩])
 (.seq (.cond (.t 26) (.skip) (.exit 2))
 (.seq (.block 3 (.seq (.ops [⟨(some 27), none, .mv (.t 25)⟩, ⟨(some 10), none, .mv (.t 27)⟩])
 (.seq (.seq (.ops [⟨(some 28), none, .mv (.t 9)⟩, ⟨(some 29), none, .call 103 [(.t 28)]⟩, ⟨(some 30), none, .un .not (.t 29)⟩])
 (.cond (.t 30) (.seq (.ops [⟨(some 31), none, .mv (.t 7)⟩, ⟨(some 32), none, .mv (.t 9)⟩, ⟨(some 33), none, .mv (.t 10)⟩, ⟨(some 34), none, .bslit 1 1 [(.int .i64 0)] [(0, 1, (.t 33))]⟩, ⟨(some 35), none, .build [(.int .i64 0), (.lit true 0 [])] [(0, 1, (.t 32)), (1, 1, (.t 34))]⟩, ⟨(some 36), none, .bslit 2 1 [(.int .i64 0), (.lit true 0 [])] [(0, 2, (.t 35))]⟩, ⟨(some 37), none, .app 128 2 32 (.t 31) (.t 36)⟩, ⟨(some 7), none, .mv (.t 37)⟩])
 (.exit 3)) (.skip)))
 (.seq (.ops [⟨(some 38), none, .mv (.t 0)⟩, ⟨(some 39), none, .mv (.c (.int .i64 0))⟩])
 (.block 4 (.loop (.seq (.ops [⟨(some 40), none, .bin 0 .lss (.t 39) (.t 38)⟩])
 (.seq (.cond (.t 40) (.skip) (.exit 4))
 (.seq (.block 5 (.seq (.ops [⟨(some 41), none, .mv (.t 39)⟩, ⟨(some 11), none, .mv (.t 41)⟩])
 (.seq (.ops [⟨(some 42), none, .mv (.t 11)⟩, ⟨(some 43), none, .mv (.t 10)⟩, ⟨(some 44), none, .bin 0 .gtr (.t 42) (.t 43)⟩, ⟨(some 45), none, .mv (.t 44)⟩, ⟨(some 46), (some (45, false)), .mv (.t 11)⟩, ⟨(some 47), (some (45, false)), .mv (.t 10)⟩, ⟨(some 48), (some (45, false)), .bin 0 .lss (.t 46) (.t 47)⟩, ⟨(some 49), (some (45, false)), .mv (.t 48)⟩, ⟨(some 50), (some (49, true)), .mv (.t 9)⟩, ⟨(some 51), (some (49, true)), .bin 0 .eql (.t 50) (.c (.int .i64 5))⟩, ⟨(some 52), (some (45, false)), .pick (.t 49) (.t 51) (.c (.bool false))⟩, ⟨(some 53), none, .pick (.t 45) (.c (.bool true)) (.t 52)⟩])
 (.cond (.t 53) (.ops [⟨(some 54), none, .mv (.t 7)⟩, ⟨(some 55), none, .mv (.t 9)⟩, ⟨(some 56), none, .mv (.t 10)⟩, ⟨(some 57), none, .mv (.t 11)⟩, ⟨(some 58), none, .bslit 1 2 [(.int .i64 0)] [(0, 1, (.t 56)), (1, 1, (.t 57))]⟩, ⟨(some 59), none, .build [(.int .i64 0), (.lit true 0 [])] [(0, 1, (.t 55)), (1, 1, (.t 58))]⟩, ⟨(some 60), none, .bslit 2 1 [(.int .i64 0), (.lit true 0 [])] [(0, 2, (.t 59))]⟩, ⟨(some 61), none, .app 128 2 32 (.t 54) (.t 60)⟩, ⟨(some 7), none, .mv (.t 61)⟩]) (.skip)))))
 (.ops [⟨(some 62), none, .bin 0 .add (.t 39) (.c (.int .i64 1))⟩, ⟨(some 39), none, .mv (.t 62)⟩]))))))))))
 (.ops [⟨(some 63), none, .bin 0 .add (.t 25) (.c (.int .i64 1))⟩, ⟨(some 25), none, .mv (.t 63)⟩])))))))))
 (.ops [⟨(some 64), none, .bin 0 .add (.t 20) (.c (.int .i64 1))⟩, ⟨(some 20), none, .mv (.t 64)⟩])))))))
 (.seq (.seq (.ops [⟨(some 65), none, .mv (.t 7)⟩, ⟨(some 66), none, .len false (.t 65)⟩, ⟨(some 67), none, .bin 0 .gtr (.t 66) (.c (.int .i64 20000))⟩])
 (.cond (.t 67) (.seq (.ops [⟨(some 4), none, .mv (.c (.lit true 0 []))⟩, ⟨(some 5), none, .mv (.c (.int .i64 2))⟩])
 (.ret)) (.skip)))
 (.seq (.ops [⟨(some 68), none, .mv (.t 7)⟩, ⟨(some 4), none, .mv (.t 68)⟩, ⟨(some 5), none, .mv (.c (.int .i64 0))⟩])
 (.ret))))))⟩
theorem c39 : compF Go.Proofs.Tryd.prog 39 = some a39 := by kernel_rfl
def a40 : AFn := ⟨33, [.t 4, .t 5], .seq (.ops [⟨(some 4), none, .mv (.c (.lit true 0 []))⟩, ⟨(some 5), none, .mv (.c (.int .i64 0))⟩])
 (.seq (.seq (.ops [⟨(some 10), none, .mv (.t 0)⟩, ⟨(some 11), none, .mv (.t 1)⟩, ⟨(some 12), none, .call 104 [(.t 10), (.t 11)]⟩, ⟨(some 6), none, .mv (.t 12)⟩])
 (.seq (.ops [⟨(some 13), none, .mv (.t 6)⟩, ⟨(some 14), none, .bin 0 .neq (.t 13) (.c (.int .i64 0))⟩])
 (.cond (.t 14) (.seq (.ops [⟨(some 15), none, .mv (.t 6)⟩, ⟨(some 4), none, .mv (.c (.lit true 0 []))⟩, ⟨(some 5), none, .mv (.t 15)⟩])
 (.ret)) (.skip))))
 (.seq (.ops [⟨(some 7), none, .mv (.c (.lit true 0 []))⟩])
 (.seq (.seq (.ops [⟨(some 16), none, .mv (.t 0)⟩, ⟨(some 17), none, .mv (.t 1)⟩, ⟨(some 18), none, .call 105 [(.t 16), (.t 17)]⟩, ⟨(some 19), none, .len false (.t 18)⟩, ⟨(some 20), none, .mv (.c (.int .i64 0))⟩])
 (.block 0 (.loop (.seq (.ops [⟨(some 21), none, .bin 0 .lss (.t 20) (.t 19)⟩])
 (.seq (.cond (.t 21) (.skip) (.exit 0))
 (.seq (.block 1 (.seq (.ops [⟨(some 22), none, .mv (.t 20)⟩, ⟨(some 23), none, .iadr 1 (.t 18) (.t 20)⟩, ⟨(some 24), none, .load none (.t 23)⟩, ⟨(some 8), none, .mv (.t 22)⟩, ⟨(some 9), none, .mv (.t 24)⟩])
 (.seq (.ops [⟨(some 25), none, .mv (.t 9)⟩, ⟨(some 26), none, .bin 0 .eql (.t 25) (.c (.int .u64 0))⟩])
 (.cond (.t 26) (.ops [⟨(some 27), none, .mv (.t 7)⟩, ⟨(some 28), none, .mv (.t 8)⟩, ⟨(some 29), none, .bslice 3 1 1 [(.int .i64 0)] [(0, 1, (.t 28))]⟩, ⟨(some 30), none, .app 3 1 8 (.t 27) (.t 29)⟩, ⟨(some 7), none, .mv (.t 30)⟩]) (.skip)))))
 (.ops [⟨(some 31), none, .bin 0 .add (.t 20) (.c (.int .i64 1))⟩, ⟨(some 20), none, .mv (.t 31)⟩])))))))
 (.seq (.ops [⟨(some 32), none, .mv (.t 7)⟩, ⟨(some 4), none, .mv (.t 32)⟩, ⟨(some 5), none, .mv (.c (.int .i64 0))⟩])
 (.ret)))))⟩
theorem c40 : compF Go.Proofs.Tryd.prog 40 = some a40 := by kernel_rfl
def a42 : AFn := ⟨28, [.t 0], .seq (.ops [⟨(some 0), none, .mv (.c (.bool false))⟩])
 (.seq (.ops [⟨(some 6), none, .call 82 [(.c (.int .i64 4)), (.c (.int .i64 1))]⟩, ⟨(some 5), none, .mv (.t 6)⟩, ⟨(some 7), none, .ext (.t 5) 0⟩, ⟨(some 8), none, .ext (.t 5) 1⟩, ⟨(some 1), none, .mv (.t 7)⟩, ⟨(some 2), none, .mv (.t 8)⟩])
 (.seq (.ops [⟨(some 10), none, .call 16 [(.c (.int .i64 3))]⟩, ⟨(some 9), none, .mv (.t 10)⟩, ⟨(some 11), none, .ext (.t 9) 0⟩, ⟨(some 12), none, .ext (.t 9) 1⟩, ⟨(some 3), none, .mv (.t 11)⟩, ⟨(some 4), none, .mv (.t 12)⟩])
 (.seq (.ops [⟨(some 13), none, .mv (.t 2)⟩, ⟨(some 14), none, .bin 0 .eql (.t 13) (.c (.int .i64 0))⟩, ⟨(some 15), none, .mv (.t 14)⟩, ⟨(some 16), (some (15, true)), .mv (.t 1)⟩, ⟨(some 17), (some (15, true)), .bin 1 .eql (.t 16) (.c (.str [49, 49, 48]))⟩, ⟨(some 18), none, .pick (.t 15) (.t 17) (.c (.bool false))⟩, ⟨(some 19), none, .mv (.t 18)⟩, ⟨(some 20), (some (19, true)), .mv (.t 4)⟩, ⟨(some 21), (some (19, true)), .bin 0 .eql (.t 20) (.c (.int .i64 0))⟩, ⟨(some 22), none, .pick (.t 19) (.t 21) (.c (.bool false))⟩, ⟨(some 23), none, .mv (.t 22)⟩, ⟨(some 24), (some (23, true)), .mv (.t 3)⟩, ⟨(some 25), (some (23, true)), .bslice 9 1 3 [(.str [])] [(0, 1, (.c (.str [48, 48, 48]))), (1, 1, (.c (.str [48, 49, 49]))), (2, 1, (.c (.str [49, 48, 49])))]⟩, ⟨(some 26), (some (23, true)), .call 20 [(.t 24), (.t 25)]⟩, ⟨(some 27), none, .pick (.t 23) (.t 26) (.c (.bool false))⟩, ⟨(some 0), none, .mv (.t 27)⟩])
 (.ret))))⟩
theorem c42 : compF Go.Proofs.Tryd.prog 42 = some a42 := by kernel_rfl
def a43 : AFn := ⟨9, [.t 4], .seq (.ops [⟨(some 4), none, .mv (.c (.bool false))⟩])
 (.seq (.ops [⟨(some 5), none, .mv (.t 0)⟩, ⟨(some 6), none, .mv (.t 1)⟩, ⟨(some 7), none, .call 85 [(.t 5), (.t 6)]⟩, ⟨(some 8), none, .bin 0 .eql (.t 7) (.c (.int .i64 0))⟩, ⟨(some 4), none, .mv (.t 8)⟩])
 (.ret))⟩
theorem c43 : compF Go.Proofs.Tryd.prog 43 = some a43 := by kernel_rfl
def a46 : AFn := ⟨7, [.t 4], .seq (.ops [⟨(some 4), none, .mv (.c (.int .i64 0))⟩])
 (.seq (.seq (.ops [⟨(some 5), none, .mv (.t 0)⟩])
 (.cond (.t 5) (.seq (.ops [⟨(some 6), none, .mv (.t 1)⟩, ⟨(some 4), none, .mv (.t 6)⟩])
 (.ret)) (.skip)))
 (.seq (.ops [⟨(some 4), none, .mv (.c (.int .i64 0))⟩])
 (.ret)))⟩
def a47 : AFn := ⟨26, [.t 4], .seq (.ops [⟨(some 4), none, .mv (.c (.bool false))⟩])
 (.seq (.seq (.ops [⟨(some 6), none, .mv (.t 0)⟩, ⟨(some 7), none, .len false (.t 6)⟩, ⟨(some 8), none, .mv (.t 1)⟩, ⟨(some 9), none, .len false (.t 8)⟩, ⟨(some 10), none, .bin 0 .neq (.t 7) (.t 9)⟩])
 (.cond (.t 10) (.seq (.ops [⟨(some 4), none, .mv (.c (.bool false))⟩])
 (.ret)) (.skip)))
 (.seq (.seq (.ops [⟨(some 11), none, .mv (.t 0)⟩, ⟨(some 12), none, .len false (.t 11)⟩, ⟨(some 13), none, .mv (.c (.int .i64 0))⟩])
 (.block 0 (.loop (.seq (.ops [⟨(some 14), none, .bin 0 .lss (.t 13) (.t 12)⟩])
 (.seq (.cond (.t 14) (.skip) (.exit 0))
 (.seq (.block 1 (.seq (.ops [⟨(some 15), none, .mv (.t 13)⟩, ⟨(some 5), none, .mv (.t 15)⟩])
 (.seq (.any [(⟨(some 16), none, .mv (.t 0)⟩, []), (⟨(some 17), none, .mv (.t 5)⟩, [0]), (⟨(some 18), none, .iadr 1 (.t 16) (.t 17)⟩, []), (⟨(some 19), none, .load none (.t 18)⟩, []), (⟨(some 20), none, .mv (.t 1)⟩, [0, 1, 2, 3]), (⟨(some 21), none, .mv (.t 5)⟩, [0, 1, 2, 3, 4]), (⟨(some 22), none, .iadr 1 (.t 20) (.t 21)⟩, [0, 1, 2, 3]), (⟨(some 23), none, .load none (.t 22)⟩, [0, 1, 2, 3]), (⟨(some 24), none, .bin 0 .neq (.t 19) (.t 23)⟩, [])])
 (.cond (.t 24) (.seq (.ops [⟨(some 4), none, .mv (.c (.bool false))⟩])
 (.ret)) (.skip)))))
 (.ops [⟨(some 25), none, .bin 0 .add (.t 13) (.c (.int .i64 1))⟩, ⟨(some 13), none, .mv (.t 25)⟩])))))))
 (.seq (.ops [⟨(some 4), none, .mv (.c (.bool true))⟩])
 (.ret))))⟩
theorem c47 : compF Go.Proofs.Tryd.prog 47 = some a47 := by kernel_rfl
def a57 : AFn := ⟨22, [.t 6], .seq (.ops [⟨(some 6), none, .mv (.c (.int .i64 0))⟩])
 (.seq (.seq (.ops [⟨(some 7), none, .mv (.t 0)⟩, ⟨(some 8), none, .call 43 [(.t 7), (.c (.int .i64 12))]⟩])
 (.cond (.t 8) (.seq (.ops [⟨(some 9), none, .mv (.t 0)⟩, ⟨(some 10), none, .mv (.t 1)⟩, ⟨(some 11), none, .bin 0 .sub (.t 10) (.c (.int .i64 1))⟩, ⟨(some 12), none, .mv (.t 2)⟩, ⟨(some 13), none, .bin 0 .add (.t 12) (.c (.int .i64 1))⟩, ⟨(some 14), none, .mv (.t 1)⟩, ⟨(some 15), none, .mv (.t 2)⟩, ⟨(some 16), none, .bslice 3 1 6 [(.int .i64 0)] [(0, 1, (.t 11)), (1, 1, (.t 13)), (2, 1, (.t 14)), (3, 1, (.t 15)), (4, 1, (.c (.int .i64 (-1099511627776)))), (5, 1, (.c (.int .i64 1099511627776)))]⟩, ⟨(some 17), none, .call 58 [(.t 9), (.t 16)]⟩, ⟨(some 6), none, .mv (.t 17)⟩])
 (.ret)) (.skip)))
 (.seq (.ops [⟨(some 18), none, .mv (.t 0)⟩, ⟨(some 19), none, .mv (.t 1)⟩, ⟨(some 20), none, .mv (.t 2)⟩, ⟨(some 21), none, .call 37 [(.t 18), (.t 19), (.t 20)]⟩, ⟨(some 6), none, .mv (.t 21)⟩])
 (.ret)))⟩
theorem c57 : compF Go.Proofs.Tryd.prog 57 = some a57 := by kernel_rfl
def a58 : AFn := ⟨12, [.t 4], .seq (.ops [⟨(some 4), none, .mv (.c (.int .i64 0))⟩])
 (.seq (.ops [⟨(some 5), none, .mv (.t 1)⟩, ⟨(some 6), none, .mv (.t 0)⟩, ⟨(some 7), none, .mv (.t 1)⟩, ⟨(some 8), none, .len false (.t 7)⟩, ⟨(some 9), none, .call 85 [(.t 6), (.t 8)]⟩, ⟨(some 10), none, .iadr 1 (.t 5) (.t 9)⟩, ⟨(some 11), none, .load none (.t 10)⟩, ⟨(some 4), none, .mv (.t 11)⟩])
 (.ret))⟩
theorem c58 : compF Go.Proofs.Tryd.prog 58 = some a58 := by kernel_rfl
def a73 : AFn := ⟨38, [.t 4], .seq (.ops [⟨(some 4), none, .mv (.c (.lit true 0 []))⟩])
 (.seq (.ops [⟨(some 5), none, .mv (.c (.lit true 0 []))⟩])
 (.seq (.seq (.ops [⟨(some 10), none, .mv (.t 1)⟩, ⟨(some 11), none, .mv (.c (.int .i64 0))⟩])
 (.block 0 (.loop (.seq (.ops [⟨(some 12), none, .bin 0 .lss (.t 11) (.t 10)⟩])
 (.seq (.cond (.t 12) (.skip) (.exit 0))
 (.seq (.block 1 (.seq (.ops [⟨(some 13), none, .mv (.t 11)⟩, ⟨(some 6), none, .mv (.t 13)⟩])
 (.seq (.ops [⟨(some 14), none, .mv (.t 0)⟩, ⟨(some 15), none, .len false (.t 14)⟩, ⟨(some 16), none, .mks 5 1 1 [(.int .u8 0)] (.t 15)⟩, ⟨(some 7), none, .mv (.t 16)⟩])
 (.seq (.seq (.ops [⟨(some 17), none, .mv (.t 0)⟩, ⟨(some 18), none, .len false (.t 17)⟩, ⟨(some 19), none, .mv (.c (.int .i64 0))⟩])
 (.block 2 (.loop (.seq (.ops [⟨(some 20), none, .bin 0 .lss (.t 19) (.t 18)⟩])
 (.seq (.cond (.t 20) (.skip) (.exit 2))
 (.seq (.block 3 (.seq (.ops [⟨(some 21), none, .mv (.t 19)⟩, ⟨(some 22), none, .iadr 1 (.t 17) (.t 19)⟩, ⟨(some 23), none, .load none (.t 22)⟩, ⟨(some 8), none, .mv (.t 21)⟩, ⟨(some 9), none, .mv (.t 23)⟩])
 (.ops [⟨(some 24), none, .mv (.t 7)⟩, ⟨(some 25), none, .mv (.t 8)⟩, ⟨(some 26), none, .mv (.t 9)⟩, ⟨(some 27), none, .mv (.t 6)⟩, ⟨(some 28), none, .idxs (.t 26) (.t 27)⟩, ⟨(some 29), none, .iadr 1 (.t 24) (.t 25)⟩, ⟨none, none, .store 1 (.t 29) (.t 28)⟩])))
 (.ops [⟨(some 30), none, .bin 0 .add (.t 19) (.c (.int .i64 1))⟩, ⟨(some 19), none, .mv (.t 30)⟩])))))))
 (.ops [⟨(some 31), none, .mv (.t 5)⟩, ⟨(some 32), none, .mv (.t 7)⟩, ⟨(some 33), none, .b2s (.t 32)⟩, ⟨(some 34), none, .bslice 9 1 1 [(.str [])] [(0, 1, (.t 33))]⟩, ⟨(some 35), none, .app 9 1 16 (.t 31) (.t 34)⟩, ⟨(some 5), none, .mv (.t 35)⟩])))))
 (.ops [⟨(some 36), none, .bin 0 .add (.t 11) (.c (.int .i64 1))⟩, ⟨(some 11), none, .mv (.t 36)⟩])))))))
 (.seq (.ops [⟨(some 37), none, .mv (.t 5)⟩, ⟨(some 4), none, .mv (.t 37)⟩])
 (.ret))))⟩
theorem c73 : compF Go.Proofs.Tryd.prog 73 = some a73 := by kernel_rfl
def a75 : AFn := ⟨38, [.t 4, .t 5], .seq (.ops [⟨(some 4), none, .mv (.c (.int .i64 0))⟩, ⟨(some 5), none, .mv (.c (.lit true 0 []))⟩])
 (.seq (.ops [⟨(some 9), none, .mmk (.i .u64) (.bool false)⟩, ⟨(some 6), none, .mv (.t 9)⟩])
 (.seq (.seq (.ops [⟨(some 10), none, .mv (.t 0)⟩, ⟨(some 11), none, .len false (.t 10)⟩, ⟨(some 12), none, .mv (.c (.int .i64 0))⟩])
 (.block 0 (.loop (.seq (.ops [⟨(some 13), none, .bin 0 .lss (.t 12) (.t 11)⟩])
 (.seq (.cond (.t 13) (.skip) (.exit 0))
 (.seq (.block 1 (.seq (.ops [⟨(some 14), none, .iadr 1 (.t 10) (.t 12)⟩, ⟨(some 15), none, .load none (.t 14)⟩, ⟨(some 8), none, .mv (.t 15)⟩])
 (.seq (.ops [⟨(some 16), none, .mv (.t 6)⟩, ⟨(some 17), none, .mv (.t 8)⟩, ⟨(some 18), none, .mv (.t 1)⟩, ⟨(some 19), none, .bin 0 .and (.t 17) (.t 18)⟩, ⟨none, none, .mup (.i .u64) (.t 16) (.t 19) (.c (.bool true))⟩])
 (.ops [⟨(some 20), none, .mv (.t 5)⟩, ⟨(some 21), none, .mv (.t 8)⟩, ⟨(some 22), none, .mv (.t 1)⟩, ⟨(some 23), none, .bin 0 .and (.t 21) (.t 22)⟩, ⟨(some 24), none, .bin 0 .neq (.t 23) (.c (.int .u64 0))⟩, ⟨(some 25), none, .mv (.t 24)⟩, ⟨(some 26), (some (25, true)), .mv (.t 8)⟩, ⟨(some 27), (some (25, true)), .mv (.t 1)⟩, ⟨(some 28), (some (25, true)), .bin 0 .and (.t 26) (.t 27)⟩, ⟨(some 29), (some (25, true)), .mv (.t 1)⟩, ⟨(some 30), (some (25, true)), .bin 0 .neq (.t 28) (.t 29)⟩, ⟨(some 31), none, .pick (.t 25) (.t 30) (.c (.bool false))⟩, ⟨(some 32), none, .bslice 4 1 1 [(.bool false)] [(0, 1, (.t 31))]⟩, ⟨(some 33), none, .app 4 1 1 (.t 20) (.t 32)⟩, ⟨(some 5), none, .mv (.t 33)⟩]))))
 (.ops [⟨(some 34), none, .bin 0 .add (.t 12) (.c (.int .i64 1))⟩, ⟨(some 12), none, .mv (.t 34)⟩])))))))
 (.seq (.ops [⟨(some 35), none, .mv (.t 6)⟩, ⟨(some 36), none, .mlen (.t 35)⟩, ⟨(some 37), none, .mv (.t 5)⟩, ⟨(some 4), none, .mv (.t 36)⟩, ⟨(some 5), none, .mv (.t 37)⟩])
 (.ret))))⟩
theorem c75 : compF Go.Proofs.Tryd.prog 75 = some a75 := by kernel_rfl
def a76 : AFn := ⟨8, [.t 2], .seq (.ops [⟨(some 2), none, .mv (.c (.int .i64 0))⟩])
 (.seq (.cond (.c (.bool false)) (.seq (.ops [⟨(some 3), none, .mv (.t 0)⟩, ⟨(some 4), none, .conv .u32 (.t 3)⟩, ⟨(some 5), none, .call 130 [(.t 4)]⟩, ⟨(some 2), none, .mv (.t 5)⟩])
 (.ret)) (.skip))
 (.seq (.ops [⟨(some 6), none, .mv (.t 0)⟩, ⟨(some 7), none, .call 131 [(.t 6)]⟩, ⟨(some 2), none, .mv (.t 7)⟩])
 (.ret)))⟩
theorem c76 : compF Go.Proofs.Tryd.prog 76 = some a76 := by kernel_rfl
def a77 : AFn := ⟨26, [.t 4], .seq (.ops [⟨(some 4), none, .mv (.c (.bool false))⟩])
 (.seq (.seq (.ops [⟨(some 6), none, .mv (.t 0)⟩, ⟨(some 7), none, .len false (.t 6)⟩, ⟨(some 8), none, .mv (.t 1)⟩, ⟨(some 9), none, .len false (.t 8)⟩, ⟨(some 10), none, .bin 0 .neq (.t 7) (.t 9)⟩])
 (.cond (.t 10) (.seq (.ops [⟨(some 4), none, .mv (.c (.bool false))⟩])
 (.ret)) (.skip)))
 (.seq (.seq (.ops [⟨(some 11), none, .mv (.t 0)⟩, ⟨(some 12), none, .len false (.t 11)⟩, ⟨(some 13), none, .mv (.c (.int .i64 0))⟩])
 (.block 0 (.loop (.seq (.ops [⟨(some 14), none, .bin 0 .lss (.t 13) (.t 12)⟩])
 (.seq (.cond (.t 14) (.skip) (.exit 0))
 (.seq (.block 1 (.seq (.ops [⟨(some 15), none, .mv (.t 13)⟩, ⟨(some 5), none, .mv (.t 15)⟩])
 (.seq (.any [(⟨(some 16), none, .mv (.t 0)⟩, []), (⟨(some 17), none, .mv (.t 5)⟩, [0]), (⟨(some 18), none, .iadr 1 (.t 16) (.t 17)⟩, []), (⟨(some 19), none, .load none (.t 18)⟩, []), (⟨(some 20), none, .mv (.t 1)⟩, [0, 1, 2, 3]), (⟨(some 21), none, .mv (.t 5)⟩, [0, 1, 2, 3, 4]), (⟨(some 22), none, .iadr 1 (.t 20) (.t 21)⟩, [0, 1, 2, 3]), (⟨(some 23), none, .load none (.t 22)⟩, [0, 1, 2, 3]), (⟨(some 24), none, .bin 2 .neq (.t 19) (.t 23)⟩, [])])
 (.cond (.t 24) (.seq (.ops [⟨(some 4), none, .mv (.c (.bool false))⟩])
 (.ret)) (.skip)))))
 (.ops [⟨(some 25), none, .bin 0 .add (.t 13) (.c (.int .i64 1))⟩, ⟨(some 13), none, .mv (.t 25)⟩])))))))
 (.seq (.ops [⟨(some 4), none, .mv (.c (.bool true))⟩])
 (.ret))))⟩
theorem c77 : compF Go.Proofs.Tryd.prog 77 = some a77 := by kernel_rfl
def a78 : AFn := ⟨5, [.t 2], .seq (.ops [⟨(some 2), none, .mv (.c (.int .i64 0))⟩])
 (.seq (.seq (.ops [⟨(some 3), none, .mv (.t 0)⟩, ⟨(some 4), none, .call 91 [(.t 3), (.c (.int .i64 1)), (.c (.int .i64 100))]⟩])
 (.cond (.t 4) (.seq (.ops [⟨(some 2), none, .mv (.c (.int .i64 1))⟩])
 (.ret)) (.skip)))
 (.seq (.ops [⟨(some 2), none, .mv (.c (.int .i64 0))⟩])
 (.ret)))⟩
theorem c78 : compF Go.Proofs.Tryd.prog 78 = some a78 := by kernel_rfl
def a79 : AFn := ⟨12, [.t 4], .seq (.ops [⟨(some 4), none, .mv (.c (.int .i64 0))⟩])
 (.seq (.block 0 (.loop (.seq (.seq (.ops [⟨(some 5), none, .mv (.t 1)⟩, ⟨(some 6), none, .mv (.t 0)⟩, ⟨(some 7), none, .callv (.t 5) [(.t 6)]⟩, ⟨(some 8), none, .un .not (.t 7)⟩])
 (.cond (.t 8) (.skip) (.exit 0)))
 (.block 1 (.ops [⟨(some 9), none, .mv (.t 0)⟩, ⟨(some 10), none, .bin 0 .add (.t 9) (.c (.int .i64 1))⟩, ⟨(some 0), none, .mv (.t 10)⟩])))))
 (.seq (.ops [⟨(some 11), none, .mv (.t 0)⟩, ⟨(some 4), none, .mv (.t 11)⟩])
 (.ret)))⟩
theorem c79 : compF Go.Proofs.Tryd.prog 79 = some a79 := by kernel_rfl
def a80 : AFn := ⟨9, [.t 3], .seq (.ops [⟨(some 3), none, .mv (.c (.bool false))⟩])
 (.seq (.any [(⟨(some 4), none, .mv (.t 0)⟩, []), (⟨(some 5), none, .bin 0 .shl (.c (.int .i64 1)) (.t 4)⟩, []), (⟨(some 6), none, .bin 0 .sub (.t 5) (.c (.int .i64 2))⟩, []), (⟨(some 7), none, .load none (.t 1)⟩, [0, 1, 2]), (⟨(some 8), none, .bin 0 .geq (.t 6) (.t 7)⟩, []), (⟨(some 3), none, .mv (.t 8)⟩, [])])
 (.ret))⟩
theorem c80 : compF Go.Proofs.Tryd.prog 80 = some a80 := by kernel_rfl
def a81 : AFn := ⟨24, [.t 4], .seq (.ops [⟨(some 4), none, .mv (.c (.str []))⟩])
 (.seq (.ops [⟨(some 5), none, .mv (.c (.lit true 0 []))⟩])
 (.seq (.seq (.ops [⟨(some 7), none, .mv (.t 1)⟩, ⟨(some 8), none, .bin 0 .sub (.t 7) (.c (.int .i64 1))⟩, ⟨(some 6), none, .mv (.t 8)⟩])
 (.block 0 (.loop (.seq (.seq (.ops [⟨(some 9), none, .mv (.t 6)⟩, ⟨(some 10), none, .bin 0 .geq (.t 9) (.c (.int .i64 0))⟩])
 (.cond (.t 10) (.skip) (.exit 0)))
 (.seq (.block 1 (.ops [⟨(some 13), none, .mv (.t 5)⟩, ⟨(some 14), none, .mv (.t 0)⟩, ⟨(some 15), none, .mv (.t 6)⟩, ⟨(some 16), none, .bin 0 .shr (.t 14) (.t 15)⟩, ⟨(some 17), none, .bin 0 .and (.t 16) (.c (.int .i64 1))⟩, ⟨(some 18), none, .bin 0 .add (.c (.int .i64 48)) (.t 17)⟩, ⟨(some 19), none, .conv .u8 (.t 18)⟩, ⟨(some 20), none, .bslice 5 1 1 [(.int .u8 0)] [(0, 1, (.t 19))]⟩, ⟨(some 21), none, .app 5 1 1 (.t 13) (.t 20)⟩, ⟨(some 5), none, .mv (.t 21)⟩]))
 (.ops [⟨(some 11), none, .mv (.t 6)⟩, ⟨(some 12), none, .bin 0 .sub (.t 11) (.c (.int .i64 1))⟩, ⟨(some 6), none, .mv (.t 12)⟩]))))))
 (.seq (.ops [⟨(some 22), none, .mv (.t 5)⟩, ⟨(some 23), none, .b2s (.t 22)⟩, ⟨(some 4), none, .mv (.t 23)⟩])
 (.ret))))⟩
theorem c81 : compF Go.Proofs.Tryd.prog 81 = some a81 := by kernel_rfl
def a82 : AFn := ⟨17, [.t 4, .t 5], .seq (.ops [⟨(some 4), none, .mv (.c (.str []))⟩, ⟨(some 5), none, .mv (.c (.int .i64 0))⟩])
 (.seq (.seq (.ops [⟨(some 6), none, .mv (.t 0)⟩, ⟨(some 7), none, .call 132 [(.t 6)]⟩, ⟨(some 8), none, .un .not (.t 7)⟩, ⟨(some 9), none, .mv (.t 8)⟩, ⟨(some 10), (some (9, false)), .mv (.t 1)⟩, ⟨(some 11), (some (9, false)), .call 132 [(.t 10)]⟩, ⟨(some 12), (some (9, false)), .un .not (.t 11)⟩, ⟨(some 13), none, .pick (.t 9) (.c (.bool true)) (.t 12)⟩])
 (.cond (.t 13) (.seq (.ops [⟨(some 4), none, .mv (.c (.str []))⟩, ⟨(some 5), none, .mv (.c (.int .i64 1))⟩])
 (.ret)) (.skip)))
 (.seq (.ops [⟨(some 14), none, .mv (.t 0)⟩, ⟨(some 15), none, .mv (.t 1)⟩, ⟨(some 16), none, .call 133 [(.t 14), (.t 15)]⟩, ⟨(some 4), none, .mv (.t 16)⟩, ⟨(some 5), none, .mv (.c (.int .i64 0))⟩])
 (.ret)))⟩
theorem c82 : compF Go.Proofs.Tryd.prog 82 = some a82 := by kernel_rfl
def a84 : AFn := ⟨16, [.t 4], .seq (.ops [⟨(some 4), none, .mv (.c (.str []))⟩])
 (.seq (.ops [⟨(some 5), none, .mv (.c (.str []))⟩])
 (.seq (.seq (.ops [⟨(some 6), none, .mv (.t 1)⟩, ⟨(some 7), none, .mv (.c (.int .i64 0))⟩])
 (.block 0 (.loop (.seq (.ops [⟨(some 8), none, .bin 0 .lss (.t 7) (.t 6)⟩])
 (.seq (.cond (.t 8) (.skip) (.exit 0))
 (.seq (.block 1 (.ops [⟨(some 9), none, .mv (.t 5)⟩, ⟨(some 10), none, .mv (.t 0)⟩, ⟨(some 11), none, .bslice 9 1 2 [(.str [])] [(0, 1, (.c (.str [48]))), (1, 1, (.c (.str [49])))]⟩, ⟨(some 12), none, .call 86 [(.t 10), (.t 11)]⟩, ⟨(some 13), none, .bin 1 .add (.t 9) (.t 12)⟩, ⟨(some 5), none, .mv (.t 13)⟩]))
 (.ops [⟨(some 14), none, .bin 0 .add (.t 7) (.c (.int .i64 1))⟩, ⟨(some 7), none, .mv (.t 14)⟩])))))))
 (.seq (.ops [⟨(some 15), none, .mv (.t 5)⟩, ⟨(some 4), none, .mv (.t 15)⟩])
 (.ret))))⟩
theorem c84 : compF Go.Proofs.Tryd.prog 84 = some a84 := by kernel_rfl
def a85 : AFn := ⟨64, [.t 4], .seq (.ops [⟨(some 4), none, .mv (.c (.int .i64 0))⟩])
 (.seq (.ops [⟨(some 7), none, .mv (.t 0)⟩, ⟨(some 8), none, .nilchk (.t 7)⟩, ⟨(some 9), none, .fadr 1 (.t 8)⟩, ⟨(some 10), none, .load none (.t 9)⟩, ⟨(some 11), none, .bin 0 .add (.t 10) (.c (.int .i64 1))⟩, ⟨(some 12), none, .nilchk (.t 7)⟩, ⟨(some 13), none, .fadr 1 (.t 12)⟩, ⟨none, none, .store 1 (.t 13) (.t 11)⟩])
 (.seq (.seq (.ops [⟨(some 14), none, .mv (.t 0)⟩, ⟨(some 15), none, .nilchk (.t 14)⟩, ⟨(some 16), none, .fadr 0 (.t 15)⟩, ⟨(some 17), none, .load none (.t 16)⟩, ⟨(some 18), none, .len false (.t 17)⟩, ⟨(some 19), none, .bin 0 .eql (.t 18) (.c (.int .i64 0))⟩])
 (.cond (.t 19) (.seq (.ops [⟨(some 20), none, .mv (.t 0)⟩, ⟨(some 21), none, .nilchk (.t 20)⟩, ⟨(some 22), none, .fadr 1 (.t 21)⟩, ⟨(some 23), none, .load none (.t 22)⟩, ⟨(some 24), none, .bin 0 .mul (.t 23) (.c (.int .i64 7919))⟩, ⟨(some 25), none, .mv (.t 1)⟩, ⟨(some 26), none, .call 137 [(.t 24), (.t 25)]⟩, ⟨(some 4), none, .mv (.t 26)⟩])
 (.ret)) (.skip)))
 (.seq (.any [(⟨(some 27), none, .mv (.t 0)⟩, []), (⟨(some 28), none, .nilchk (.t 27)⟩, []), (⟨(some 29), none, .fadr 1 (.t 28)⟩, []), (⟨(some 30), none, .load none (.t 29)⟩, []), (⟨(some 31), none, .bin 0 .sub (.t 30) (.c (.int .i64 1))⟩, []), (⟨(some 32), none, .mv (.t 0)⟩, [0, 1, 2, 3, 4]), (⟨(some 33), none, .nilchk (.t 32)⟩, [0, 1, 2, 3, 4]), (⟨(some 34), none, .fadr 0 (.t 33)⟩, [0, 1, 2, 3, 4]), (⟨(some 35), none, .load none (.t 34)⟩, [0, 1, 2, 3, 4]), (⟨(some 36), none, .len false (.t 35)⟩, [0, 1, 2, 3, 4]), (⟨(some 37), none, .bin 0 .rem (.t 31) (.t 36)⟩, []), (⟨(some 5), none, .mv (.t 37)⟩, [])])
 (.seq (.any [(⟨(some 38), none, .mv (.t 0)⟩, []), (⟨(some 39), none, .nilchk (.t 38)⟩, []), (⟨(some 40), none, .fadr 1 (.t 39)⟩, []), (⟨(some 41), none, .load none (.t 40)⟩, []), (⟨(some 42), none, .bin 0 .sub (.t 41) (.c (.int .i64 1))⟩, []), (⟨(some 43), none, .mv (.t 0)⟩, [0, 1, 2, 3, 4]), (⟨(some 44), none, .nilchk (.t 43)⟩, [0, 1, 2, 3, 4]), (⟨(some 45), none, .fadr 0 (.t 44)⟩, [0, 1, 2, 3, 4]), (⟨(some 46), none, .load none (.t 45)⟩, [0, 1, 2, 3, 4]), (⟨(some 47), none, .len false (.t 46)⟩, [0, 1, 2, 3, 4]), (⟨(some 48), none, .bin 0 .quo (.t 42) (.t 47)⟩, []), (⟨(some 6), none, .mv (.t 48)⟩, [])])
 (.seq (.ops [⟨(some 49), none, .mv (.t 0)⟩, ⟨(some 50), none, .nilchk (.t 49)⟩, ⟨(some 51), none, .fadr 0 (.t 50)⟩, ⟨(some 52), none, .load none (.t 51)⟩, ⟨(some 53), none, .mv (.t 5)⟩, ⟨(some 54), none, .iadr 1 (.t 52) (.t 53)⟩, ⟨(some 55), none, .load none (.t 54)⟩, ⟨(some 56), none, .call 137 [(.t 55), (.c (.int .i64 1073741824))]⟩, ⟨(some 57), none, .mv (.t 6)⟩, ⟨(some 58), none, .mv (.t 5)⟩, ⟨(some 59), none, .bin 0 .add (.c (.int .i64 7919)) (.t 58)⟩, ⟨(some 60), none, .bin 0 .mul (.t 57) (.t 59)⟩, ⟨(some 61), none, .bin 0 .add (.t 56) (.t 60)⟩, ⟨(some 62), none, .mv (.t 1)⟩, ⟨(some 63), none, .call 137 [(.t 61), (.t 62)]⟩, ⟨(some 4), none, .mv (.t 63)⟩])
 (.ret))))))⟩
theorem c85 : compF Go.Proofs.Tryd.prog 85 = some a85 := by kernel_rfl
def a86 : AFn := ⟨12, [.t 4], .seq (.ops [⟨(some 4), none, .mv (.c (.str []))⟩])
 (.seq (.ops [⟨(some 5), none, .mv (.t 1)⟩, ⟨(some 6), none, .mv (.t 0)⟩, ⟨(some 7), none, .mv (.t 1)⟩, ⟨(some 8), none, .len false (.t 7)⟩, ⟨(some 9), none, .call 85 [(.t 6), (.t 8)]⟩, ⟨(some 10), none, .iadr 1 (.t 5) (.t 9)⟩, ⟨(some 11), none, .load none (.t 10)⟩, ⟨(some 4), none, .mv (.t 11)⟩])
 (.ret))⟩
theorem c86 : compF Go.Proofs.Tryd.prog 86 = some a86 := by kernel_rfl
def a87 : AFn := ⟨63, [.t 6], .seq (.ops [⟨(some 6), none, .mv (.c (.str []))⟩])
 (.seq (.seq (.ops [⟨(some 9), none, .mv (.t 1)⟩, ⟨(some 10), none, .bin 1 .eql (.t 9) (.c (.str []))⟩, ⟨(some 11), none, .mv (.t 10)⟩, ⟨(some 12), (some (11, false)), .mv (.t 2)⟩, ⟨(some 13), (some (11, false)), .bin 1 .eql (.t 12) (.c (.str []))⟩, ⟨(some 14), none, .pick (.t 11) (.c (.bool true)) (.t 13)⟩])
 (.cond (.t 14) (.seq (.ops [⟨(some 15), none, .mv (.t 2)⟩, ⟨(some 6), none, .mv (.t 15)⟩])
 (.ret)) (.skip)))
 (.seq (.ops [⟨(some 16), none, .mv (.t 0)⟩, ⟨(some 17), none, .mv (.t 1)⟩, ⟨(some 18), none, .len true (.t 17)⟩, ⟨(some 19), none, .call 85 [(.t 16), (.t 18)]⟩, ⟨(some 7), none, .mv (.t 19)⟩])
 (.seq (.ops [⟨(some 20), none, .mv (.t 2)⟩, ⟨(some 21), none, .mv (.t 0)⟩, ⟨(some 22), none, .mv (.t 2)⟩, ⟨(some 23), none, .len true (.t 22)⟩, ⟨(some 24), none, .call 85 [(.t 21), (.t 23)]⟩, ⟨(some 25), none, .idxs (.t 20) (.t 24)⟩, ⟨(some 8), none, .mv (.t 25)⟩])
 (.seq (.seq (.ops [⟨(some 26), none, .mv (.t 0)⟩, ⟨(some 27), none, .call 85 [(.t 26), (.c (.int .i64 3))]⟩])
 (.block 0 (.seq (.ops [⟨(some 29), none, .bin 0 .eql (.t 27) (.c (.int .i64 0))⟩, ⟨(some 28), none, .mv (.t 29)⟩])
 (.cond (.t 28) (.seq (.any [(⟨(some 30), none, .mv (.t 1)⟩, []), (⟨(some 31), none, .mv (.t 7)⟩, [0]), (⟨(some 32), none, .sls (.t 30) none (some (.t 31))⟩, []), (⟨(some 33), none, .mv (.t 8)⟩, [0, 1, 2]), (⟨(some 34), none, .conv .i32 (.t 33)⟩, [0, 1, 2]), (⟨(some 35), none, .i2s (.t 34)⟩, [0, 1, 2]), (⟨(some 36), none, .bin 1 .add (.t 32) (.t 35)⟩, []), (⟨(some 37), none, .mv (.t 1)⟩, [0, 1, 2, 3, 4, 5, 6]), (⟨(some 38), none, .mv (.t 7)⟩, [0, 1, 2, 3, 4, 5, 6, 7]), (⟨(some 39), none, .bin 0 .add (.t 38) (.c (.int .i64 1))⟩, [0, 1, 2, 3, 4, 5, 6, 7]), (⟨(some 40), none, .sls (.t 37) (some (.t 39)) none⟩, [0, 1, 2, 3, 4, 5, 6]), (⟨(some 41), none, .bin 1 .add (.t 36) (.t 40)⟩, []), (⟨(some 6), none, .mv (.t 41)⟩, [])])
 (.ret)) (.seq (.ops [⟨(some 43), none, .bin 0 .eql (.t 27) (.c (.int .i64 1))⟩, ⟨(some 42), none, .mv (.t 43)⟩])
 (.cond (.t 42) (.seq (.any [(⟨(some 44), none, .mv (.t 1)⟩, []), (⟨(some 45), none, .mv (.t 7)⟩, [0]), (⟨(some 46), none, .sls (.t 44) none (some (.t 45))⟩, []), (⟨(some 47), none, .mv (.t 8)⟩, [0, 1, 2]), (⟨(some 48), none, .conv .i32 (.t 47)⟩, [0, 1, 2]), (⟨(some 49), none, .i2s (.t 48)⟩, [0, 1, 2]), (⟨(some 50), none, .bin 1 .add (.t 46) (.t 49)⟩, []), (⟨(some 51), none, .mv (.t 1)⟩, [0, 1, 2, 3, 4, 5, 6]), (⟨(some 52), none, .mv (.t 7)⟩, [0, 1, 2, 3, 4, 5, 6, 7]), (⟨(some 53), none, .sls (.t 51) (some (.t 52)) none⟩, [0, 1, 2, 3, 4, 5, 6]), (⟨(some 54), none, .bin 1 .add (.t 50) (.t 53)⟩, []), (⟨(some 6), none, .mv (.t 54)⟩, [])])
 (.ret)) (.skip)))))))
 (.seq (.any [(⟨(some 55), none, .mv (.t 1)⟩, []), (⟨(some 56), none, .mv (.t 7)⟩, [0]), (⟨(some 57), none, .sls (.t 55) none (some (.t 56))⟩, []), (⟨(some 58), none, .mv (.t 1)⟩, [0, 1, 2]), (⟨(some 59), none, .mv (.t 7)⟩, [0, 1, 2, 3]), (⟨(some 60), none, .bin 0 .add (.t 59) (.c (.int .i64 1))⟩, [0, 1, 2, 3]), (⟨(some 61), none, .sls (.t 58) (some (.t 60)) none⟩, [0, 1, 2]), (⟨(some 62), none, .bin 1 .add (.t 57) (.t 61)⟩, []), (⟨(some 6), none, .mv (.t 62)⟩, [])])
 (.ret))))))⟩
theorem c87 : compF Go.Proofs.Tryd.prog 87 = some a87 := by kernel_rfl
def a89 : AFn := ⟨15, [.t 6], .seq (.ops [⟨(some 6), none, .mv (.c (.bool false))⟩])
 (.seq (.ops [⟨(some 7), none, .mv (.t 1)⟩, ⟨(some 8), none, .mv (.t 0)⟩, ⟨(some 9), none, .bin 0 .leq (.t 7) (.t 8)⟩, ⟨(some 10), none, .mv (.t 9)⟩, ⟨(some 11), (some (10, true)), .mv (.t 0)⟩, ⟨(some 12), (some (10, true)), .mv (.t 2)⟩, ⟨(some 13), (some (10, true)), .bin 0 .leq (.t 11) (.t 12)⟩, ⟨(some 14), none, .pick (.t 10) (.t 13) (.c (.bool false))⟩, ⟨(some 6), none, .mv (.t 14)⟩])
 (.ret))⟩
theorem c89 : compF Go.Proofs.Tryd.prog 89 = some a89 := by kernel_rfl
def a90 : AFn := ⟨6, [.t 2], .seq (.ops [⟨(some 2), none, .mv (.c (.int .i64 0))⟩])
 (.seq (.seq (.ops [⟨(some 3), none, .mv (.t 0)⟩, ⟨(some 4), none, .call 138 [(.t 3), (.c (.str [48, 49]))]⟩, ⟨(some 5), none, .bin 1 .neq (.t 4) (.c (.str []))⟩])
 (.cond (.t 5) (.seq (.ops [⟨(some 2), none, .mv (.c (.int .i64 9))⟩])
 (.ret)) (.skip)))
 (.seq (.ops [⟨(some 2), none, .mv (.c (.int .i64 0))⟩])
 (.ret)))⟩
theorem c90 : compF Go.Proofs.Tryd.prog 90 = some a90 := by kernel_rfl
def a91 : AFn := ⟨15, [.t 6], .seq (.ops [⟨(some 6), none, .mv (.c (.bool false))⟩])
 (.seq (.ops [⟨(some 7), none, .mv (.t 0)⟩, ⟨(some 8), none, .mv (.t 1)⟩, ⟨(some 9), none, .bin 0 .lss (.t 7) (.t 8)⟩, ⟨(some 10), none, .mv (.t 9)⟩, ⟨(some 11), (some (10, false)), .mv (.t 0)⟩, ⟨(some 12), (some (10, false)), .mv (.t 2)⟩, ⟨(some 13), (some (10, false)), .bin 0 .gtr (.t 11) (.t 12)⟩, ⟨(some 14), none, .pick (.t 10) (.c (.bool true)) (.t 13)⟩, ⟨(some 6), none, .mv (.t 14)⟩])
 (.ret))⟩
theorem c91 : compF Go.Proofs.Tryd.prog 91 = some a91 := by kernel_rfl
def a92 : AFn := ⟨6, [.t 2], .seq (.ops [⟨(some 2), none, .mv (.c (.bool false))⟩])
 (.seq (.ops [⟨(some 3), none, .mv (.t 0)⟩, ⟨(some 4), none, .call 138 [(.t 3), (.c (.str [48, 49]))]⟩, ⟨(some 5), none, .bin 1 .eql (.t 4) (.c (.str []))⟩, ⟨(some 2), none, .mv (.t 5)⟩])
 (.ret))⟩
theorem c92 : compF Go.Proofs.Tryd.prog 92 = some a92 := by kernel_rfl
def a102 : AFn := ⟨37, [.t 4], .seq (.ops [⟨(some 4), none, .mv (.c (.int .i64 0))⟩])
 (.seq (.block 0 (.seq (.ops [⟨(some 8), none, .mv (.t 0)⟩, ⟨(some 9), none, .call 91 [(.t 8), (.c (.int .i64 1)), (.c (.int .i64 100))]⟩, ⟨(some 7), none, .mv (.t 9)⟩])
 (.cond (.t 7) (.seq (.ops [⟨(some 4), none, .mv (.c (.int .i64 1))⟩])
 (.ret)) (.seq (.ops [⟨(some 11), none, .mv (.t 1)⟩, ⟨(some 12), none, .len false (.t 11)⟩, ⟨(some 13), none, .bin 0 .gtr (.t 12) (.c (.int .i64 6))⟩, ⟨(some 10), none, .mv (.t 13)⟩])
 (.cond (.t 10) (.seq (.ops [⟨(some 4), none, .mv (.c (.int .i64 2))⟩])
 (.ret)) (.skip))))))
 (.seq (.seq (.ops [⟨(some 14), none, .mv (.t 1)⟩, ⟨(some 15), none, .len false (.t 14)⟩, ⟨(some 16), none, .mv (.c (.int .i64 0))⟩])
 (.block 1 (.loop (.seq (.ops [⟨(some 17), none, .bin 0 .lss (.t 16) (.t 15)⟩])
 (.seq (.cond (.t 17) (.skip) (.exit 1))
 (.seq (.block 2 (.seq (.ops [⟨(some 18), none, .mv (.t 16)⟩, ⟨(some 19), none, .iadr 1 (.t 14) (.t 16)⟩, ⟨(some 20), none, .load none (.t 19)⟩, ⟨(some 5), none, .mv (.t 18)⟩, ⟨(some 6), none, .mv (.t 20)⟩])
 (.block 3 (.seq (.ops [⟨(some 22), none, .mv (.t 6)⟩, ⟨(some 23), none, .call 91 [(.t 22), (.c (.int .i64 1)), (.c (.int .i64 6))]⟩, ⟨(some 21), none, .mv (.t 23)⟩])
 (.cond (.t 21) (.seq (.ops [⟨(some 4), none, .mv (.c (.int .i64 4))⟩])
 (.ret)) (.seq (.ops [⟨(some 25), none, .mv (.t 5)⟩, ⟨(some 26), none, .bin 0 .gtr (.t 25) (.c (.int .i64 0))⟩, ⟨(some 27), none, .mv (.t 26)⟩, ⟨(some 28), (some (27, true)), .mv (.t 6)⟩, ⟨(some 29), (some (27, true)), .mv (.t 1)⟩, ⟨(some 30), (some (27, true)), .mv (.t 5)⟩, ⟨(some 31), (some (27, true)), .bin 0 .sub (.t 30) (.c (.int .i64 1))⟩, ⟨(some 32), (some (27, true)), .iadr 1 (.t 29) (.t 31)⟩, ⟨(some 33), (some (27, true)), .load none (.t 32)⟩, ⟨(some 34), (some (27, true)), .bin 0 .leq (.t 28) (.t 33)⟩, ⟨(some 35), none, .pick (.t 27) (.t 34) (.c (.bool false))⟩, ⟨(some 24), none, .mv (.t 35)⟩])
 (.cond (.t 24) (.seq (.ops [⟨(some 4), none, .mv (.c (.int .i64 7))⟩])
 (.ret)) (.skip))))))))
 (.ops [⟨(some 36), none, .bin 0 .add (.t 16) (.c (.int .i64 1))⟩, ⟨(some 16), none, .mv (.t 36)⟩])))))))
 (.seq (.ops [⟨(some 4), none, .mv (.c (.int .i64 0))⟩])
 (.ret))))⟩
theorem c102 : compF Go.Proofs.Tryd.prog 102 = some a102 := by kernel_rfl
def a103 : AFn := ⟨6, [.t 2], .seq (.ops [⟨(some 2), none, .mv (.c (.bool false))⟩])
 (.seq (.ops [⟨(some 3), none, .mv (.t 0)⟩, ⟨(some 4), none, .call 91 [(.t 3), (.c (.int .i64 3)), (.c (.int .i64 5))]⟩, ⟨(some 5), none, .un .not (.t 4)⟩, ⟨(some 2), none, .mv (.t 5)⟩])
 (.ret))⟩
theorem c103 : compF Go.Proofs.Tryd.prog 103 = some a103 := by kernel_rfl
def a104 : AFn := ⟨17, [.t 4], .seq (.ops [⟨(some 4), none, .mv (.c (.int .i64 0))⟩])
 (.seq (.seq (.ops [⟨(some 6), none, .mv (.t 0)⟩, ⟨(some 7), none, .call 142 [(.t 6)]⟩, ⟨(some 5), none, .mv (.t 7)⟩])
 (.seq (.ops [⟨(some 8), none, .mv (.t 5)⟩, ⟨(some 9), none, .bin 0 .neq (.t 8) (.c (.int .i64 0))⟩])
 (.cond (.t 9) (.seq (.ops [⟨(some 10), none, .mv (.t 5)⟩, ⟨(some 4), none, .mv (.t 10)⟩])
 (.ret)) (.skip))))
 (.seq (.seq (.ops [⟨(some 11), none, .mv (.t 1)⟩, ⟨(some 12), none, .len false (.t 11)⟩, ⟨(some 13), none, .bin 0 .gtr (.t 12) (.c (.int .i64 20000))⟩])
 (.cond (.t 13) (.seq (.ops [⟨(some 4), none, .mv (.c (.int .i64 2))⟩])
 (.ret)) (.skip)))
 (.seq (.ops [⟨(some 14), none, .mv (.t 0)⟩, ⟨(some 15), none, .mv (.t 1)⟩, ⟨(some 16), none, .call 143 [(.t 14), (.t 15)]⟩, ⟨(some 4), none, .mv (.t 16)⟩])
 (.ret))))⟩
theorem c104 : compF Go.Proofs.Tryd.prog 104 = some a104 := by kernel_rfl
def a105 : AFn := ⟨29, [.t 4], .seq (.ops [⟨(some 4), none, .mv (.c (.lit true 0 []))⟩])
 (.seq (.ops [⟨(some 9), none, .mv (.t 0)⟩, ⟨(some 10), none, .call 144 [(.t 9)]⟩, ⟨(some 5), none, .mv (.t 10)⟩])
 (.seq (.ops [⟨(some 6), none, .mv (.c (.lit true 0 []))⟩])
 (.seq (.seq (.ops [⟨(some 11), none, .mv (.t 1)⟩, ⟨(some 12), none, .len false (.t 11)⟩, ⟨(some 13), none, .mv (.c (.int .i64 0))⟩])
 (.block 0 (.loop (.seq (.ops [⟨(some 14), none, .bin 0 .lss (.t 13) (.t 12)⟩])
 (.seq (.cond (.t 14) (.skip) (.exit 0))
 (.seq (.block 1 (.seq (.ops [⟨(some 15), none, .iadr 2 (.t 11) (.t 13)⟩, ⟨(some 16), none, .load (some 2) (.t 15)⟩, ⟨(some 8), none, .alloc 128 [(.int .i64 0), (.lit true 0 [])]⟩, ⟨none, none, .store 2 (.t 8) (.t 16)⟩])
 (.any [(⟨(some 17), none, .mv (.t 6)⟩, []), (⟨(some 18), none, .mv (.t 5)⟩, [0]), (⟨(some 19), none, .load (some 2) (.t 8)⟩, [0, 1]), (⟨(some 20), none, .mv (.t 0)⟩, [0, 1, 2]), (⟨(some 21), none, .iadr 1 (.t 20) (.c (.int .i64 0))⟩, [0, 1, 2]), (⟨(some 22), none, .load none (.t 21)⟩, [0, 1, 2]), (⟨(some 23), none, .len true (.t 22)⟩, [0, 1, 2]), (⟨(some 24), none, .call 145 [(.t 18), (.t 19), (.t 23)]⟩, [0]), (⟨(some 25), none, .bslice 132 1 1 [(.int .u64 0)] [(0, 1, (.t 24))]⟩, [0]), (⟨(some 26), none, .app 132 1 8 (.t 17) (.t 25)⟩, []), (⟨(some 6), none, .mv (.t 26)⟩, [])])))
 (.ops [⟨(some 27), none, .bin 0 .add (.t 13) (.c (.int .i64 1))⟩, ⟨(some 13), none, .mv (.t 27)⟩])))))))
 (.seq (.ops [⟨(some 28), none, .mv (.t 6)⟩, ⟨(some 4), none, .mv (.t 28)⟩])
 (.ret)))))⟩
theorem c105 : compF Go.Proofs.Tryd.prog 105 = some a105 := by kernel_rfl
def a116 : AFn := ⟨9, [.t 4], .seq (.ops [⟨(some 4), none, .mv (.c (.bool false))⟩])
 (.seq (.ops [⟨(some 5), none, .mv (.t 0)⟩, ⟨(some 6), none, .mv (.t 1)⟩, ⟨(some 7), none, .call 155 [(.t 5), (.t 6)]⟩, ⟨(some 8), none, .bin 0 .geq (.t 7) (.c (.int .i64 0))⟩, ⟨(some 4), none, .mv (.t 8)⟩])
 (.ret))⟩
theorem c116 : compF Go.Proofs.Tryd.prog 116 = some a116 := by kernel_rfl
def a117 : AFn := ⟨24, [.t 4], .seq (.ops [⟨(some 4), none, .mv (.c (.int .i64 0))⟩])
 (.seq (.ops [⟨(some 5), none, .mv (.c (.int .i64 0))⟩])
 (.seq (.seq (.ops [⟨(some 7), none, .mv (.t 0)⟩, ⟨(some 8), none, .len true (.t 7)⟩, ⟨(some 9), none, .mv (.c (.int .i64 0))⟩])
 (.block 0 (.loop (.seq (.ops [⟨(some 10), none, .bin 0 .lss (.t 9) (.t 8)⟩])
 (.seq (.cond (.t 10) (.skip) (.exit 0))
 (.seq (.block 1 (.seq (.ops [⟨(some 11), none, .mv (.t 9)⟩, ⟨(some 6), none, .mv (.t 11)⟩])
 (.any [(⟨(some 12), none, .mv (.t 5)⟩, []), (⟨(some 13), none, .mv (.t 0)⟩, [0]), (⟨(some 14), none, .mv (.t 6)⟩, [0, 1]), (⟨(some 15), none, .idxs (.t 13) (.t 14)⟩, [0]), (⟨(some 16), none, .mv (.t 1)⟩, [0, 1, 2, 3]), (⟨(some 17), none, .mv (.t 6)⟩, [0, 1, 2, 3, 4]), (⟨(some 18), none, .idxs (.t 16) (.t 17)⟩, [0, 1, 2, 3]), (⟨(some 19), none, .bin 0 .neq (.t 15) (.t 18)⟩, [0]), (⟨(some 20), none, .call 156 [(.t 19)]⟩, [0]), (⟨(some 21), none, .bin 0 .add (.t 12) (.t 20)⟩, []), (⟨(some 5), none, .mv (.t 21)⟩, [])])))
 (.ops [⟨(some 22), none, .bin 0 .add (.t 9) (.c (.int .i64 1))⟩, ⟨(some 9), none, .mv (.t 22)⟩])))))))
 (.seq (.ops [⟨(some 23), none, .mv (.t 5)⟩, ⟨(some 4), none, .mv (.t 23)⟩])
 (.ret))))⟩
def a119 : AFn := ⟨125, [.t 4], .seq (.ops [⟨(some 4), none, .mv (.c (.str []))⟩])
 (.seq (.seq (.ops [⟨(some 11), none, .mv (.t 1)⟩])
 (.block 0 (.seq (.ops [⟨(some 13), none, .bin 0 .eql (.t 11) (.c (.int .i64 0))⟩, ⟨(some 12), none, .mv (.t 13)⟩])
 (.cond (.t 12) (.seq (.ops [⟨(some 4), none, .mv (.c (.str []))⟩])
 (.ret)) (.seq (.ops [⟨(some 15), none, .bin 0 .eql (.t 11) (.c (.int .i64 1))⟩, ⟨(some 14), none, .mv (.t 15)⟩])
 (.cond (.t 14) (.seq (.ops [⟨(some 16), none, .mv (.t 0)⟩, ⟨(some 4), none, .mv (.t 16)⟩])
 (.ret)) (.skip)))))))
 (.seq (.seq (.ops [⟨(some 17), none, .mv (.t 1)⟩, ⟨(some 18), none, .bin 0 .lss (.t 17) (.c (.int .i64 0))⟩])
 (.cond (.t 18) (.ops [⟨(some 19), none, .bad⟩, ⟨none, none, .bad⟩]) (.skip)))
 (.seq (.ops [⟨(some 21), none, .mv (.t 0)⟩, ⟨(some 22), none, .len true (.t 21)⟩, ⟨(some 23), none, .conv .u64 (.t 22)⟩, ⟨(some 24), none, .mv (.t 1)⟩, ⟨(some 25), none, .conv .u64 (.t 24)⟩, ⟨(some 26), none, .call 107 [(.t 23), (.t 25)]⟩, ⟨(some 20), none, .mv (.t 26)⟩, ⟨(some 27), none, .ext (.t 20) 0⟩, ⟨(some 28), none, .ext (.t 20) 1⟩, ⟨(some 5), none, .mv (.t 27)⟩, ⟨(some 6), none, .mv (.t 28)⟩])
 (.seq (.seq (.ops [⟨(some 29), none, .mv (.t 5)⟩, ⟨(some 30), none, .bin 0 .gtr (.t 29) (.c (.int .u64 0))⟩, ⟨(some 31), none, .mv (.t 30)⟩, ⟨(some 32), (some (31, false)), .mv (.t 6)⟩, ⟨(some 33), (some (31, false)), .bin 0 .gtr (.t 32) (.c (.int .u64 9223372036854775807))⟩, ⟨(some 34), none, .pick (.t 31) (.c (.bool true)) (.t 33)⟩])
 (.cond (.t 34) (.ops [⟨(some 35), none, .bad⟩, ⟨none, none, .bad⟩]) (.skip)))
 (.seq (.ops [⟨(some 36), none, .mv (.t 6)⟩, ⟨(some 37), none, .conv .i64 (.t 36)⟩, ⟨(some 7), none, .mv (.t 37)⟩])
 (.seq (.seq (.ops [⟨(some 38), none, .mv (.t 0)⟩, ⟨(some 39), none, .len true (.t 38)⟩, ⟨(some 40), none, .bin 0 .eql (.t 39) (.c (.int .i64 0))⟩])
 (.cond (.t 40) (.seq (.ops [⟨(some 4), none, .mv (.c (.str []))⟩])
 (.ret)) (.skip)))
 (.seq (.seq (.ops [⟨(some 41), none, .mv (.t 0)⟩, ⟨(some 42), none, .idxs (.t 41) (.c (.int .i64 0))⟩])
 (.block 1 (.seq (.seq (.ops [⟨(some 44), none, .bin 0 .eql (.t 42) (.c (.int .u8 32))⟩, ⟨(some 43), none, .mv (.t 44)⟩])
 (.cond (.t 43) (.skip) (.seq (.ops [⟨(some 45), none, .bin 0 .eql (.t 42) (.c (.int .u8 45))⟩, ⟨(some 43), none, .mv (.t 45)⟩])
 (.cond (.t 43) (.skip) (.seq (.ops [⟨(some 46), none, .bin 0 .eql (.t 42) (.c (.int .u8 48))⟩, ⟨(some 43), none, .mv (.t 46)⟩])
 (.cond (.t 43) (.skip) (.seq (.ops [⟨(some 47), none, .bin 0 .eql (.t 42) (.c (.int .u8 61))⟩, ⟨(some 43), none, .mv (.t 47)⟩])
 (.cond (.t 43) (.skip) (.ops [⟨(some 48), none, .bin 0 .eql (.t 42) (.c (.int .u8 9))⟩, ⟨(some 43), none, .mv (.t 48)⟩])))))))))
 (.cond (.t 43) (.block 2 (.seq (.ops [⟨(some 50), none, .mv (.t 7)⟩, ⟨(some 51), none, .bin 0 .leq (.t 50) (.c (.int .i64 128))⟩, ⟨(some 52), none, .mv (.t 51)⟩, ⟨(some 53), (some (52, true)), .mv (.t 0)⟩, ⟨(some 54), (some (52, true)), .call 157 [(.c (.str [32, 32, 32, 32, 32, 32, 32, 32, 32, 32, 32, 32, 32, 32, 32, 32, 32, 32, 32, 32, 32, 32, 32, 32, 32, 32, 32, 32, 32, 32, 32, 32, 32, 32, 32, 32, 32, 32, 32, 32, 32, 32, 32, 32, 32, 32, 32, 32, 32, 32, 32, 32, 32, 32, 32, 32, 32, 32, 32, 32, 32, 32, 32, 32, 32, 32, 32, 32, 32, 32, 32, 32, 32, 32, 32, 32, 32, 32, 32, 32, 32, 32, 32, 32, 32, 32, 32, 32, 32, 32, 32, 32, 32, 32, 32, 32, 32, 32, 32, 32, 32, 32, 32, 32, 32, 32, 32, 32, 32, 32, 32, 32, 32, 32, 32, 32, 32, 32, 32, 32, 32, 32, 32, 32, 32, 32, 32, 32])), (.t 53)]⟩, ⟨(some 55), none, .pick (.t 52) (.t 54) (.c (.bool false))⟩, ⟨(some 49), none, .mv (.t 55)⟩])
 (.cond (.t 49) (.seq (.ops [⟨(some 56), none, .mv (.t 7)⟩, ⟨(some 57), none, .sls (.c (.str [32, 32, 32, 32, 32, 32, 32, 32, 32, 32, 32, 32, 32, 32, 32, 32, 32, 32, 32, 32, 32, 32, 32, 32, 32, 32, 32, 32, 32, 32, 32, 32, 32, 32, 32, 32, 32, 32, 32, 32, 32, 32, 32, 32, 32, 32, 32, 32, 32, 32, 32, 32, 32, 32, 32, 32, 32, 32, 32, 32, 32, 32, 32, 32, 32, 32, 32, 32, 32, 32, 32, 32, 32, 32, 32, 32, 32, 32, 32, 32, 32, 32, 32, 32, 32, 32, 32, 32, 32, 32, 32, 32, 32, 32, 32, 32, 32, 32, 32, 32, 32, 32, 32, 32, 32, 32, 32, 32, 32, 32, 32, 32, 32, 32, 32, 32, 32, 32, 32, 32, 32, 32, 32, 32, 32, 32, 32, 32])) none (some (.t 56))⟩, ⟨(some 4), none, .mv (.t 57)⟩])
 (.ret)) (.seq (.ops [⟨(some 59), none, .mv (.t 7)⟩, ⟨(some 60), none, .bin 0 .leq (.t 59) (.c (.int .i64 128))⟩, ⟨(some 61), none, .mv (.t 60)⟩, ⟨(some 62), (some (61, true)), .mv (.t 0)⟩, ⟨(some 63), (some (61, true)), .call 157 [(.c (.str [45, 45, 45, 45, 45, 45, 45, 45, 45, 45, 45, 45, 45, 45, 45, 45, 45, 45, 45, 45, 45, 45, 45, 45, 45, 45, 45, 45, 45, 45, 45, 45, 45, 45, 45, 45, 45, 45, 45, 45, 45, 45, 45, 45, 45, 45, 45, 45, 45, 45, 45, 45, 45, 45, 45, 45, 45, 45, 45, 45, 45, 45, 45, 45, 45, 45, 45, 45, 45, 45, 45, 45, 45, 45, 45, 45, 45, 45, 45, 45, 45, 45, 45, 45, 45, 45, 45, 45, 45, 45, 45, 45, 45, 45, 45, 45, 45, 45, 45, 45, 45, 45, 45, 45, 45, 45, 45, 45, 45, 45, 45, 45, 45, 45, 45, 45, 45, 45, 45, 45, 45, 45, 45, 45, 45, 45, 45, 45])), (.t 62)]⟩, ⟨(some 64), none, .pick (.t 61) (.t 63) (.c (.bool false))⟩, ⟨(some 58), none, .mv (.t 64)⟩])
 (.cond (.t 58) (.seq (.ops [⟨(some 65), none, .mv (.t 7)⟩, ⟨(some 66), none, .sls (.c (.str [45, 45, 45, 45, 45, 45, 45, 45, 45, 45, 45, 45, 45, 45, 45, 45, 45, 45, 45, 45, 45, 45, 45, 45, 45, 45, 45, 45, 45, 45, 45, 45, 45, 45, 45, 45, 45, 45, 45, 45, 45, 45, 45, 45, 45, 45, 45, 45, 45, 45, 45, 45, 45, 45, 45, 45, 45, 45, 45, 45, 45, 45, 45, 45, 45, 45, 45, 45, 45, 45, 45, 45, 45, 45, 45, 45, 45, 45, 45, 45, 45, 45, 45, 45, 45, 45, 45, 45, 45, 45, 45, 45, 45, 45, 45, 45, 45, 45, 45, 45, 45, 45, 45, 45, 45, 45, 45, 45, 45, 45, 45, 45, 45, 45, 45, 45, 45, 45, 45, 45, 45, 45, 45, 45, 45, 45, 45, 45])) none (some (.t 65))⟩, ⟨(some 4), none, .mv (.t 66)⟩])
 (.ret)) (.seq (.ops [⟨(some 68), none, .mv (.t 7)⟩, ⟨(some 69), none, .bin 0 .leq (.t 68) (.c (.int .i64 64))⟩, ⟨(some 70), none, .mv (.t 69)⟩, ⟨(some 71), (some (70, true)), .mv (.t 0)⟩, ⟨(some 72), (some (70, true)), .call 157 [(.c (.str [48, 48, 48, 48, 48, 48, 48, 48, 48, 48, 48, 48, 48, 48, 48, 48, 48, 48, 48, 48, 48, 48, 48, 48, 48, 48, 48, 48, 48, 48, 48, 48, 48, 48, 48, 48, 48, 48, 48, 48, 48, 48, 48, 48, 48, 48, 48, 48, 48, 48, 48, 48, 48, 48, 48, 48, 48, 48, 48, 48, 48, 48, 48, 48])), (.t 71)]⟩, ⟨(some 73), none, .pick (.t 70) (.t 72) (.c (.bool false))⟩, ⟨(some 67), none, .mv (.t 73)⟩])
 (.cond (.t 67) (.seq (.ops [⟨(some 74), none, .mv (.t 7)⟩, ⟨(some 75), none, .sls (.c (.str [48, 48, 48, 48, 48, 48, 48, 48, 48, 48, 48, 48, 48, 48, 48, 48, 48, 48, 48, 48, 48, 48, 48, 48, 48, 48, 48, 48, 48, 48, 48, 48, 48, 48, 48, 48, 48, 48, 48, 48, 48, 48, 48, 48, 48, 48, 48, 48, 48, 48, 48, 48, 48, 48, 48, 48, 48, 48, 48, 48, 48, 48, 48, 48])) none (some (.t 74))⟩, ⟨(some 4), none, .mv (.t 75)⟩])
 (.ret)) (.seq (.ops [⟨(some 77), none, .mv (.t 7)⟩, ⟨(some 78), none, .bin 0 .leq (.t 77) (.c (.int .i64 128))⟩, ⟨(some 79), none, .mv (.t 78)⟩, ⟨(some 80), (some (79, true)), .mv (.t 0)⟩, ⟨(some 81), (some (79, true)), .call 157 [(.c (.str [61, 61, 61, 61, 61, 61, 61, 61, 61, 61, 61, 61, 61, 61, 61, 61, 61, 61, 61, 61, 61, 61, 61, 61, 61, 61, 61, 61, 61, 61, 61, 61, 61, 61, 61, 61, 61, 61, 61, 61, 61, 61, 61, 61, 61, 61, 61, 61, 61, 61, 61, 61, 61, 61, 61, 61, 61, 61, 61, 61, 61, 61, 61, 61, 61, 61, 61, 61, 61, 61, 61, 61, 61, 61, 61, 61, 61, 61, 61, 61, 61, 61, 61, 61, 61, 61, 61, 61, 61, 61, 61, 61, 61, 61, 61, 61, 61, 61, 61, 61, 61, 61, 61, 61, 61, 61, 61, 61, 61, 61, 61, 61, 61, 61, 61, 61, 61, 61, 61, 61, 61, 61, 61, 61, 61, 61, 61, 61])), (.t 80)]⟩, ⟨(some 82), none, .pick (.t 79) (.t 81) (.c (.bool false))⟩, ⟨(some 76), none, .mv (.t 82)⟩])
 (.cond (.t 76) (.seq (.ops [⟨(some 83), none, .mv (.t 7)⟩, ⟨(some 84), none, .sls (.c (.str [61, 61, 61, 61, 61, 61, 61, 61, 61, 61, 61, 61, 61, 61, 61, 61, 61, 61, 61, 61, 61, 61, 61, 61, 61, 61, 61, 61, 61, 61, 61, 61, 61, 61, 61, 61, 61, 61, 61, 61, 61, 61, 61, 61, 61, 61, 61, 61, 61, 61, 61, 61, 61, 61, 61, 61, 61, 61, 61, 61, 61, 61, 61, 61, 61, 61, 61, 61, 61, 61, 61, 61, 61, 61, 61, 61, 61, 61, 61, 61, 61, 61, 61, 61, 61, 61, 61, 61, 61, 61, 61, 61, 61, 61, 61, 61, 61, 61, 61, 61, 61, 61, 61, 61, 61, 61, 61, 61, 61, 61, 61, 61, 61, 61, 61, 61, 61, 61, 61, 61, 61, 61, 61, 61, 61, 61, 61, 61])) none (some (.t 83))⟩, ⟨(some 4), none, .mv (.t 84)⟩])
 (.ret)) (.seq (.ops [⟨(some 86), none, .mv (.t 7)⟩, ⟨(some 87), none, .bin 0 .leq (.t 86) (.c (.int .i64 64))⟩, ⟨(some 88), none, .mv (.t 87)⟩, ⟨(some 89), (some (88, true)), .mv (.t 0)⟩, ⟨(some 90), (some (88, true)), .call 157 [(.c (.str [9, 9, 9, 9, 9, 9, 9, 9, 9, 9, 9, 9, 9, 9, 9, 9, 9, 9, 9, 9, 9, 9, 9, 9, 9, 9, 9, 9, 9, 9, 9, 9, 9, 9, 9, 9, 9, 9, 9, 9, 9, 9, 9, 9, 9, 9, 9, 9, 9, 9, 9, 9, 9, 9, 9, 9, 9, 9, 9, 9, 9, 9, 9, 9])), (.t 89)]⟩, ⟨(some 91), none, .pick (.t 88) (.t 90) (.c (.bool false))⟩, ⟨(some 85), none, .mv (.t 91)⟩])
 (.cond (.t 85) (.seq (.ops [⟨(some 92), none, .mv (.t 7)⟩, ⟨(some 93), none, .sls (.c (.str [9, 9, 9, 9, 9, 9, 9, 9, 9, 9, 9, 9, 9, 9, 9, 9, 9, 9, 9, 9, 9, 9, 9, 9, 9, 9, 9, 9, 9, 9, 9, 9, 9, 9, 9, 9, 9, 9, 9, 9, 9, 9, 9, 9, 9, 9, 9, 9, 9, 9, 9, 9, 9, 9, 9, 9, 9, 9, 9, 9, 9, 9, 9, 9])) none (some (.t 92))⟩, ⟨(some 4), none, .mv (.t 93)⟩])
 (.ret)) (.skip)))))))))))) (.skip)))))
 (.seq (.ops [⟨(some 94), none, .mv (.t 7)⟩, ⟨(some 8), none, .mv (.t 94)⟩])
 (.seq (.seq (.ops [⟨(some 95), none, .mv (.t 7)⟩, ⟨(some 96), none, .bin 0 .gtr (.t 95) (.c (.int .i64 8192))⟩])
 (.cond (.t 96) (.seq (.ops [⟨(some 97), none, .mv (.t 0)⟩, ⟨(some 98), none, .len true (.t 97)⟩, ⟨(some 99), none, .bin 0 .quo (.c (.int .i64 8192)) (.t 98)⟩, ⟨(some 100), none, .mv (.t 0)⟩, ⟨(some 101), none, .len true (.t 100)⟩, ⟨(some 102), none, .bin 0 .mul (.t 99) (.t 101)⟩, ⟨(some 8), none, .mv (.t 102)⟩])
 (.seq (.ops [⟨(some 103), none, .mv (.t 8)⟩, ⟨(some 104), none, .bin 0 .eql (.t 103) (.c (.int .i64 0))⟩])
 (.cond (.t 104) (.ops [⟨(some 105), none, .mv (.t 0)⟩, ⟨(some 106), none, .len true (.t 105)⟩, ⟨(some 8), none, .mv (.t 106)⟩]) (.skip)))) (.skip)))
 (.seq (.ops [⟨(some 9), none, .alloc 118 [.nilp, (.lit true 0 [])]⟩])
 (.seq (.ops [⟨(some 107), none, .mv (.t 7)⟩, ⟨(some 108), none, .call 158 [(.t 9), (.t 107)]⟩])
 (.seq (.ops [⟨(some 109), none, .mv (.t 0)⟩, ⟨(some 110), none, .call 94 [(.t 9), (.t 109)]⟩])
 (.seq (.block 3 (.loop (.seq (.seq (.ops [⟨(some 111), none, .call 159 [(.t 9)]⟩, ⟨(some 112), none, .mv (.t 7)⟩, ⟨(some 113), none, .bin 0 .lss (.t 111) (.t 112)⟩])
 (.cond (.t 113) (.skip) (.exit 3)))
 (.block 4 (.seq (.ops [⟨(some 114), none, .mv (.t 7)⟩, ⟨(some 115), none, .call 159 [(.t 9)]⟩, ⟨(some 116), none, .bin 0 .sub (.t 114) (.t 115)⟩, ⟨(some 117), none, .call 159 [(.t 9)]⟩, ⟨(some 118), none, .mv (.t 8)⟩, ⟨(some 119), none, .mm false (.t 116) [(.t 117), (.t 118)]⟩, ⟨(some 10), none, .mv (.t 119)⟩])
 (.ops [⟨(some 120), none, .call 95 [(.t 9)]⟩, ⟨(some 121), none, .mv (.t 10)⟩, ⟨(some 122), none, .sls (.t 120) none (some (.t 121))⟩, ⟨(some 123), none, .call 94 [(.t 9), (.t 122)]⟩]))))))
 (.seq (.ops [⟨(some 124), none, .call 95 [(.t 9)]⟩, ⟨(some 4), none, .mv (.t 124)⟩])
 (.ret)))))))))))))))⟩
def a124 : AFn := ⟨5, [.t 2], .seq (.ops [⟨(some 2), none, .mv (.c (.str []))⟩])
 (.seq (.ops [⟨(some 3), none, .mv (.t 0)⟩, ⟨(some 4), none, .call 163 [(.c (.fn 164 [])), (.t 3)]⟩, ⟨(some 2), none, .mv (.t 4)⟩])
 (.ret))⟩
def a131 : AFn := ⟨35, [.t 2], .seq (.ops [⟨(some 2), none, .mv (.c (.int .i64 0))⟩])
 (.seq (.ops [⟨(some 3), none, .mv (.t 0)⟩, ⟨(some 4), none, .bin 0 .shr (.t 3) (.c (.int .u64 1))⟩, ⟨(some 5), none, .bin 0 .and (.t 4) (.c (.int .u64 6148914691236517205))⟩, ⟨(some 6), none, .mv (.t 0)⟩, ⟨(some 7), none, .bin 0 .and (.t 6) (.c (.int .u64 6148914691236517205))⟩, ⟨(some 8), none, .bin 0 .add (.t 5) (.t 7)⟩, ⟨(some 0), none, .mv (.t 8)⟩])
 (.seq (.ops [⟨(some 9), none, .mv (.t 0)⟩, ⟨(some 10), none, .bin 0 .shr (.t 9) (.c (.int .u64 2))⟩, ⟨(some 11), none, .bin 0 .and (.t 10) (.c (.int .u64 3689348814741910323))⟩, ⟨(some 12), none, .mv (.t 0)⟩, ⟨(some 13), none, .bin 0 .and (.t 12) (.c (.int .u64 3689348814741910323))⟩, ⟨(some 14), none, .bin 0 .add (.t 11) (.t 13)⟩, ⟨(some 0), none, .mv (.t 14)⟩])
 (.seq (.ops [⟨(some 15), none, .mv (.t 0)⟩, ⟨(some 16), none, .bin 0 .shr (.t 15) (.c (.int .u64 4))⟩, ⟨(some 17), none, .mv (.t 0)⟩, ⟨(some 18), none, .bin 0 .add (.t 16) (.t 17)⟩, ⟨(some 19), none, .bin 0 .and (.t 18) (.c (.int .u64 1085102592571150095))⟩, ⟨(some 0), none, .mv (.t 19)⟩])
 (.seq (.ops [⟨(some 20), none, .mv (.t 0)⟩, ⟨(some 21), none, .mv (.t 0)⟩, ⟨(some 22), none, .bin 0 .shr (.t 21) (.c (.int .u64 8))⟩, ⟨(some 23), none, .bin 0 .add (.t 20) (.t 22)⟩, ⟨(some 0), none, .mv (.t 23)⟩])
 (.seq (.ops [⟨(some 24), none, .mv (.t 0)⟩, ⟨(some 25), none, .mv (.t 0)⟩, ⟨(some 26), none, .bin 0 .shr (.t 25) (.c (.int .u64 16))⟩, ⟨(some 27), none, .bin 0 .add (.t 24) (.t 26)⟩, ⟨(some 0), none, .mv (.t 27)⟩])
 (.seq (.ops [⟨(some 28), none, .mv (.t 0)⟩, ⟨(some 29), none, .mv (.t 0)⟩, ⟨(some 30), none, .bin 0 .shr (.t 29) (.c (.int .u64 32))⟩, ⟨(some 31), none, .bin 0 .add (.t 28) (.t 30)⟩, ⟨(some 0), none, .mv (.t 31)⟩])
 (.seq (.ops [⟨(some 32), none, .mv (.t 0)⟩, ⟨(some 33), none, .conv .i64 (.t 32)⟩, ⟨(some 34), none, .bin 0 .and (.t 33) (.c (.int .i64 127))⟩, ⟨(some 2), none, .mv (.t 34)⟩])
 (.ret))))))))⟩
theorem c131 : compF Go.Proofs.Tryd.prog 131 = some a131 := by kernel_rfl
def a132 : AFn := ⟨6, [.t 2], .seq (.ops [⟨(some 2), none, .mv (.c (.bool false))⟩])
 (.seq (.ops [⟨(some 3), none, .mv (.t 0)⟩, ⟨(some 4), none, .call 91 [(.t 3), (.c (.int .i64 0)), (.c (.int .i64 15))]⟩, ⟨(some 5), none, .un .not (.t 4)⟩, ⟨(some 2), none, .mv (.t 5)⟩])
 (.ret))⟩
theorem c132 : compF Go.Proofs.Tryd.prog 132 = some a132 := by kernel_rfl
def a133 : AFn := ⟨57, [.t 4], .seq (.ops [⟨(some 4), none, .mv (.c (.str []))⟩])
 (.seq (.ops [⟨(some 12), none, .mmk (.i .i64) (.str [])⟩, ⟨(some 13), none, .mv (.t 0)⟩, ⟨none, none, .mup (.i .i64) (.t 12) (.t 13) (.c (.str []))⟩, ⟨(some 14), none, .mv (.t 12)⟩, ⟨(some 5), none, .mv (.t 14)⟩])
 (.seq (.ops [⟨(some 15), none, .mv (.t 0)⟩, ⟨(some 16), none, .bslice 3 1 1 [(.int .i64 0)] [(0, 1, (.t 15))]⟩, ⟨(some 6), none, .mv (.t 16)⟩])
 (.seq (.block 0 (.loop (.seq (.seq (.ops [⟨(some 17), none, .mv (.t 6)⟩, ⟨(some 18), none, .len false (.t 17)⟩, ⟨(some 19), none, .bin 0 .gtr (.t 18) (.c (.int .i64 0))⟩])
 (.cond (.t 19) (.skip) (.exit 0)))
 (.block 1 (.seq (.ops [⟨(some 20), none, .mv (.t 6)⟩, ⟨(some 21), none, .iadr 1 (.t 20) (.c (.int .i64 0))⟩, ⟨(some 22), none, .load none (.t 21)⟩, ⟨(some 7), none, .mv (.t 22)⟩])
 (.seq (.ops [⟨(some 23), none, .mv (.t 6)⟩, ⟨(some 24), none, .slc 1 (.t 23) (some (.c (.int .i64 1))) none⟩, ⟨(some 6), none, .mv (.t 24)⟩])
 (.seq (.ops [⟨(some 25), none, .mv (.c (.int .i64 0))⟩])
 (.block 2 (.loop (.seq (.ops [⟨(some 26), none, .bin 0 .lss (.t 25) (.c (.int .i64 2))⟩])
 (.seq (.cond (.t 26) (.skip) (.exit 2))
 (.seq (.block 3 (.seq (.ops [⟨(some 27), none, .mv (.t 25)⟩, ⟨(some 8), none, .mv (.t 27)⟩])
 (.seq (.ops [⟨(some 28), none, .mv (.t 7)⟩, ⟨(some 29), none, .mv (.t 8)⟩, ⟨(some 30), none, .call 170 [(.t 28), (.t 29)]⟩, ⟨(some 9), none, .mv (.t 30)⟩])
 (.seq (.ops [⟨(some 32), none, .mv (.t 5)⟩, ⟨(some 33), none, .mv (.t 9)⟩, ⟨(some 34), none, .mlk true (.i .i64) (.str []) (.t 32) (.t 33)⟩, ⟨(some 31), none, .mv (.t 34)⟩, ⟨(some 35), none, .ext (.t 31) 0⟩, ⟨(some 36), none, .ext (.t 31) 1⟩, ⟨(some 10), none, .mv (.t 35)⟩, ⟨(some 11), none, .mv (.t 36)⟩])
 (.seq (.ops [⟨(some 37), none, .mv (.t 11)⟩, ⟨(some 38), none, .un .not (.t 37)⟩])
 (.cond (.t 38) (.seq (.ops [⟨(some 39), none, .mv (.t 5)⟩, ⟨(some 40), none, .mv (.t 9)⟩, ⟨(some 41), none, .mv (.t 5)⟩, ⟨(some 42), none, .mv (.t 7)⟩, ⟨(some 43), none, .mlk false (.i .i64) (.str []) (.t 41) (.t 42)⟩, ⟨(some 44), none, .mv (.t 8)⟩, ⟨(some 45), none, .bin 0 .add (.c (.int .i64 48)) (.t 44)⟩, ⟨(some 46), none, .conv .i32 (.t 45)⟩, ⟨(some 47), none, .i2s (.t 46)⟩, ⟨(some 48), none, .bin 1 .add (.t 43) (.t 47)⟩, ⟨none, none, .mup (.i .i64) (.t 39) (.t 40) (.t 48)⟩])
 (.ops [⟨(some 49), none, .mv (.t 6)⟩, ⟨(some 50), none, .mv (.t 9)⟩, ⟨(some 51), none, .bslice 3 1 1 [(.int .i64 0)] [(0, 1, (.t 50))]⟩, ⟨(some 52), none, .app 3 1 8 (.t 49) (.t 51)⟩, ⟨(some 6), none, .mv (.t 52)⟩])) (.skip)))))))
 (.ops [⟨(some 53), none, .bin 0 .add (.t 25) (.c (.int .i64 1))⟩, ⟨(some 25), none, .mv (.t 53)⟩])))))))))))))
 (.seq (.ops [⟨(some 54), none, .mv (.t 5)⟩, ⟨(some 55), none, .mv (.t 1)⟩, ⟨(some 56), none, .mlk false (.i .i64) (.str []) (.t 54) (.t 55)⟩, ⟨(some 4), none, .mv (.t 56)⟩])
 (.ret)))))⟩
theorem c133 : compF Go.Proofs.Tryd.prog 133 = some a133 := by kernel_rfl
def a137 : AFn := ⟨16, [.t 4], .seq (.ops [⟨(some 4), none, .mv (.c (.int .i64 0))⟩])
 (.seq (.seq (.ops [⟨(some 5), none, .mv (.t 1)⟩, ⟨(some 6), none, .bin 0 .lss (.t 5) (.c (.int .i64 1))⟩])
 (.cond (.t 6) (.seq (.ops [⟨(some 4), none, .mv (.c (.int .i64 0))⟩])
 (.ret)) (.skip)))
 (.seq (.ops [⟨(some 7), none, .mv (.t 0)⟩, ⟨(some 8), none, .mv (.t 1)⟩, ⟨(some 9), none, .bin 0 .rem (.t 7) (.t 8)⟩, ⟨(some 0), none, .mv (.t 9)⟩])
 (.seq (.seq (.ops [⟨(some 10), none, .mv (.t 0)⟩, ⟨(some 11), none, .bin 0 .lss (.t 10) (.c (.int .i64 0))⟩])
 (.cond (.t 11) (.ops [⟨(some 12), none, .mv (.t 0)⟩, ⟨(some 13), none, .mv (.t 1)⟩, ⟨(some 14), none, .bin 0 .add (.t 12) (.t 13)⟩, ⟨(some 0), none, .mv (.t 14)⟩]) (.skip)))
 (.seq (.ops [⟨(some 15), none, .mv (.t 0)⟩, ⟨(some 4), none, .mv (.t 15)⟩])
 (.ret)))))⟩
theorem c137 : compF Go.Proofs.Tryd.prog 137 = some a137 := by kernel_rfl
def a138 : AFn := ⟨43, [.t 4], .seq (.ops [⟨(some 4), none, .mv (.c (.str []))⟩])
 (.seq (.seq (.ops [⟨(some 7), none, .mv (.t 0)⟩, ⟨(some 8), none, .bin 1 .eql (.t 7) (.c (.str []))⟩, ⟨(some 9), none, .mv (.t 8)⟩, ⟨(some 10), (some (9, false)), .mv (.t 1)⟩, ⟨(some 11), (some (9, false)), .bin 1 .eql (.t 10) (.c (.str []))⟩, ⟨(some 12), none, .pick (.t 9) (.c (.bool true)) (.t 11)⟩])
 (.cond (.t 12) (.seq (.ops [⟨(some 13), none, .mv (.t 0)⟩, ⟨(some 4), none, .mv (.t 13)⟩])
 (.ret)) (.skip)))
 (.seq (.seq (.ops [⟨(some 14), none, .mv (.t 1)⟩, ⟨(some 15), none, .len true (.t 14)⟩, ⟨(some 16), none, .bin 0 .eql (.t 15) (.c (.int .i64 1))⟩, ⟨(some 17), none, .mv (.t 16)⟩, ⟨(some 18), (some (17, true)), .mv (.t 1)⟩, ⟨(some 19), (some (17, true)), .idxs (.t 18) (.c (.int .i64 0))⟩, ⟨(some 20), (some (17, true)), .bin 0 .lss (.t 19) (.c (.int .u8 128))⟩, ⟨(some 21), none, .pick (.t 17) (.t 20) (.c (.bool false))⟩])
 (.cond (.t 21) (.seq (.any [(⟨(some 22), none, .mv (.t 0)⟩, []), (⟨(some 23), none, .mv (.t 1)⟩, [0]), (⟨(some 24), none, .idxs (.t 23) (.c (.int .i64 0))⟩, [0]), (⟨(some 25), none, .call 177 [(.t 22), (.t 24)]⟩, []), (⟨(some 26), none, .mv (.t 1)⟩, [0, 1, 2, 3]), (⟨(some 27), none, .idxs (.t 26) (.c (.int .i64 0))⟩, [0, 1, 2, 3]), (⟨(some 28), none, .call 176 [(.t 25), (.t 27)]⟩, []), (⟨(some 4), none, .mv (.t 28)⟩, [])])
 (.ret)) (.skip)))
 (.seq (.seq (.ops [⟨(some 30), none, .mv (.t 1)⟩, ⟨(some 31), none, .call 178 [(.t 30)]⟩, ⟨(some 29), none, .mv (.t 31)⟩, ⟨(some 32), none, .ext (.t 29) 0⟩, ⟨(some 33), none, .ext (.t 29) 1⟩, ⟨(some 5), none, .alloc 188 [(.bool false), (.bool false), (.bool false), (.bool false), (.bool false), (.bool false), (.bool false), (.bool false), (.bool false), (.bool false), (.bool false), (.bool false), (.bool false), (.bool false), (.bool false), (.bool false), (.bool false), (.bool false), (.bool false), (.bool false), (.bool false), (.bool false), (.bool false), (.bool false), (.bool false), (.bool false), (.bool false), (.bool false), (.bool false), (.bool false), (.bool false), (.bool false), (.bool false), (.bool false), (.bool false), (.bool false), (.bool false), (.bool false), (.bool false), (.bool false), (.bool false), (.bool false), (.bool false), (.bool false), (.bool false), (.bool false), (.bool false), (.bool false), (.bool false), (.bool false), (.bool false), (.bool false), (.bool false), (.bool false), (.bool false), (.bool false), (.bool false), (.bool false), (.bool false), (.bool false), (.bool false), (.bool false), (.bool false), (.bool false), (.bool false), (.bool false), (.bool false), (.bool false), (.bool false), (.bool false), (.bool false), (.bool false), (.bool false), (.bool false), (.bool false), (.bool false), (.bool false), (.bool false), (.bool false), (.bool false), (.bool false), (.bool false), (.bool false), (.bool false), (.bool false), (.bool false), (.bool false), (.bool false), (.bool false), (.bool false), (.bool false), (.bool false), (.bool false), (.bool false), (.bool false), (.bool false), (.bool false), (.bool false), (.bool false), (.bool false), (.bool false), (.bool false), (.bool false), (.bool false), (.bool false), (.bool false), (.bool false), (.bool false), (.bool false), (.bool false), (.bool false), (.bool false), (.bool false), (.bool false), (.bool false), (.bool false), (.bool false), (.bool false), (.bool false), (.bool false), (.bool false), (.bool false), (.bool false), (.bool false), (.bool false), (.bool false), (.bool false), (.bool false), (.bool false), (.bool false), (.bool false), (.bool false), (.bool false), (.bool false), (.bool false), (.bool false), (.bool false), (.bool false), (.bool false), (.bool false), (.bool false), (.bool false), (.bool false), (.bool false), (.bool false), (.bool false), (.bool false), (.bool false), (.bool false), (.bool false), (.bool false), (.bool false), (.bool false), (.bool false), (.bool false), (.bool false), (.bool false), (.bool false), (.bool false), (.bool false), (.bool false), (.bool false), (.bool false), (.bool false), (.bool false), (.bool false), (.bool false), (.bool false), (.bool false), (.bool false), (.bool false), (.bool false), (.bool false), (.bool false), (.bool false), (.bool false), (.bool false), (.bool false), (.bool false), (.bool false), (.bool false), (.bool false), (.bool false), (.bool false), (.bool false), (.bool false), (.bool false), (.bool false), (.bool false), (.bool false), (.bool false), (.bool false), (.bool false), (.bool false), (.bool false), (.bool false), (.bool false), (.bool false), (.bool false), (.bool false), (.bool false), (.bool false), (.bool false), (.bool false), (.bool false), (.bool false), (.bool false), (.bool false), (.bool false), (.bool false), (.bool false), (.bool false), (.bool false), (.bool false), (.bool false), (.bool false), (.bool false), (.bool false), (.bool false), (.bool false), (.bool false), (.bool false), (.bool false), (.bool false), (.bool false), (.bool false), (.bool false), (.bool false), (.bool false), (.bool false), (.bool false), (.bool false), (.bool false), (.bool false), (.bool false), (.bool false), (.bool false), (.bool false), (.bool false), (.bool false), (.bool false), (.bool false), (.bool false), (.bool false), (.bool false), (.bool false), (.bool false), (.bool false), (.bool false), (.bool false), (.bool false), (.bool false), (.bool false), (.bool false), (.bool false), (.bool false)]⟩, ⟨none, none, .store 256 (.t 5) (.t 32)⟩, ⟨(some 6), none, .mv (.t 33)⟩])
 (.seq (.ops [⟨(some 34), none, .mv (.t 6)⟩])
 (.cond (.t 34) (.seq (.ops [⟨(some 35), none, .mv (.t 0)⟩, ⟨(some 36), none, .call 180 [(.t 35), (.t 5)]⟩, ⟨(some 37), none, .call 179 [(.t 36), (.t 5)]⟩, ⟨(some 4), none, .mv (.t 37)⟩])
 (.ret)) (.skip))))
 (.seq (.ops [⟨(some 38), none, .mv (.t 0)⟩, ⟨(some 39), none, .mv (.t 1)⟩, ⟨(some 40), none, .call 182 [(.t 38), (.t 39)]⟩, ⟨(some 41), none, .mv (.t 1)⟩, ⟨(some 42), none, .call 181 [(.t 40), (.t 41)]⟩, ⟨(some 4), none, .mv (.t 42)⟩])
 (.ret)))))⟩
def a142 : AFn := ⟨36, [.t 2], .seq (.ops [⟨(some 2), none, .mv (.c (.int .i64 0))⟩])
 (.seq (.block 0 (.seq (.ops [⟨(some 6), none, .mv (.t 0)⟩, ⟨(some 7), none, .len false (.t 6)⟩, ⟨(some 8), none, .bin 0 .eql (.t 7) (.c (.int .i64 0))⟩, ⟨(some 5), none, .mv (.t 8)⟩])
 (.cond (.t 5) (.seq (.ops [⟨(some 2), none, .mv (.c (.int .i64 8))⟩])
 (.ret)) (.seq (.ops [⟨(some 10), none, .mv (.t 0)⟩, ⟨(some 11), none, .len false (.t 10)⟩, ⟨(some 12), none, .bin 0 .gtr (.t 11) (.c (.int .i64 100))⟩, ⟨(some 9), none, .mv (.t 12)⟩])
 (.cond (.t 9) (.seq (.ops [⟨(some 2), none, .mv (.c (.int .i64 2))⟩])
 (.ret)) (.skip))))))
 (.seq (.seq (.ops [⟨(some 13), none, .mv (.t 0)⟩, ⟨(some 14), none, .len false (.t 13)⟩, ⟨(some 15), none, .mv (.c (.int .i64 0))⟩])
 (.block 1 (.loop (.seq (.ops [⟨(some 16), none, .bin 0 .lss (.t 15) (.t 14)⟩])
 (.seq (.cond (.t 16) (.skip) (.exit 1))
 (.seq (.block 2 (.seq (.ops [⟨(some 17), none, .iadr 1 (.t 13) (.t 15)⟩, ⟨(some 18), none, .load none (.t 17)⟩, ⟨(some 4), none, .mv (.t 18)⟩])
 (.block 3 (.seq (.ops [⟨(some 20), none, .mv (.t 4)⟩, ⟨(some 21), none, .call 92 [(.t 20)]⟩, ⟨(some 22), none, .un .not (.t 21)⟩, ⟨(some 19), none, .mv (.t 22)⟩])
 (.cond (.t 19) (.seq (.ops [⟨(some 2), none, .mv (.c (.int .i64 3))⟩])
 (.ret)) (.seq (.ops [⟨(some 24), none, .mv (.t 4)⟩, ⟨(some 25), none, .len true (.t 24)⟩, ⟨(some 26), none, .bin 0 .gtr (.t 25) (.c (.int .i64 64))⟩, ⟨(some 23), none, .mv (.t 26)⟩])
 (.cond (.t 23) (.seq (.ops [⟨(some 2), none, .mv (.c (.int .i64 2))⟩])
 (.ret)) (.seq (.ops [⟨(some 28), none, .mv (.t 4)⟩, ⟨(some 29), none, .len true (.t 28)⟩, ⟨(some 30), none, .mv (.t 0)⟩, ⟨(some 31), none, .iadr 1 (.t 30) (.c (.int .i64 0))⟩, ⟨(some 32), none, .load none (.t 31)⟩, ⟨(some 33), none, .len true (.t 32)⟩, ⟨(some 34), none, .bin 0 .neq (.t 29) (.t 33)⟩, ⟨(some 27), none, .mv (.t 34)⟩])
 (.cond (.t 27) (.seq (.ops [⟨(some 2), none, .mv (.c (.int .i64 3))⟩])
 (.ret)) (.skip))))))))))
 (.ops [⟨(some 35), none, .bin 0 .add (.t 15) (.c (.int .i64 1))⟩, ⟨(some 15), none, .mv (.t 35)⟩])))))))
 (.seq (.ops [⟨(some 2), none, .mv (.c (.int .i64 0))⟩])
 (.ret))))⟩
theorem c142 : compF Go.Proofs.Tryd.prog 142 = some a142 := by kernel_rfl
def a143 : AFn := ⟨28, [.t 4], .seq (.ops [⟨(some 4), none, .mv (.c (.int .i64 0))⟩])
 (.seq (.seq (.ops [⟨(some 9), none, .mv (.t 0)⟩, ⟨(some 10), none, .call 142 [(.t 9)]⟩, ⟨(some 5), none, .mv (.t 10)⟩])
 (.seq (.ops [⟨(some 11), none, .mv (.t 5)⟩, ⟨(some 12), none, .bin 0 .neq (.t 11) (.c (.int .i64 0))⟩])
 (.cond (.t 12) (.seq (.ops [⟨(some 13), none, .mv (.t 5)⟩, ⟨(some 4), none, .mv (.t 13)⟩])
 (.ret)) (.skip))))
 (.seq (.seq (.ops [⟨(some 14), none, .mv (.t 1)⟩, ⟨(some 15), none, .len false (.t 14)⟩, ⟨(some 16), none, .mv (.c (.int .i64 0))⟩])
 (.block 0 (.loop (.seq (.ops [⟨(some 17), none, .bin 0 .lss (.t 16) (.t 15)⟩])
 (.seq (.cond (.t 17) (.skip) (.exit 0))
 (.seq (.block 1 (.seq (.ops [⟨(some 18), none, .iadr 2 (.t 14) (.t 16)⟩, ⟨(some 19), none, .load (some 2) (.t 18)⟩, ⟨(some 7), none, .alloc 128 [(.int .i64 0), (.lit true 0 [])]⟩, ⟨none, none, .store 2 (.t 7) (.t 19)⟩])
 (.seq (.ops [⟨(some 20), none, .mv (.t 0)⟩, ⟨(some 21), none, .len false (.t 20)⟩, ⟨(some 22), none, .load (some 2) (.t 7)⟩, ⟨(some 23), none, .call 187 [(.t 21), (.t 22)]⟩, ⟨(some 8), none, .mv (.t 23)⟩])
 (.seq (.ops [⟨(some 24), none, .mv (.t 8)⟩, ⟨(some 25), none, .bin 0 .neq (.t 24) (.c (.int .i64 0))⟩])
 (.cond (.t 25) (.seq (.ops [⟨(some 26), none, .mv (.t 8)⟩, ⟨(some 4), none, .mv (.t 26)⟩])
 (.ret)) (.skip))))))
 (.ops [⟨(some 27), none, .bin 0 .add (.t 16) (.c (.int .i64 1))⟩, ⟨(some 16), none, .mv (.t 27)⟩])))))))
 (.seq (.ops [⟨(some 4), none, .mv (.c (.int .i64 0))⟩])
 (.ret))))⟩
theorem c143 : compF Go.Proofs.Tryd.prog 143 = some a143 := by kernel_rfl
def a144 : AFn := ⟨35, [.t 2], .seq (.ops [⟨(some 2), none, .mv (.c (.lit true 0 []))⟩])
 (.seq (.ops [⟨(some 3), none, .mv (.c (.lit true 0 []))⟩])
 (.seq (.seq (.ops [⟨(some 8), none, .mv (.t 0)⟩, ⟨(some 9), none, .len false (.t 8)⟩, ⟨(some 10), none, .mv (.c (.int .i64 0))⟩])
 (.block 0 (.loop (.seq (.ops [⟨(some 11), none, .bin 0 .lss (.t 10) (.t 9)⟩])
 (.seq (.cond (.t 11) (.skip) (.exit 0))
 (.seq (.block 1 (.seq (.ops [⟨(some 12), none, .iadr 1 (.t 8) (.t 10)⟩, ⟨(some 13), none, .load none (.t 12)⟩, ⟨(some 5), none, .mv (.t 13)⟩])
 (.seq (.ops [⟨(some 6), none, .mv (.c (.int .u64 0))⟩])
 (.seq (.seq (.ops [⟨(some 14), none, .mv (.t 5)⟩, ⟨(some 15), none, .len true (.t 14)⟩, ⟨(some 16), none, .mv (.c (.int .i64 0))⟩])
 (.block 2 (.loop (.seq (.ops [⟨(some 17), none, .bin 0 .lss (.t 16) (.t 15)⟩])
 (.seq (.cond (.t 17) (.skip) (.exit 2))
 (.seq (.block 3 (.seq (.ops [⟨(some 18), none, .mv (.t 16)⟩, ⟨(some 7), none, .mv (.t 18)⟩])
 (.ops [⟨(some 19), none, .mv (.t 6)⟩, ⟨(some 20), none, .mv (.t 5)⟩, ⟨(some 21), none, .mv (.t 7)⟩, ⟨(some 22), none, .idxs (.t 20) (.t 21)⟩, ⟨(some 23), none, .bin 0 .sub (.t 22) (.c (.int .u8 48))⟩, ⟨(some 24), none, .conv .u64 (.t 23)⟩, ⟨(some 25), none, .mv (.t 7)⟩, ⟨(some 26), none, .bin 0 .shl (.t 24) (.t 25)⟩, ⟨(some 27), none, .bin 0 .or (.t 19) (.t 26)⟩, ⟨(some 6), none, .mv (.t 27)⟩])))
 (.ops [⟨(some 28), none, .bin 0 .add (.t 16) (.c (.int .i64 1))⟩, ⟨(some 16), none, .mv (.t 28)⟩])))))))
 (.ops [⟨(some 29), none, .mv (.t 3)⟩, ⟨(some 30), none, .mv (.t 6)⟩, ⟨(some 31), none, .bslice 132 1 1 [(.int .u64 0)] [(0, 1, (.t 30))]⟩, ⟨(some 32), none, .app 132 1 8 (.t 29) (.t 31)⟩, ⟨(some 3), none, .mv (.t 32)⟩])))))
 (.ops [⟨(some 33), none, .bin 0 .add (.t 10) (.c (.int .i64 1))⟩, ⟨(some 10), none, .mv (.t 33)⟩])))))))
 (.seq (.ops [⟨(some 34), none, .mv (.t 3)⟩, ⟨(some 2), none, .mv (.t 34)⟩])
 (.ret))))⟩
theorem c144 : compF Go.Proofs.Tryd.prog 144 = some a144 := by kernel_rfl
def a145 : AFn := ⟨30, [.t 6], .seq (.ops [⟨(some 4), none, .box 128 (.t 1)⟩, ⟨(some 6), none, .mv (.c (.int .u64 0))⟩])
 (.seq (.ops [⟨(some 7), none, .mv (.c (.int .u64 0))⟩])
 (.seq (.seq (.ops [⟨(some 10), none, .mv (.t 0)⟩, ⟨(some 11), none, .load (some 2) (.t 4)⟩, ⟨(some 12), none, .mv (.t 2)⟩, ⟨(some 13), none, .call 188 [(.t 10), (.t 11), (.t 12)]⟩, ⟨(some 14), none, .len false (.t 13)⟩, ⟨(some 15), none, .mv (.c (.int .i64 0))⟩])
 (.block 0 (.loop (.seq (.ops [⟨(some 16), none, .bin 0 .lss (.t 15) (.t 14)⟩])
 (.seq (.cond (.t 16) (.skip) (.exit 0))
 (.seq (.block 1 (.seq (.ops [⟨(some 17), none, .mv (.t 15)⟩, ⟨(some 18), none, .iadr 1 (.t 13) (.t 15)⟩, ⟨(some 19), none, .load none (.t 18)⟩, ⟨(some 8), none, .mv (.t 17)⟩, ⟨(some 9), none, .mv (.t 19)⟩])
 (.ops [⟨(some 20), none, .mv (.t 7)⟩, ⟨(some 21), none, .mv (.t 9)⟩, ⟨(some 22), none, .mv (.t 0)⟩, ⟨(some 23), none, .mv (.t 8)⟩, ⟨(some 24), none, .iadr 1 (.t 22) (.t 23)⟩, ⟨(some 25), none, .load none (.t 24)⟩, ⟨(some 26), none, .bin 0 .xor (.t 21) (.t 25)⟩, ⟨(some 27), none, .bin 0 .or (.t 20) (.t 26)⟩, ⟨(some 7), none, .mv (.t 27)⟩])))
 (.ops [⟨(some 28), none, .bin 0 .add (.t 15) (.c (.int .i64 1))⟩, ⟨(some 15), none, .mv (.t 28)⟩])))))))
 (.seq (.ops [⟨(some 29), none, .mv (.t 7)⟩, ⟨(some 6), none, .mv (.t 29)⟩])
 (.ret))))⟩
theorem c145 : compF Go.Proofs.Tryd.prog 145 = some a145 := by kernel_rfl
def a155 : AFn := ⟨19, [.t 4], .seq (.ops [⟨(some 4), none, .mv (.c (.int .i64 0))⟩])
 (.seq (.seq (.ops [⟨(some 6), none, .mv (.t 0)⟩, ⟨(some 7), none, .len false (.t 6)⟩, ⟨(some 8), none, .mv (.c (.int .i64 0))⟩])
 (.block 0 (.loop (.seq (.ops [⟨(some 9), none, .bin 0 .lss (.t 8) (.t 7)⟩])
 (.seq (.cond (.t 9) (.skip) (.exit 0))
 (.seq (.block 1 (.seq (.ops [⟨(some 10), none, .mv (.t 8)⟩, ⟨(some 5), none, .mv (.t 10)⟩])
 (.seq (.ops [⟨(some 11), none, .mv (.t 1)⟩, ⟨(some 12), none, .mv (.t 0)⟩, ⟨(some 13), none, .mv (.t 5)⟩, ⟨(some 14), none, .iadr 1 (.t 12) (.t 13)⟩, ⟨(some 15), none, .load none (.t 14)⟩, ⟨(some 16), none, .bin 0 .eql (.t 11) (.t 15)⟩])
 (.cond (.t 16) (.seq (.ops [⟨(some 17), none, .mv (.t 5)⟩, ⟨(some 4), none, .mv (.t 17)⟩])
 (.ret)) (.skip)))))
 (.ops [⟨(some 18), none, .bin 0 .add (.t 8) (.c (.int .i64 1))⟩, ⟨(some 8), none, .mv (.t 18)⟩])))))))
 (.seq (.ops [⟨(some 4), none, .mv (.c (.int .i64 (-1)))⟩])
 (.ret)))⟩
theorem c155 : compF Go.Proofs.Tryd.prog 155 = some a155 := by kernel_rfl
def a170 : AFn := ⟨28, [.t 4], .seq (.ops [⟨(some 4), none, .mv (.c (.int .i64 0))⟩])
 (.seq (.ops [⟨(some 6), none, .build [(.int .i64 0), (.int .i64 0)] [(0, 1, (.c (.int .i64 1))), (1, 1, (.c (.int .i64 0)))]⟩, ⟨(some 7), none, .build [(.int .i64 0), (.int .i64 0)] [(0, 1, (.c (.int .i64 1))), (1, 1, (.c (.int .i64 2)))]⟩, ⟨(some 8), none, .build [(.int .i64 0), (.int .i64 0)] [(0, 1, (.c (.int .i64 3))), (1, 1, (.c (.int .i64 9)))]⟩, ⟨(some 9), none, .build [(.int .i64 0), (.int .i64 0)] [(0, 1, (.c (.int .i64 4))), (1, 1, (.c (.int .i64 5)))]⟩, ⟨(some 10), none, .build [(.int .i64 0), (.int .i64 0)] [(0, 1, (.c (.int .i64 4))), (1, 1, (.c (.int .i64 5)))]⟩, ⟨(some 11), none, .build [(.int .i64 0), (.int .i64 0)] [(0, 1, (.c (.int .i64 6))), (1, 1, (.c (.int .i64 8)))]⟩, ⟨(some 12), none, .build [(.int .i64 0), (.int .i64 0)] [(0, 1, (.c (.int .i64 6))), (1, 1, (.c (.int .i64 7)))]⟩, ⟨(some 13), none, .build [(.int .i64 0), (.int .i64 0)] [(0, 1, (.c (.int .i64 4))), (1, 1, (.c (.int .i64 8)))]⟩, ⟨(some 14), none, .build [(.int .i64 0), (.int .i64 0)] [(0, 1, (.c (.int .i64 1))), (1, 1, (.c (.int .i64 2)))]⟩, ⟨(some 15), none, .build [(.int .i64 0), (.int .i64 0)] [(0, 1, (.c (.int .i64 10))), (1, 1, (.c (.int .i64 0)))]⟩, ⟨(some 16), none, .build [(.int .i64 0), (.int .i64 0)] [(0, 1, (.c (.int .i64 11))), (1, 1, (.c (.int .i64 12)))]⟩, ⟨(some 17), none, .build [(.int .i64 0), (.int .i64 0)] [(0, 1, (.c (.int .i64 11))), (1, 1, (.c (.int .i64 12)))]⟩, ⟨(some 18), none, .build [(.int .i64 0), (.int .i64 0)] [(0, 1, (.c (.int .i64 13))), (1, 1, (.c (.int .i64 15)))]⟩, ⟨(some 19), none, .build [(.int .i64 0), (.int .i64 0)] [(0, 1, (.c (.int .i64 13))), (1, 1, (.c (.int .i64 14)))]⟩, ⟨(some 20), none, .build [(.int .i64 0), (.int .i64 0)] [(0, 1, (.c (.int .i64 11))), (1, 1, (.c (.int .i64 15)))]⟩, ⟨(some 21), none, .build [(.int .i64 0), (.int .i64 0)] [(0, 1, (.c (.int .i64 1))), (1, 1, (.c (.int .i64 2)))]⟩, ⟨(some 22), none, .build [(.int .i64 0), (.int .i64 0), (.int .i64 0), (.int .i64 0), (.int .i64 0), (.int .i64 0), (.int .i64 0), (.int .i64 0), (.int .i64 0), (.int .i64 0), (.int .i64 0), (.int .i64 0), (.int .i64 0), (.int .i64 0), (.int .i64 0), (.int .i64 0), (.int .i64 0), (.int .i64 0), (.int .i64 0), (.int .i64 0), (.int .i64 0), (.int .i64 0), (.int .i64 0), (.int .i64 0), (.int .i64 0), (.int .i64 0), (.int .i64 0), (.int .i64 0), (.int .i64 0), (.int .i64 0), (.int .i64 0), (.int .i64 0)] [(0, 2, (.t 6)), (2, 2, (.t 7)), (4, 2, (.t 8)), (6, 2, (.t 9)), (8, 2, (.t 10)), (10, 2, (.t 11)), (12, 2, (.t 12)), (14, 2, (.t 13)), (16, 2, (.t 14)), (18, 2, (.t 15)), (20, 2, (.t 16)), (22, 2, (.t 17)), (24, 2, (.t 18)), (26, 2, (.t 19)), (28, 2, (.t 20)), (30, 2, (.t 21))]⟩, ⟨(some 5), none, .alloc 215 [(.int .i64 0), (.int .i64 0), (.int .i64 0), (.int .i64 0), (.int .i64 0), (.int .i64 0), (.int .i64 0), (.int .i64 0), (.int .i64 0), (.int .i64 0), (.int .i64 0), (.int .i64 0), (.int .i64 0), (.int .i64 0), (.int .i64 0), (.int .i64 0), (.int .i64 0), (.int .i64 0), (.int .i64 0), (.int .i64 0), (.int .i64 0), (.int .i64 0), (.int .i64 0), (.int .i64 0), (.int .i64 0), (.int .i64 0), (.int .i64 0), (.int .i64 0), (.int .i64 0), (.int .i64 0), (.int .i64 0), (.int .i64 0)]⟩, ⟨none, none, .store 32 (.t 5) (.t 22)⟩])
 (.seq (.ops [⟨(some 23), none, .mv (.t 0)⟩, ⟨(some 24), none, .mv (.t 1)⟩, ⟨(some 25), none, .aadr 16 2 (.t 5) (.t 23)⟩, ⟨(some 26), none, .aadr 2 1 (.t 25) (.t 24)⟩, ⟨(some 27), none, .load none (.t 26)⟩, ⟨(some 4), none, .mv (.t 27)⟩])
 (.ret)))⟩
theorem c170 : compF Go.Proofs.Tryd.prog 170 = some a170 := by kernel_rfl
def a187 : AFn := ⟨80, [.t 4], .seq (.ops [⟨(some 3), none, .box 128 (.t 1)⟩, ⟨(some 4), none, .mv (.c (.int .i64 0))⟩])
 (.seq (.block 0 (.seq (.ops [⟨(some 10), none, .mv (.t 0)⟩, ⟨(some 11), none, .call 91 [(.t 10), (.c (.int .i64 1)), (.c (.int .i64 100))]⟩, ⟨(some 9), none, .mv (.t 11)⟩])
 (.cond (.t 9) (.seq (.ops [⟨(some 4), none, .mv (.c (.int .i64 1))⟩])
 (.ret)) (.seq (.ops [⟨(some 13), none, .fadr 0 (.t 3)⟩, ⟨(some 14), none, .load none (.t 13)⟩, ⟨(some 15), none, .call 91 [(.t 14), (.c (.int .i64 1)), (.c (.int .i64 6))]⟩, ⟨(some 12), none, .mv (.t 15)⟩])
 (.cond (.t 12) (.seq (.ops [⟨(some 4), none, .mv (.c (.int .i64 4))⟩])
 (.ret)) (.seq (.ops [⟨(some 17), none, .fadr 1 (.t 3)⟩, ⟨(some 18), none, .load none (.t 17)⟩, ⟨(some 19), none, .len false (.t 18)⟩, ⟨(some 20), none, .bin 0 .eql (.t 19) (.c (.int .i64 0))⟩, ⟨(some 16), none, .mv (.t 20)⟩])
 (.cond (.t 16) (.seq (.ops [⟨(some 4), none, .mv (.c (.int .i64 8))⟩])
 (.ret)) (.seq (.ops [⟨(some 22), none, .fadr 1 (.t 3)⟩, ⟨(some 23), none, .load none (.t 22)⟩, ⟨(some 24), none, .len false (.t 23)⟩, ⟨(some 25), none, .bin 0 .gtr (.t 24) (.c (.int .i64 6))⟩, ⟨(some 21), none, .mv (.t 25)⟩])
 (.cond (.t 21) (.seq (.ops [⟨(some 4), none, .mv (.c (.int .i64 2))⟩])
 (.ret)) (.skip))))))))))
 (.seq (.seq (.ops [⟨(some 26), none, .fadr 1 (.t 3)⟩, ⟨(some 27), none, .load none (.t 26)⟩, ⟨(some 28), none, .len false (.t 27)⟩, ⟨(some 29), none, .mv (.c (.int .i64 0))⟩])
 (.block 1 (.loop (.seq (.ops [⟨(some 30), none, .bin 0 .lss (.t 29) (.t 28)⟩])
 (.seq (.cond (.t 30) (.skip) (.exit 1))
 (.seq (.block 2 (.seq (.ops [⟨(some 31), none, .iadr 1 (.t 27) (.t 29)⟩, ⟨(some 32), none, .load none (.t 31)⟩, ⟨(some 6), none, .mv (.t 32)⟩])
 (.seq (.ops [⟨(some 33), none, .mv (.t 6)⟩, ⟨(some 34), none, .mv (.t 0)⟩, ⟨(some 35), none, .bin 0 .sub (.t 34) (.c (.int .i64 1))⟩, ⟨(some 36), none, .call 91 [(.t 33), (.c (.int .i64 0)), (.t 35)]⟩])
 (.cond (.t 36) (.seq (.ops [⟨(some 4), none, .mv (.c (.int .i64 1))⟩])
 (.ret)) (.skip)))))
 (.ops [⟨(some 37), none, .bin 0 .add (.t 29) (.c (.int .i64 1))⟩, ⟨(some 29), none, .mv (.t 37)⟩])))))))
 (.seq (.seq (.any [(⟨(some 38), none, .fadr 0 (.t 3)⟩, []), (⟨(some 39), none, .load none (.t 38)⟩, []), (⟨(some 40), none, .call 103 [(.t 39)]⟩, []), (⟨(some 41), none, .fadr 1 (.t 3)⟩, [0, 1, 2]), (⟨(some 42), none, .load none (.t 41)⟩, [0, 1, 2]), (⟨(some 43), none, .len false (.t 42)⟩, [0, 1, 2]), (⟨(some 44), none, .bin 0 .gtr (.t 43) (.c (.int .i64 1))⟩, [0, 1, 2]), (⟨(some 45), none, .bin 2 .neq (.t 40) (.t 44)⟩, [])])
 (.cond (.t 45) (.seq (.ops [⟨(some 4), none, .mv (.c (.int .i64 3))⟩])
 (.ret)) (.skip)))
 (.seq (.ops [⟨(some 46), none, .fadr 1 (.t 3)⟩, ⟨(some 47), none, .load none (.t 46)⟩, ⟨(some 7), none, .mv (.t 47)⟩])
 (.seq (.seq (.ops [⟨(some 48), none, .fadr 0 (.t 3)⟩, ⟨(some 49), none, .load none (.t 48)⟩, ⟨(some 50), none, .bin 0 .eql (.t 49) (.c (.int .i64 5))⟩])
 (.cond (.t 50) (.ops [⟨(some 51), none, .mv (.t 7)⟩, ⟨(some 52), none, .slc 1 (.t 51) (some (.c (.int .i64 1))) none⟩, ⟨(some 7), none, .mv (.t 52)⟩]) (.skip)))
 (.seq (.seq (.ops [⟨(some 8), none, .mv (.c (.int .i64 1))⟩])
 (.block 3 (.loop (.seq (.seq (.ops [⟨(some 53), none, .mv (.t 8)⟩, ⟨(some 54), none, .mv (.t 7)⟩, ⟨(some 55), none, .len false (.t 54)⟩, ⟨(some 56), none, .bin 0 .lss (.t 53) (.t 55)⟩])
 (.cond (.t 56) (.skip) (.exit 3)))
 (.seq (.block 4 (.seq (.any [(⟨(some 59), none, .mv (.t 7)⟩, []), (⟨(some 60), none, .mv (.t 8)⟩, [0]), (⟨(some 61), none, .iadr 1 (.t 59) (.t 60)⟩, []), (⟨(some 62), none, .load none (.t 61)⟩, []), (⟨(some 63), none, .mv (.t 7)⟩, [0, 1, 2, 3]), (⟨(some 64), none, .mv (.t 8)⟩, [0, 1, 2, 3, 4]), (⟨(some 65), none, .bin 0 .sub (.t 64) (.c (.int .i64 1))⟩, [0, 1, 2, 3, 4]), (⟨(some 66), none, .iadr 1 (.t 63) (.t 65)⟩, [0, 1, 2, 3]), (⟨(some 67), none, .load none (.t 66)⟩, [0, 1, 2, 3]), (⟨(some 68), none, .bin 0 .leq (.t 62) (.t 67)⟩, [])])
 (.cond (.t 68) (.seq (.ops [⟨(some 4), none, .mv (.c (.int .i64 7))⟩])
 (.ret)) (.skip))))
 (.ops [⟨(some 57), none, .mv (.t 8)⟩, ⟨(some 58), none, .bin 0 .add (.t 57) (.c (.int .i64 1))⟩, ⟨(some 8), none, .mv (.t 58)⟩]))))))
 (.seq (.seq (.ops [⟨(some 69), none, .fadr 0 (.t 3)⟩, ⟨(some 70), none, .load none (.t 69)⟩, ⟨(some 71), none, .bin 0 .eql (.t 70) (.c (.int .i64 5))⟩, ⟨(some 72), none, .mv (.t 71)⟩, ⟨(some 73), (some (72, true)), .mv (.t 7)⟩, ⟨(some 74), (some (72, true)), .fadr 1 (.t 3)⟩, ⟨(some 75), (some (72, true)), .load none (.t 74)⟩, ⟨(some 76), (some (72, true)), .iadr 1 (.t 75) (.c (.int .i64 0))⟩, ⟨(some 77), (some (72, true)), .load none (.t 76)⟩, ⟨(some 78), (some (72, true)), .call 116 [(.t 73), (.t 77)]⟩, ⟨(some 79), none, .pick (.t 72) (.t 78) (.c (.bool false))⟩])
 (.cond (.t 79) (.seq (.ops [⟨(some 4), none, .mv (.c (.int .i64 6))⟩])
 (.ret)) (.skip)))
 (.seq (.ops [⟨(some 4), none, .mv (.c (.int .i64 0))⟩])
 (.ret)))))))))⟩
theorem c187 : compF Go.Proofs.Tryd.prog 187 = some a187 := by kernel_rfl
def a188 : AFn := ⟨16, [.t 6], .seq (.ops [⟨(some 4), none, .box 128 (.t 1)⟩, ⟨(some 6), none, .mv (.c (.lit true 0 []))⟩])
 (.seq (.ops [⟨(some 8), none, .mv (.t 0)⟩, ⟨(some 9), none, .call 223 [(.t 8)]⟩, ⟨(some 7), none, .mv (.t 9)⟩])
 (.seq (.any [(⟨(some 10), none, .mv (.t 7)⟩, []), (⟨(some 11), none, .load (some 2) (.t 4)⟩, [0]), (⟨(some 12), none, .mv (.t 2)⟩, [0, 1]), (⟨(some 13), none, .call 225 [(.t 12)]⟩, [0, 1]), (⟨(some 14), none, .call 224 [(.t 10), (.t 11), (.t 13)]⟩, [])])
 (.seq (.ops [⟨(some 15), none, .mv (.t 7)⟩, ⟨(some 6), none, .mv (.t 15)⟩])
 (.ret))))⟩
theorem c188 : compF Go.Proofs.Tryd.prog 188 = some a188 := by kernel_rfl
def a223 : AFn := ⟨8, [.t 2], .seq (.ops [⟨(some 2), none, .mv (.c (.lit true 0 []))⟩])
 (.seq (.seq (.ops [⟨(some 3), none, .mv (.t 0)⟩, ⟨(some 4), none, .bin 3 .eql (.t 3) (.c (.lit true 0 []))⟩])
 (.cond (.t 4) (.seq (.ops [⟨(some 2), none, .mv (.c (.lit true 0 []))⟩])
 (.ret)) (.skip)))
 (.seq (.ops [⟨(some 5), none, .bslice 132 1 0 [(.int .u64 0)] []⟩, ⟨(some 6), none, .mv (.t 0)⟩, ⟨(some 7), none, .app 132 1 8 (.t 5) (.t 6)⟩, ⟨(some 2), none, .mv (.t 7)⟩])
 (.ret)))⟩
theorem c223 : compF Go.Proofs.Tryd.prog 223 = some a223 := by kernel_rfl
def a224 : AFn := ⟨72, [], .seq (.ops [⟨(some 4), none, .box 128 (.t 1)⟩])
 (.seq (.ops [⟨(some 13), none, .mv (.t 0)⟩, ⟨(some 14), none, .fadr 1 (.t 4)⟩, ⟨(some 15), none, .load none (.t 14)⟩, ⟨(some 16), none, .iadr 1 (.t 15) (.c (.int .i64 0))⟩, ⟨(some 17), none, .load none (.t 16)⟩, ⟨(some 18), none, .iadr 1 (.t 13) (.t 17)⟩, ⟨(some 19), none, .load none (.t 18)⟩, ⟨(some 6), none, .mv (.t 19)⟩])
 (.seq (.seq (.ops [⟨(some 20), none, .fadr 0 (.t 4)⟩, ⟨(some 21), none, .load none (.t 20)⟩])
 (.block 0 (.seq (.ops [⟨(some 23), none, .bin 0 .eql (.t 21) (.c (.int .i64 1))⟩, ⟨(some 22), none, .mv (.t 23)⟩])
 (.cond (.t 22) (.ops [⟨(some 6), none, .mv (.c (.int .u64 0))⟩]) (.seq (.seq (.ops [⟨(some 25), none, .bin 0 .eql (.t 21) (.c (.int .i64 2))⟩, ⟨(some 24), none, .mv (.t 25)⟩])
 (.cond (.t 24) (.skip) (.ops [⟨(some 26), none, .bin 0 .eql (.t 21) (.c (.int .i64 6))⟩, ⟨(some 24), none, .mv (.t 26)⟩])))
 (.cond (.t 24) (.ops [⟨(some 27), none, .mv (.t 2)⟩, ⟨(some 6), none, .mv (.t 27)⟩]) (.seq (.ops [⟨(some 29), none, .bin 0 .eql (.t 21) (.c (.int .i64 3))⟩, ⟨(some 28), none, .mv (.t 29)⟩])
 (.cond (.t 28) (.seq (.ops [⟨(some 30), none, .fadr 1 (.t 4)⟩, ⟨(some 31), none, .load none (.t 30)⟩, ⟨(some 32), none, .len false (.t 31)⟩, ⟨(some 33), none, .mv (.c (.int .i64 0))⟩])
 (.block 1 (.loop (.seq (.ops [⟨(some 34), none, .bin 0 .lss (.t 33) (.t 32)⟩])
 (.seq (.cond (.t 34) (.skip) (.exit 1))
 (.seq (.block 2 (.seq (.ops [⟨(some 35), none, .iadr 1 (.t 31) (.t 33)⟩, ⟨(some 36), none, .load none (.t 35)⟩, ⟨(some 8), none, .mv (.t 36)⟩])
 (.ops [⟨(some 37), none, .mv (.t 6)⟩, ⟨(some 38), none, .mv (.t 0)⟩, ⟨(some 39), none, .mv (.t 8)⟩, ⟨(some 40), none, .iadr 1 (.t 38) (.t 39)⟩, ⟨(some 41), none, .load none (.t 40)⟩, ⟨(some 42), none, .bin 0 .and (.t 37) (.t 41)⟩, ⟨(some 6), none, .mv (.t 42)⟩])))
 (.ops [⟨(some 43), none, .bin 0 .add (.t 33) (.c (.int .i64 1))⟩, ⟨(some 33), none, .mv (.t 43)⟩]))))))) (.seq (.ops [⟨(some 45), none, .bin 0 .eql (.t 21) (.c (.int .i64 4))⟩, ⟨(some 44), none, .mv (.t 45)⟩])
 (.cond (.t 44) (.seq (.ops [⟨(some 46), none, .fadr 1 (.t 4)⟩, ⟨(some 47), none, .load none (.t 46)⟩, ⟨(some 48), none, .len false (.t 47)⟩, ⟨(some 49), none, .mv (.c (.int .i64 0))⟩])
 (.block 3 (.loop (.seq (.ops [⟨(some 50), none, .bin 0 .lss (.t 49) (.t 48)⟩])
 (.seq (.cond (.t 50) (.skip) (.exit 3))
 (.seq (.block 4 (.seq (.ops [⟨(some 51), none, .iadr 1 (.t 47) (.t 49)⟩, ⟨(some 52), none, .load none (.t 51)⟩, ⟨(some 10), none, .mv (.t 52)⟩])
 (.ops [⟨(some 53), none, .mv (.t 6)⟩, ⟨(some 54), none, .mv (.t 0)⟩, ⟨(some 55), none, .mv (.t 10)⟩, ⟨(some 56), none, .iadr 1 (.t 54) (.t 55)⟩, ⟨(some 57), none, .load none (.t 56)⟩, ⟨(some 58), none, .bin 0 .or (.t 53) (.t 57)⟩, ⟨(some 6), none, .mv (.t 58)⟩])))
 (.ops [⟨(some 59), none, .bin 0 .add (.t 49) (.c (.int .i64 1))⟩, ⟨(some 49), none, .mv (.t 59)⟩]))))))) (.skip)))))))))))
 (.seq (.ops [⟨(some 60), none, .fadr 1 (.t 4)⟩, ⟨(some 61), none, .load none (.t 60)⟩, ⟨(some 62), none, .len false (.t 61)⟩, ⟨(some 63), none, .mv (.c (.int .i64 0))⟩])
 (.block 5 (.loop (.seq (.ops [⟨(some 64), none, .bin 0 .lss (.t 63) (.t 62)⟩])
 (.seq (.cond (.t 64) (.skip) (.exit 5))
 (.seq (.block 6 (.seq (.ops [⟨(some 65), none, .iadr 1 (.t 61) (.t 63)⟩, ⟨(some 66), none, .load none (.t 65)⟩, ⟨(some 12), none, .mv (.t 66)⟩])
 (.ops [⟨(some 67), none, .mv (.t 0)⟩, ⟨(some 68), none, .mv (.t 12)⟩, ⟨(some 69), none, .mv (.t 6)⟩, ⟨(some 70), none, .iadr 1 (.t 67) (.t 68)⟩, ⟨none, none, .store 1 (.t 70) (.t 69)⟩])))
 (.ops [⟨(some 71), none, .bin 0 .add (.t 63) (.c (.int .i64 1))⟩, ⟨(some 63), none, .mv (.t 71)⟩])))))))))⟩
theorem c224 : compF Go.Proofs.Tryd.prog 224 = some a224 := by kernel_rfl
def a225 : AFn := ⟨6, [.t 2], .seq (.ops [⟨(some 2), none, .mv (.c (.int .u64 0))⟩])
 (.seq (.ops [⟨(some 3), none, .mv (.t 0)⟩, ⟨(some 4), none, .bin 0 .shl (.c (.int .u64 1)) (.t 3)⟩, ⟨(some 5), none, .bin 0 .sub (.t 4) (.c (.int .u64 1))⟩, ⟨(some 2), none, .mv (.t 5)⟩])
 (.ret))⟩
theorem c225 : compF Go.Proofs.Tryd.prog 225 = some a225 := by kernel_rfl
end Go.Proofs.YthcldfmlfjomfaaDoor
namespace Go.Proofs.YthcldfmlfjomfaaDoor
open Go.RowKit
theorem below_c (x n : Int) (nid : Nat) (hn : n ≤ 9223372036854775807) : ACall Tryd.prog 137 [.int .i64 x, .int .i64 n] [] nid (.int .i64 (below x n)) [] := by
  refine acall_run c137 (by simp [a137]) ?_
  simp -dsimp only [a137, aqT, ROp, OX, ↓seqK, ↓blkK, ↓loopK, step, stepBin, res, stepIdx, mix, PV.cells, argSlots, Nat.reduceBEq, Nat.reduceBeqDiff, Nat.add_assoc nid, Nat.reduceAdd, reduceCtorEq, ↓reduceIte, Nat.reduceLeDiff, colPV, freeOf, indep, offO, neqO, disj, namesX, axSlot, opXs, rdXs, idsOf, idsOfs, lowH, lowAll, keys, Nat.reduceBneDiff, Option.toList, ← Int.ofNat_tmod, ← Int.ofNat_tdiv, optInt, fillP, repl, chunk, mkCols, mkCol, colInts, colBools, colStrs, colLits, colsApp, Col.app, tailOf, splice, colsPut, Col.put, mmFold, eqK, Nat.reduceLT, colsPaste, Col.paste, mNew, mkKey, keyIn, mGet, mPut]
  refine S2.dec (fun h => ?_) (fun h => ?_)
  · simp -dsimp only [aqT, ROp, OX, ↓seqK, ↓blkK, ↓loopK, step, stepBin, res, stepIdx, mix, PV.cells, argSlots, Nat.reduceBEq, Nat.reduceBeqDiff, Nat.add_assoc nid, Nat.reduceAdd, reduceCtorEq, ↓reduceIte, Nat.reduceLeDiff, colPV, freeOf, indep, offO, neqO, disj, namesX, axSlot, opXs, rdXs, idsOf, idsOfs, lowH, lowAll, keys, Nat.reduceBneDiff, Option.toList, ← Int.ofNat_tmod, ← Int.ofNat_tdiv, optInt, fillP, repl, chunk, mkCols, mkCol, colInts, colBools, colStrs, colLits, colsApp, Col.app, tailOf, splice, colsPut, Col.put, mmFold, eqK, Nat.reduceLT, colsPaste, Col.paste, mNew, mkKey, keyIn, mGet, mPut]
    refine RetOK.pure (.inl rfl) rfl ?_
    simp [retPV, PVCov, getS, below, h]
  simp -dsimp only [aqT, ROp, OX, ↓seqK, ↓blkK, ↓loopK, step, stepBin, res, stepIdx, mix, PV.cells, argSlots, Nat.reduceBEq, Nat.reduceBeqDiff, Nat.add_assoc nid, Nat.reduceAdd, reduceCtorEq, ↓reduceIte, Nat.reduceLeDiff, colPV, freeOf, indep, offO, neqO, disj, namesX, axSlot, opXs, rdXs, idsOf, idsOfs, lowH, lowAll, keys, Nat.reduceBneDiff, Option.toList, ← Int.ofNat_tmod, ← Int.ofNat_tdiv, optInt, fillP, repl, chunk, mkCols, mkCol, colInts, colBools, colStrs, colLits, colsApp, Col.app, tailOf, splice, colsPut, Col.put, mmFold, eqK, Nat.reduceLT, colsPaste, Col.paste, mNew, mkKey, keyIn, mGet, mPut]
  refine ⟨by omega, S2.dec (fun h2 => ?_) (fun h2 => ?_)⟩
  · simp -dsimp only [aqT, ROp, OX, ↓seqK, ↓blkK, ↓loopK, step, stepBin, res, stepIdx, mix, PV.cells, argSlots, Nat.reduceBEq, Nat.reduceBeqDiff, Nat.add_assoc nid, Nat.reduceAdd, reduceCtorEq, ↓reduceIte, Nat.reduceLeDiff, colPV, freeOf, indep, offO, neqO, disj, namesX, axSlot, opXs, rdXs, idsOf, idsOfs, lowH, lowAll, keys, Nat.reduceBneDiff, Option.toList, ← Int.ofNat_tmod, ← Int.ofNat_tdiv, optInt, fillP, repl, chunk, mkCols, mkCol, colInts, colBools, colStrs, colLits, colsApp, Col.app, tailOf, splice, colsPut, Col.put, mmFold, eqK, Nat.reduceLT, colsPaste, Col.paste, mNew, mkKey, keyIn, mGet, mPut]
    have := Int.lt_tmod_of_pos x (show 0 < n by omega)
    refine ⟨by unfold inI64; omega, RetOK.pure (.inl rfl) rfl ?_⟩
    have h3 : x.tmod n + n = x % n := by rw [Int.tmod_eq_emod]; split <;> rw [Int.tmod_eq_emod] at h2 <;> rename_i h6 <;> simp only [h6, if_true, if_false, not_false_eq_true] at h2 <;> have := Int.emod_nonneg x (show n ≠ 0 by omega) <;> omega
    simp [retPV, over, keys, List.map_nil, List.map_cons, List.contains_cons, List.contains_nil, Bool.or_false, Bool.or_true, Bool.true_or, Bool.false_or, beq_self_eq_true, cond_true, cond_false, HeapCov, orNil, nilSz, onBlk, srcOf, getH_hit, getH_miss, getH.eq_1, getS_hit, getS_miss, getS.eq_1, BlkCov, PVCovs, PVCov, ColsEq, ColEq.refl, liveIds, SlotsCov, List.all_nil, List.all_cons, List.any_nil, List.any_cons, List.nil_append, List.cons_append, inRange, apart, nilBlk, idS1, idS2, readAll, readRes, onAll, step, res, AX.val, List.drop_zero, List.drop_succ_cons, List.take_succ_cons, List.take_zero, below, h, h3]
  · simp -dsimp only [aqT, ROp, OX, ↓seqK, ↓blkK, ↓loopK, step, stepBin, res, stepIdx, mix, PV.cells, argSlots, Nat.reduceBEq, Nat.reduceBeqDiff, Nat.add_assoc nid, Nat.reduceAdd, reduceCtorEq, ↓reduceIte, Nat.reduceLeDiff, colPV, freeOf, indep, offO, neqO, disj, namesX, axSlot, opXs, rdXs, idsOf, idsOfs, lowH, lowAll, keys, Nat.reduceBneDiff, Option.toList, ← Int.ofNat_tmod, ← Int.ofNat_tdiv, optInt, fillP, repl, chunk, mkCols, mkCol, colInts, colBools, colStrs, colLits, colsApp, Col.app, tailOf, splice, colsPut, Col.put, mmFold, eqK, Nat.reduceLT, colsPaste, Col.paste, mNew, mkKey, keyIn, mGet, mPut]
    refine RetOK.pure (.inl rfl) rfl ?_
    have h3 : x.tmod n = x % n := by rw [Int.tmod_eq_emod]; split <;> rw [Int.tmod_eq_emod] at h2 <;> rename_i h6 <;> simp only [h6, if_true, if_false, not_false_eq_true] at h2 <;> have := Int.emod_lt_of_pos x (show 0 < n by omega) <;> omega
    simp [retPV, over, keys, List.map_nil, List.map_cons, List.contains_cons, List.contains_nil, Bool.or_false, Bool.or_true, Bool.true_or, Bool.false_or, beq_self_eq_true, cond_true, cond_false, HeapCov, orNil, nilSz, onBlk, srcOf, getH_hit, getH_miss, getH.eq_1, getS_hit, getS_miss, getS.eq_1, BlkCov, PVCovs, PVCov, ColsEq, ColEq.refl, liveIds, SlotsCov, List.all_nil, List.all_cons, List.any_nil, List.any_cons, List.nil_append, List.cons_append, inRange, apart, nilBlk, idS1, idS2, readAll, readRes, onAll, step, res, AX.val, List.drop_zero, List.drop_succ_cons, List.take_succ_cons, List.take_zero, below, h, h3]
def strmC (nl : Bool) (A : List Int) (p : Nat) : Option ABlk := some (.box 25 [.lit nl A.length [.i .i64 fun i => A.getD i 0], .int .i64 p])
theorem strmC_low (n : Nat) (nl : Bool) (A : List Int) (p : Nat) : lowBlk n (strmC nl A p) = true := rfl
theorem next_c (s nid : Nat) (nl : Bool) (A : List Int) (p : Nat) (n : Int) (h : s < nid) (hp : p ≤ 1099511627775) (hA : A.length ≤ 17592186044416) (hn : n ≤ 9223372036854775807) :
    ACall Tryd.prog 85 [.ptr s 0, .int .i64 n] [(s, strmC nl A p)] nid (.int .i64 (nextV A p n)) [(s, strmC nl A (p + 1))] := by
  obtain ⟨e1, e2, e3, e4, e5, e6, e7, e8, e9⟩ := id_all h
  refine acall_run c85 (by simp [a85]) ?_
  simp -dsimp only [a85, strmC, aqT, ROp, OX, ↓seqK, ↓blkK, ↓loopK, step, stepBin, res, stepIdx, mix, PV.cells, argSlots, Nat.reduceBEq, Nat.reduceBeqDiff, Nat.add_assoc nid, Nat.reduceAdd, reduceCtorEq, ↓reduceIte, Nat.reduceLeDiff, colPV, freeOf, indep, offO, neqO, disj, namesX, axSlot, opXs, rdXs, idsOf, idsOfs, lowH, lowAll, keys, Nat.reduceBneDiff, Option.toList, ← Int.ofNat_tmod, ← Int.ofNat_tdiv, optInt, fillP, repl, chunk, mkCols, mkCol, colInts, colBools, colStrs, colLits, colsApp, Col.app, tailOf, splice, colsPut, Col.put, mmFold, eqK, Nat.reduceLT, colsPaste, Col.paste, mNew, mkKey, keyIn, mGet, mPut, e1, e2, e3, e4, e5, e6, e7, e8, e9]
  refine ⟨by unfold inI64; omega, S2.intro (fun h2 => ?_) (fun h2 => ?_)⟩
  · simp -dsimp only [aqT, ROp, OX, ↓seqK, ↓blkK, ↓loopK, step, stepBin, res, stepIdx, mix, PV.cells, argSlots, Nat.reduceBEq, Nat.reduceBeqDiff, Nat.add_assoc nid, Nat.reduceAdd, reduceCtorEq, ↓reduceIte, Nat.reduceLeDiff, colPV, freeOf, indep, offO, neqO, disj, namesX, axSlot, opXs, rdXs, idsOf, idsOfs, lowH, lowAll, keys, Nat.reduceBneDiff, Option.toList, ← Int.ofNat_tmod, ← Int.ofNat_tdiv, optInt, fillP, repl, chunk, mkCols, mkCol, colInts, colBools, colStrs, colLits, colsApp, Col.app, tailOf, splice, colsPut, Col.put, mmFold, eqK, Nat.reduceLT, colsPaste, Col.paste, mNew, mkKey, keyIn, mGet, mPut, e1, e2, e3, e4, e5, e6, e7, e8, e9]
    refine ⟨by unfold inI64; omega, CallO.pure (below_c _ _ _ hn) ?_⟩
    simp -dsimp only [aqT, ROp, OX, ↓seqK, ↓blkK, ↓loopK, step, stepBin, res, stepIdx, mix, PV.cells, argSlots, Nat.reduceBEq, Nat.reduceBeqDiff, Nat.add_assoc nid, Nat.reduceAdd, reduceCtorEq, ↓reduceIte, Nat.reduceLeDiff, colPV, freeOf, indep, offO, neqO, disj, namesX, axSlot, opXs, rdXs, idsOf, idsOfs, lowH, lowAll, keys, Nat.reduceBneDiff, Option.toList, ← Int.ofNat_tmod, ← Int.ofNat_tdiv, optInt, fillP, repl, chunk, mkCols, mkCol, colInts, colBools, colStrs, colLits, colsApp, Col.app, tailOf, splice, colsPut, Col.put, mmFold, eqK, Nat.reduceLT, colsPaste, Col.paste, mNew, mkKey, keyIn, mGet, mPut, e1, e2, e3, e4, e5, e6, e7, e8, e9]
    have h3 : A.length = 0 := by simpa using h2
    refine RetOK.same (.inl rfl) rfl (by simp [strmC, liveIds]; omega) ?_ ?_
    · simp [retPV, over, keys, List.map_nil, List.map_cons, List.contains_cons, List.contains_nil, Bool.or_false, Bool.or_true, Bool.true_or, Bool.false_or, beq_self_eq_true, cond_true, cond_false, HeapCov, orNil, nilSz, onBlk, srcOf, getH_hit, getH_miss, getH.eq_1, getS_hit, getS_miss, getS.eq_1, BlkCov, PVCovs, PVCov, ColsEq, ColEq.refl, liveIds, SlotsCov, List.all_nil, List.all_cons, List.any_nil, List.any_cons, List.nil_append, List.cons_append, inRange, apart, nilBlk, idS1, idS2, readAll, readRes, onAll, step, res, AX.val, List.drop_zero, List.drop_succ_cons, List.take_succ_cons, List.take_zero, strmC]
    · simp [retPV, over, keys, List.map_nil, List.map_cons, List.contains_cons, List.contains_nil, Bool.or_false, Bool.or_true, Bool.true_or, Bool.false_or, beq_self_eq_true, cond_true, cond_false, HeapCov, orNil, nilSz, onBlk, srcOf, getH_hit, getH_miss, getH.eq_1, getS_hit, getS_miss, getS.eq_1, BlkCov, PVCovs, PVCov, ColsEq, ColEq.refl, liveIds, SlotsCov, List.all_nil, List.all_cons, List.any_nil, List.any_cons, List.nil_append, List.cons_append, inRange, apart, nilBlk, idS1, idS2, readAll, readRes, onAll, step, res, AX.val, List.drop_zero, List.drop_succ_cons, List.take_succ_cons, List.take_zero, nextV, h3]
  · simp -dsimp only [aqT, ROp, OX, ↓seqK, ↓blkK, ↓loopK, step, stepBin, res, stepIdx, mix, PV.cells, argSlots, Nat.reduceBEq, Nat.reduceBeqDiff, Nat.add_assoc nid, Nat.reduceAdd, reduceCtorEq, ↓reduceIte, Nat.reduceLeDiff, colPV, freeOf, indep, offO, neqO, disj, namesX, axSlot, opXs, rdXs, idsOf, idsOfs, lowH, lowAll, keys, Nat.reduceBneDiff, Option.toList, ← Int.ofNat_tmod, ← Int.ofNat_tdiv, optInt, fillP, repl, chunk, mkCols, mkCol, colInts, colBools, colStrs, colLits, colsApp, Col.app, tailOf, splice, colsPut, Col.put, mmFold, eqK, Nat.reduceLT, colsPaste, Col.paste, mNew, mkKey, keyIn, mGet, mPut, e1, e2, e3, e4, e5, e6, e7, e8, e9]
    have h3 : 0 < A.length := by have : ¬ A.length = 0 := by simpa using h2
                                 omega
    have h4 : ∀ z : Nat, z ≤ 1099511627776 → IntKind.i64.wrap (z : Int) = z := fun z hz => IntWalk.i64_in _ (by omega)
    have h5 : p / A.length ≤ p := Nat.div_le_self _ _
    have h6 : p % A.length < A.length := Nat.mod_lt _ h3
    have h11 := h4 _ (show p / A.length ≤ 1099511627776 by omega)
    refine ⟨by unfold inI64; omega, by omega, by unfold inI64; omega, by omega, by omega, CallO.pure (below_c _ _ _ (by omega)) ?_⟩
    simp -dsimp only [aqT, ROp, OX, ↓seqK, ↓blkK, ↓loopK, step, stepBin, res, stepIdx, mix, PV.cells, argSlots, Nat.reduceBEq, Nat.reduceBeqDiff, Nat.add_assoc nid, Nat.reduceAdd, reduceCtorEq, ↓reduceIte, Nat.reduceLeDiff, colPV, freeOf, indep, offO, neqO, disj, namesX, axSlot, opXs, rdXs, idsOf, idsOfs, lowH, lowAll, keys, Nat.reduceBneDiff, Option.toList, ← Int.ofNat_tmod, ← Int.ofNat_tdiv, optInt, fillP, repl, chunk, mkCols, mkCol, colInts, colBools, colStrs, colLits, colsApp, Col.app, tailOf, splice, colsPut, Col.put, mmFold, eqK, Nat.reduceLT, colsPaste, Col.paste, mNew, mkKey, keyIn, mGet, mPut, h11, e1, e2, e3, e4, e5, e6, e7, e8, e9]
    have h7 := round_bd p A.length h3 (by omega)
    have h8 := below_bd (A.getD (p % A.length) 0) (n := 1073741824) (by omega)
    rw [← Int.natCast_emod, ← Int.natCast_ediv] at h7
    generalize h9 : ((p / A.length : Nat) : Int) * (7919 + ((p % A.length : Nat) : Int)) = z at h7 ⊢
    refine ⟨by unfold inI64; omega, by unfold inI64; omega, by unfold inI64; omega, CallO.pure (below_c _ _ _ hn) ?_⟩
    simp -dsimp only [aqT, ROp, OX, ↓seqK, ↓blkK, ↓loopK, step, stepBin, res, stepIdx, mix, PV.cells, argSlots, Nat.reduceBEq, Nat.reduceBeqDiff, Nat.add_assoc nid, Nat.reduceAdd, reduceCtorEq, ↓reduceIte, Nat.reduceLeDiff, colPV, freeOf, indep, offO, neqO, disj, namesX, axSlot, opXs, rdXs, idsOf, idsOfs, lowH, lowAll, keys, Nat.reduceBneDiff, Option.toList, ← Int.ofNat_tmod, ← Int.ofNat_tdiv, optInt, fillP, repl, chunk, mkCols, mkCol, colInts, colBools, colStrs, colLits, colsApp, Col.app, tailOf, splice, colsPut, Col.put, mmFold, eqK, Nat.reduceLT, colsPaste, Col.paste, mNew, mkKey, keyIn, mGet, mPut, e1, e2, e3, e4, e5, e6, e7, e8, e9]
    refine RetOK.same (.inl rfl) rfl (by simp [strmC, liveIds]; omega) ?_ ?_
    · simp [retPV, over, keys, List.map_nil, List.map_cons, List.contains_cons, List.contains_nil, Bool.or_false, Bool.or_true, Bool.true_or, Bool.false_or, beq_self_eq_true, cond_true, cond_false, HeapCov, orNil, nilSz, onBlk, srcOf, getH_hit, getH_miss, getH.eq_1, getS_hit, getS_miss, getS.eq_1, BlkCov, PVCovs, PVCov, ColsEq, ColEq.refl, liveIds, SlotsCov, List.all_nil, List.all_cons, List.any_nil, List.any_cons, List.nil_append, List.cons_append, inRange, apart, nilBlk, idS1, idS2, readAll, readRes, onAll, step, res, AX.val, List.drop_zero, List.drop_succ_cons, List.take_succ_cons, List.take_zero, strmC]
    · have h10 : A.length ≠ 0 := by omega
      simp [retPV, over, keys, List.map_nil, List.map_cons, List.contains_cons, List.contains_nil, Bool.or_false, Bool.or_true, Bool.true_or, Bool.false_or, beq_self_eq_true, cond_true, cond_false, HeapCov, orNil, nilSz, onBlk, srcOf, getH_hit, getH_miss, getH.eq_1, getS_hit, getS_miss, getS.eq_1, BlkCov, PVCovs, PVCov, ColsEq, ColEq.refl, liveIds, SlotsCov, List.all_nil, List.all_cons, List.any_nil, List.any_cons, List.nil_append, List.cons_append, inRange, apart, nilBlk, idS1, idS2, readAll, readRes, onAll, step, res, AX.val, List.drop_zero, List.drop_succ_cons, List.take_succ_cons, List.take_zero, nextV, h10, ← h9]
theorem range_c (s nid : Nat) (nl : Bool) (A : List Int) (p : Nat) (lo hi : Int) (h : s < nid) (hp : p ≤ 1099511627775) (hA : A.length ≤ 17592186044416) (h1 : lo ≤ hi) (hl : -1099511627776 ≤ lo) (hh : hi ≤ 1099511627776) :
    ACall Tryd.prog 37 [.ptr s 0, .int .i64 lo, .int .i64 hi] [(s, strmC nl A p)] nid (.int .i64 (rangeV A p lo hi)) [(s, strmC nl A (p + 1))] := by
  obtain ⟨e1, e2, e3, e4, e5, e6, e7, e8, e9⟩ := id_all h
  refine acall_run c37 (by simp [a37]) ?_
  simp -dsimp only [a37, aqT, ROp, OX, ↓seqK, ↓blkK, ↓loopK, step, stepBin, res, stepIdx, mix, PV.cells, argSlots, Nat.reduceBEq, Nat.reduceBeqDiff, Nat.add_assoc nid, Nat.reduceAdd, reduceCtorEq, ↓reduceIte, Nat.reduceLeDiff, colPV, freeOf, indep, offO, neqO, disj, namesX, axSlot, opXs, rdXs, idsOf, idsOfs, lowH, lowAll, keys, Nat.reduceBneDiff, Option.toList, ← Int.ofNat_tmod, ← Int.ofNat_tdiv, optInt, fillP, repl, chunk, mkCols, mkCol, colInts, colBools, colStrs, colLits, colsApp, Col.app, tailOf, splice, colsPut, Col.put, mmFold, eqK, Nat.reduceLT, colsPaste, Col.paste, mNew, mkKey, keyIn, mGet, mPut, e1, e2, e3, e4, e5, e6, e7, e8, e9]
  refine S2.dec (fun h => absurd h (by omega)) (fun h => ?_)
  simp -dsimp only [aqT, ROp, OX, ↓seqK, ↓blkK, ↓loopK, step, stepBin, res, stepIdx, mix, PV.cells, argSlots, Nat.reduceBEq, Nat.reduceBeqDiff, Nat.add_assoc nid, Nat.reduceAdd, reduceCtorEq, ↓reduceIte, Nat.reduceLeDiff, colPV, freeOf, indep, offO, neqO, disj, namesX, axSlot, opXs, rdXs, idsOf, idsOfs, lowH, lowAll, keys, Nat.reduceBneDiff, Option.toList, ← Int.ofNat_tmod, ← Int.ofNat_tdiv, optInt, fillP, repl, chunk, mkCols, mkCol, colInts, colBools, colStrs, colLits, colsApp, Col.app, tailOf, splice, colsPut, Col.put, mmFold, eqK, Nat.reduceLT, colsPaste, Col.paste, mNew, mkKey, keyIn, mGet, mPut, e1, e2, e3, e4, e5, e6, e7, e8, e9]
  refine ⟨by unfold inI64; omega, by unfold inI64; omega, CallO.on (next_c _ _ _ _ _ _ (by omega) hp hA (by omega)) (subH_hit _ _ _) ?_⟩
  simp -dsimp only [aqT, ROp, OX, ↓seqK, ↓blkK, ↓loopK, step, stepBin, res, stepIdx, mix, PV.cells, argSlots, Nat.reduceBEq, Nat.reduceBeqDiff, Nat.add_assoc nid, Nat.reduceAdd, reduceCtorEq, ↓reduceIte, Nat.reduceLeDiff, colPV, freeOf, indep, offO, neqO, disj, namesX, axSlot, opXs, rdXs, idsOf, idsOfs, lowH, lowAll, keys, Nat.reduceBneDiff, Option.toList, ← Int.ofNat_tmod, ← Int.ofNat_tdiv, optInt, fillP, repl, chunk, mkCols, mkCol, colInts, colBools, colStrs, colLits, colsApp, Col.app, tailOf, splice, colsPut, Col.put, mmFold, eqK, Nat.reduceLT, colsPaste, Col.paste, mNew, mkKey, keyIn, mGet, mPut, e1, e2, e3, e4, e5, e6, e7, e8, e9]
  have := nextV_bd A p (n := hi - lo + 1) (by omega)
  refine ⟨by unfold inI64; omega, RetOK.same (.inl rfl) rfl (by simp [strmC, liveIds]; omega) ?_ ?_⟩
  · simp [retPV, over, keys, List.map_nil, List.map_cons, List.contains_cons, List.contains_nil, Bool.or_false, Bool.or_true, Bool.true_or, Bool.false_or, beq_self_eq_true, cond_true, cond_false, HeapCov, orNil, nilSz, onBlk, srcOf, getH_hit, getH_miss, getH.eq_1, getS_hit, getS_miss, getS.eq_1, BlkCov, PVCovs, PVCov, ColsEq, ColEq.refl, liveIds, SlotsCov, List.all_nil, List.all_cons, List.any_nil, List.any_cons, List.nil_append, List.cons_append, inRange, apart, nilBlk, idS1, idS2, readAll, readRes, onAll, step, res, AX.val, List.drop_zero, List.drop_succ_cons, List.take_succ_cons, List.take_zero, strmC]
  · simp [retPV, over, keys, List.map_nil, List.map_cons, List.contains_cons, List.contains_nil, Bool.or_false, Bool.or_true, Bool.true_or, Bool.false_or, beq_self_eq_true, cond_true, cond_false, HeapCov, orNil, nilSz, onBlk, srcOf, getH_hit, getH_miss, getH.eq_1, getS_hit, getS_miss, getS.eq_1, BlkCov, PVCovs, PVCov, ColsEq, ColEq.refl, liveIds, SlotsCov, List.all_nil, List.all_cons, List.any_nil, List.any_cons, List.nil_append, List.cons_append, inRange, apart, nilBlk, idS1, idS2, readAll, readRes, onAll, step, res, AX.val, List.drop_zero, List.drop_succ_cons, List.take_succ_cons, List.take_zero, rangeV]
theorem flip_c (s nid : Nat) (nl : Bool) (A : List Int) (p : Nat) (n : Int) (h : s < nid) (hp : p ≤ 1099511627775) (hA : A.length ≤ 17592186044416) (hn : n ≤ 9223372036854775807) :
    ACall Tryd.prog 43 [.ptr s 0, .int .i64 n] [(s, strmC nl A p)] nid (.bool (flipV A p n)) [(s, strmC nl A (p + 1))] := by
  obtain ⟨e1, e2, e3, e4, e5, e6, e7, e8, e9⟩ := id_all h
  refine acall_run c43 (by simp [a43]) ?_
  simp -dsimp only [a43, aqT, ROp, OX, ↓seqK, ↓blkK, ↓loopK, step, stepBin, res, stepIdx, mix, PV.cells, argSlots, Nat.reduceBEq, Nat.reduceBeqDiff, Nat.add_assoc nid, Nat.reduceAdd, reduceCtorEq, ↓reduceIte, Nat.reduceLeDiff, colPV, freeOf, indep, offO, neqO, disj, namesX, axSlot, opXs, rdXs, idsOf, idsOfs, lowH, lowAll, keys, Nat.reduceBneDiff, Option.toList, ← Int.ofNat_tmod, ← Int.ofNat_tdiv, optInt, fillP, repl, chunk, mkCols, mkCol, colInts, colBools, colStrs, colLits, colsApp, Col.app, tailOf, splice, colsPut, Col.put, mmFold, eqK, Nat.reduceLT, colsPaste, Col.paste, mNew, mkKey, keyIn, mGet, mPut, e1, e2, e3, e4, e5, e6, e7, e8, e9]
  refine CallO.on (next_c _ _ _ _ _ _ (by omega) hp hA hn) (subH_hit _ _ _) ?_
  simp -dsimp only [aqT, ROp, OX, ↓seqK, ↓blkK, ↓loopK, step, stepBin, res, stepIdx, mix, PV.cells, argSlots, Nat.reduceBEq, Nat.reduceBeqDiff, Nat.add_assoc nid, Nat.reduceAdd, reduceCtorEq, ↓reduceIte, Nat.reduceLeDiff, colPV, freeOf, indep, offO, neqO, disj, namesX, axSlot, opXs, rdXs, idsOf, idsOfs, lowH, lowAll, keys, Nat.reduceBneDiff, Option.toList, ← Int.ofNat_tmod, ← Int.ofNat_tdiv, optInt, fillP, repl, chunk, mkCols, mkCol, colInts, colBools, colStrs, colLits, colsApp, Col.app, tailOf, splice, colsPut, Col.put, mmFold, eqK, Nat.reduceLT, colsPaste, Col.paste, mNew, mkKey, keyIn, mGet, mPut, e1, e2, e3, e4, e5, e6, e7, e8, e9]
  refine RetOK.same (.inl rfl) rfl (by simp [strmC, liveIds]; omega) ?_ ?_
  · simp [retPV, over, keys, List.map_nil, List.map_cons, List.contains_cons, List.contains_nil, Bool.or_false, Bool.or_true, Bool.true_or, Bool.false_or, beq_self_eq_true, cond_true, cond_false, HeapCov, orNil, nilSz, onBlk, srcOf, getH_hit, getH_miss, getH.eq_1, getS_hit, getS_miss, getS.eq_1, BlkCov, PVCovs, PVCov, ColsEq, ColEq.refl, liveIds, SlotsCov, List.all_nil, List.all_cons, List.any_nil, List.any_cons, List.nil_append, List.cons_append, inRange, apart, nilBlk, idS1, idS2, readAll, readRes, onAll, step, res, AX.val, List.drop_zero, List.drop_succ_cons, List.take_succ_cons, List.take_zero, strmC]
  · simp [retPV, over, keys, List.map_nil, List.map_cons, List.contains_cons, List.contains_nil, Bool.or_false, Bool.or_true, Bool.true_or, Bool.false_or, beq_self_eq_true, cond_true, cond_false, HeapCov, orNil, nilSz, onBlk, srcOf, getH_hit, getH_miss, getH.eq_1, getS_hit, getS_miss, getS.eq_1, BlkCov, PVCovs, PVCov, ColsEq, ColEq.refl, liveIds, SlotsCov, List.all_nil, List.all_cons, List.any_nil, List.any_cons, List.nil_append, List.cons_append, inRange, apart, nilBlk, idS1, idS2, readAll, readRes, onAll, step, res, AX.val, List.drop_zero, List.drop_succ_cons, List.take_succ_cons, List.take_zero, flipV]
theorem pick_c (s nid : Nat) (nl nl' : Bool) (A : List Int) (p : Nat) (n : Nat) (g : Nat → Int) (h : s < nid) (hp : p ≤ 1099511627775) (hA : A.length ≤ 17592186044416) (h1 : 0 < n) (hn : n ≤ 1099511627776) :
    ACall Tryd.prog 58 [.ptr s 0, .lit nl' n [.i .i64 g]] [(s, strmC nl A p)] nid (.int .i64 (g (pickI A p n))) [(s, strmC nl A (p + 1))] := by
  obtain ⟨e1, e2, e3, e4, e5, e6, e7, e8, e9⟩ := id_all h
  refine acall_run c58 (by simp [a58]) ?_
  simp -dsimp only [a58, aqT, ROp, OX, ↓seqK, ↓blkK, ↓loopK, step, stepBin, res, stepIdx, mix, PV.cells, argSlots, Nat.reduceBEq, Nat.reduceBeqDiff, Nat.add_assoc nid, Nat.reduceAdd, reduceCtorEq, ↓reduceIte, Nat.reduceLeDiff, colPV, freeOf, indep, offO, neqO, disj, namesX, axSlot, opXs, rdXs, idsOf, idsOfs, lowH, lowAll, keys, Nat.reduceBneDiff, Option.toList, ← Int.ofNat_tmod, ← Int.ofNat_tdiv, optInt, fillP, repl, chunk, mkCols, mkCol, colInts, colBools, colStrs, colLits, colsApp, Col.app, tailOf, splice, colsPut, Col.put, mmFold, eqK, Nat.reduceLT, colsPaste, Col.paste, mNew, mkKey, keyIn, mGet, mPut, e1, e2, e3, e4, e5, e6, e7, e8, e9]
  refine CallO.on (next_c _ _ _ _ _ _ (by omega) hp hA (by omega)) (subH_hit _ _ _) ?_
  simp -dsimp only [aqT, ROp, OX, ↓seqK, ↓blkK, ↓loopK, step, stepBin, res, stepIdx, mix, PV.cells, argSlots, Nat.reduceBEq, Nat.reduceBeqDiff, Nat.add_assoc nid, Nat.reduceAdd, reduceCtorEq, ↓reduceIte, Nat.reduceLeDiff, colPV, freeOf, indep, offO, neqO, disj, namesX, axSlot, opXs, rdXs, idsOf, idsOfs, lowH, lowAll, keys, Nat.reduceBneDiff, Option.toList, ← Int.ofNat_tmod, ← Int.ofNat_tdiv, optInt, fillP, repl, chunk, mkCols, mkCol, colInts, colBools, colStrs, colLits, colsApp, Col.app, tailOf, splice, colsPut, Col.put, mmFold, eqK, Nat.reduceLT, colsPaste, Col.paste, mNew, mkKey, keyIn, mGet, mPut, e1, e2, e3, e4, e5, e6, e7, e8, e9]
  have := nextV_bd A p (n := (n : Int)) (by omega)
  refine ⟨this, RetOK.same (.inl rfl) rfl (by simp [strmC, liveIds]; omega) ?_ ?_⟩
  · simp [retPV, over, keys, List.map_nil, List.map_cons, List.contains_cons, List.contains_nil, Bool.or_false, Bool.or_true, Bool.true_or, Bool.false_or, beq_self_eq_true, cond_true, cond_false, HeapCov, orNil, nilSz, onBlk, srcOf, getH_hit, getH_miss, getH.eq_1, getS_hit, getS_miss, getS.eq_1, BlkCov, PVCovs, PVCov, ColsEq, ColEq.refl, liveIds, SlotsCov, List.all_nil, List.all_cons, List.any_nil, List.any_cons, List.nil_append, List.cons_append, inRange, apart, nilBlk, idS1, idS2, readAll, readRes, onAll, step, res, AX.val, List.drop_zero, List.drop_succ_cons, List.take_succ_cons, List.take_zero, strmC]
  · simp [retPV, over, keys, List.map_nil, List.map_cons, List.contains_cons, List.contains_nil, Bool.or_false, Bool.or_true, Bool.true_or, Bool.false_or, beq_self_eq_true, cond_true, cond_false, HeapCov, orNil, nilSz, onBlk, srcOf, getH_hit, getH_miss, getH.eq_1, getS_hit, getS_miss, getS.eq_1, BlkCov, PVCovs, PVCov, ColsEq, ColEq.refl, liveIds, SlotsCov, List.all_nil, List.all_cons, List.any_nil, List.any_cons, List.nil_append, List.cons_append, inRange, apart, nilBlk, idS1, idS2, readAll, readRes, onAll, step, res, AX.val, List.drop_zero, List.drop_succ_cons, List.take_succ_cons, List.take_zero, pickI]
theorem CallX.pick_go {s id nid : Nat} {nl : Bool} {A : List Int} {p : Nat} {n T : Nat} {g : Nat → Int} {H : Heap} {K : PV → Heap → List Nat → Prop} (hs : getH H s = strmC nl A p) (hid : getH H id = some (.arr T n [.i .i64 g])) (hne : (s == id) = false) (h : s < nid) (hp : p ≤ 1099511627775) (hA : A.length ≤ 17592186044416) (h1 : 0 < n) (hn : n ≤ 1099511627776)
    (hK : K (.int .i64 (g (pickI A p n))) [(s, strmC nl A (p + 1)), (id, none)] [s, id]) : CallX Tryd.prog 58 [.ptr s 0, .sl id 0 n] H nid K := by
  refine CallX.given [id] (u := [(s, strmC nl A (p + 1))]) (fun nl' => ?_) (subH_get hs) (by simp [getH, hne]) hK
  have e : lends H [id] nl' [.ptr s 0, .sl id 0 n] = [.ptr s 0, .lit (nl' id) n [.i .i64 g]] := by simp [lends, lend, hid]
  rw [e]
  exact pick_c s _ nl _ A p n _ h hp hA h1 hn
theorem CallO.pick_go {s id nid : Nat} {nl : Bool} {A : List Int} {p : Nat} {n T : Nat} {g : Nat → Int} {H : Heap} {K : PV → Heap → Prop} (hs : getH H s = strmC nl A p) (hid : getH H id = some (.arr T n [.i .i64 g])) (hne : (s == id) = false) (h : s < nid) (hp : p ≤ 1099511627775) (hA : A.length ≤ 17592186044416) (h1 : 0 < n) (hn : n ≤ 1099511627776)
    (hK : K (.int .i64 (g (pickI A p n))) [(s, strmC nl A (p + 1)), (id, none)]) : CallOK Tryd.prog 58 [.ptr s 0, .sl id 0 n] H nid K :=
  CallO.x (CallX.pick_go hs hid hne h hp hA h1 hn hK)
end Go.Proofs.YthcldfmlfjomfaaDoor
namespace Go.Proofs.YthcldfmlfjomfaaDoor
open Go.RowKit
def litI (nl : Bool) (l : List Int) : PV := .lit nl l.length [.i .i64 fun i => l.getD i 0]
theorem out_c (x lo hi : Int) (nid : Nat) : ACall Tryd.prog 91 [.int .i64 x, .int .i64 lo, .int .i64 hi] [] nid (.bool (outB x lo hi)) [] := by
  refine acall_run c91 (by simp [a91]) ?_
  simp -dsimp only [a91, aqT, ROp, OX, ↓seqK, ↓blkK, ↓loopK, step, stepBin, res, stepIdx, mix, PV.cells, argSlots, Nat.reduceBEq, Nat.reduceBeqDiff, Nat.add_assoc nid, Nat.reduceAdd, reduceCtorEq, ↓reduceIte, Nat.reduceLeDiff, colPV, freeOf, indep, offO, neqO, disj, namesX, axSlot, opXs, rdXs, idsOf, idsOfs, lowH, lowAll, keys, Nat.reduceBneDiff, Option.toList, ← Int.ofNat_tmod, ← Int.ofNat_tdiv, optInt, fillP, repl, chunk, mkCols, mkCol, colInts, colBools, colStrs, colLits, colsApp, Col.app, tailOf, splice, colsPut, Col.put, mmFold, eqK, Nat.reduceLT, colsPaste, Col.paste, mNew, mkKey, keyIn, mGet, mPut]
  refine S2.dec (fun h => ?_) (fun h => ?_) <;> simp -dsimp only [aqT, ROp, OX, ↓seqK, ↓blkK, ↓loopK, step, stepBin, res, stepIdx, mix, PV.cells, argSlots, Nat.reduceBEq, Nat.reduceBeqDiff, Nat.add_assoc nid, Nat.reduceAdd, reduceCtorEq, ↓reduceIte, Nat.reduceLeDiff, colPV, freeOf, indep, offO, neqO, disj, namesX, axSlot, opXs, rdXs, idsOf, idsOfs, lowH, lowAll, keys, Nat.reduceBneDiff, Option.toList, ← Int.ofNat_tmod, ← Int.ofNat_tdiv, optInt, fillP, repl, chunk, mkCols, mkCol, colInts, colBools, colStrs, colLits, colsApp, Col.app, tailOf, splice, colsPut, Col.put, mmFold, eqK, Nat.reduceLT, colsPaste, Col.paste, mNew, mkKey, keyIn, mGet, mPut] <;> refine RetOK.pure (.inl rfl) rfl ?_ <;> simp [retPV, over, keys, List.map_nil, List.map_cons, List.contains_cons, List.contains_nil, Bool.or_false, Bool.or_true, Bool.true_or, Bool.false_or, beq_self_eq_true, cond_true, cond_false, HeapCov, orNil, nilSz, onBlk, srcOf, getH_hit, getH_miss, getH.eq_1, getS_hit, getS_miss, getS.eq_1, BlkCov, PVCovs, PVCov, ColsEq, ColEq.refl, liveIds, SlotsCov, List.all_nil, List.all_cons, List.any_nil, List.any_cons, List.nil_append, List.cons_append, inRange, apart, nilBlk, idS1, idS2, readAll, readRes, onAll, step, res, AX.val, List.drop_zero, List.drop_succ_cons, List.take_succ_cons, List.take_zero, outB] <;> omega
theorem in_c (x lo hi : Int) (nid : Nat) : ACall Tryd.prog 89 [.int .i64 x, .int .i64 lo, .int .i64 hi] [] nid (.bool (!outB x lo hi)) [] := by
  refine acall_run c89 (by simp [a89]) ?_
  simp -dsimp only [a89, aqT, ROp, OX, ↓seqK, ↓blkK, ↓loopK, step, stepBin, res, stepIdx, mix, PV.cells, argSlots, Nat.reduceBEq, Nat.reduceBeqDiff, Nat.add_assoc nid, Nat.reduceAdd, reduceCtorEq, ↓reduceIte, Nat.reduceLeDiff, colPV, freeOf, indep, offO, neqO, disj, namesX, axSlot, opXs, rdXs, idsOf, idsOfs, lowH, lowAll, keys, Nat.reduceBneDiff, Option.toList, ← Int.ofNat_tmod, ← Int.ofNat_tdiv, optInt, fillP, repl, chunk, mkCols, mkCol, colInts, colBools, colStrs, colLits, colsApp, Col.app, tailOf, splice, colsPut, Col.put, mmFold, eqK, Nat.reduceLT, colsPaste, Col.paste, mNew, mkKey, keyIn, mGet, mPut]
  refine S2.dec (fun h => ?_) (fun h => ?_) <;> simp -dsimp only [aqT, ROp, OX, ↓seqK, ↓blkK, ↓loopK, step, stepBin, res, stepIdx, mix, PV.cells, argSlots, Nat.reduceBEq, Nat.reduceBeqDiff, Nat.add_assoc nid, Nat.reduceAdd, reduceCtorEq, ↓reduceIte, Nat.reduceLeDiff, colPV, freeOf, indep, offO, neqO, disj, namesX, axSlot, opXs, rdXs, idsOf, idsOfs, lowH, lowAll, keys, Nat.reduceBneDiff, Option.toList, ← Int.ofNat_tmod, ← Int.ofNat_tdiv, optInt, fillP, repl, chunk, mkCols, mkCol, colInts, colBools, colStrs, colLits, colsApp, Col.app, tailOf, splice, colsPut, Col.put, mmFold, eqK, Nat.reduceLT, colsPaste, Col.paste, mNew, mkKey, keyIn, mGet, mPut] <;> refine RetOK.pure (.inl rfl) rfl ?_ <;> simp [retPV, over, keys, List.map_nil, List.map_cons, List.contains_cons, List.contains_nil, Bool.or_false, Bool.or_true, Bool.true_or, Bool.false_or, beq_self_eq_true, cond_true, cond_false, HeapCov, orNil, nilSz, onBlk, srcOf, getH_hit, getH_miss, getH.eq_1, getS_hit, getS_miss, getS.eq_1, BlkCov, PVCovs, PVCov, ColsEq, ColEq.refl, liveIds, SlotsCov, List.all_nil, List.all_cons, List.any_nil, List.any_cons, List.nil_append, List.cons_append, inRange, apart, nilBlk, idS1, idS2, readAll, readRes, onAll, step, res, AX.val, List.drop_zero, List.drop_succ_cons, List.take_succ_cons, List.take_zero, outB] <;> first | omega | (rw [Bool.eq_iff_iff]; simp; omega)
theorem take_eqS {l m : List Int} {k : Nat} (hl : k < l.length) (hm : k < m.length) (h : l.take k = m.take k) (hx : l.getD k 0 = m.getD k 0) : l.take (k + 1) = m.take (k + 1) := by
  rw [take_snoc (x := l.getD k 0) (by rw [List.getD_eq_getElem?_getD, List.getElem?_eq_getElem hl]; rfl), take_snoc (x := m.getD k 0) (by rw [List.getD_eq_getElem?_getD, List.getElem?_eq_getElem hm]; rfl), h, hx]
theorem equalI_c (nl nl' : Bool) (l m : List Int) (nid : Nat) (hl : l.length ≤ 1000000000000) (hm : m.length ≤ 1000000000000) : ACall Tryd.prog 47 [litI nl l, litI nl' m] [] nid (.bool (l == m)) [] := by
  refine acall_run c47 (by simp [a47]) ?_
  unfold litI
  simp -dsimp only [a47, aqT, ROp, OX, ↓seqK, ↓blkK, ↓loopK, step, stepBin, res, stepIdx, mix, PV.cells, argSlots, Nat.reduceBEq, Nat.reduceBeqDiff, Nat.add_assoc nid, Nat.reduceAdd, reduceCtorEq, ↓reduceIte, Nat.reduceLeDiff, colPV, freeOf, indep, offO, neqO, disj, namesX, axSlot, opXs, rdXs, idsOf, idsOfs, lowH, lowAll, keys, Nat.reduceBneDiff, Option.toList, ← Int.ofNat_tmod, ← Int.ofNat_tdiv, optInt, fillP, repl, chunk, mkCols, mkCol, colInts, colBools, colStrs, colLits, colsApp, Col.app, tailOf, splice, colsPut, Col.put, mmFold, eqK, Nat.reduceLT, colsPaste, Col.paste, mNew, mkKey, keyIn, mGet, mPut]
  refine S2.intro (fun h => ?_) (fun h => ?_) <;> simp -dsimp only [aqT, ROp, OX, ↓seqK, ↓blkK, ↓loopK, step, stepBin, res, stepIdx, mix, PV.cells, argSlots, Nat.reduceBEq, Nat.reduceBeqDiff, Nat.add_assoc nid, Nat.reduceAdd, reduceCtorEq, ↓reduceIte, Nat.reduceLeDiff, colPV, freeOf, indep, offO, neqO, disj, namesX, axSlot, opXs, rdXs, idsOf, idsOfs, lowH, lowAll, keys, Nat.reduceBneDiff, Option.toList, ← Int.ofNat_tmod, ← Int.ofNat_tdiv, optInt, fillP, repl, chunk, mkCols, mkCol, colInts, colBools, colStrs, colLits, colsApp, Col.app, tailOf, splice, colsPut, Col.put, mmFold, eqK, Nat.reduceLT, colsPaste, Col.paste, mNew, mkKey, keyIn, mGet, mPut]
  · refine RetOK.pure (.inl rfl) rfl ?_
    have h1 : l ≠ m := fun e => by subst e; simp at h
    have h2 : (l == m) = false := by simpa using h1
    simp [retPV, over, keys, List.map_nil, List.map_cons, List.contains_cons, List.contains_nil, Bool.or_false, Bool.or_true, Bool.true_or, Bool.false_or, beq_self_eq_true, cond_true, cond_false, HeapCov, orNil, nilSz, onBlk, srcOf, getH_hit, getH_miss, getH.eq_1, getS_hit, getS_miss, getS.eq_1, BlkCov, PVCovs, PVCov, ColsEq, ColEq.refl, liveIds, SlotsCov, List.all_nil, List.all_cons, List.any_nil, List.any_cons, List.nil_append, List.cons_append, inRange, apart, nilBlk, idS1, idS2, readAll, readRes, onAll, step, res, AX.val, List.drop_zero, List.drop_succ_cons, List.take_succ_cons, List.take_zero, h1]
  have hlm : l.length = m.length := by have : (l.length : Int) = m.length := by simpa using h
                                       omega
  refine LP.mkP (fun k : Nat => k ≤ l.length ∧ l.take k = m.take k) (fun k : Nat => ⟨[(13, .int .i64 k), (12, .int .i64 l.length), (0, litI nl l), (1, litI nl' m)], [], nid + 36, nid⟩) (fun k => l.length + 1 - k) 0 ⟨by omega, rfl⟩ (Cov.go [] [] ?_) (fun k hk => ?_)
  · simp [retPV, over, keys, List.map_nil, List.map_cons, List.contains_cons, List.contains_nil, Bool.or_false, Bool.or_true, Bool.true_or, Bool.false_or, beq_self_eq_true, cond_true, cond_false, HeapCov, orNil, nilSz, onBlk, srcOf, getH_hit, getH_miss, getH.eq_1, getS_hit, getS_miss, getS.eq_1, BlkCov, PVCovs, PVCov, ColsEq, ColEq.refl, liveIds, SlotsCov, List.all_nil, List.all_cons, List.any_nil, List.any_cons, List.nil_append, List.cons_append, inRange, apart, nilBlk, idS1, idS2, readAll, readRes, onAll, step, res, AX.val, List.drop_zero, List.drop_succ_cons, List.take_succ_cons, List.take_zero, litI]
  unfold litI
  obtain ⟨hk, ht⟩ := hk
  simp -dsimp only [aqT, ROp, OX, ↓seqK, ↓blkK, ↓loopK, step, stepBin, res, stepIdx, mix, PV.cells, argSlots, Nat.reduceBEq, Nat.reduceBeqDiff, Nat.add_assoc nid, Nat.reduceAdd, reduceCtorEq, ↓reduceIte, Nat.reduceLeDiff, colPV, freeOf, indep, offO, neqO, disj, namesX, axSlot, opXs, rdXs, idsOf, idsOfs, lowH, lowAll, keys, Nat.reduceBneDiff, Option.toList, ← Int.ofNat_tmod, ← Int.ofNat_tdiv, optInt, fillP, repl, chunk, mkCols, mkCol, colInts, colBools, colStrs, colLits, colsApp, Col.app, tailOf, splice, colsPut, Col.put, mmFold, eqK, Nat.reduceLT, colsPaste, Col.paste, mNew, mkKey, keyIn, mGet, mPut]
  refine S2.dec (fun h3 => ?_) (fun h3 => ?_) <;> simp -dsimp only [aqT, ROp, OX, ↓seqK, ↓blkK, ↓loopK, step, stepBin, res, stepIdx, mix, PV.cells, argSlots, Nat.reduceBEq, Nat.reduceBeqDiff, Nat.add_assoc nid, Nat.reduceAdd, reduceCtorEq, ↓reduceIte, Nat.reduceLeDiff, colPV, freeOf, indep, offO, neqO, disj, namesX, axSlot, opXs, rdXs, idsOf, idsOfs, lowH, lowAll, keys, Nat.reduceBneDiff, Option.toList, ← Int.ofNat_tmod, ← Int.ofNat_tdiv, optInt, fillP, repl, chunk, mkCols, mkCol, colInts, colBools, colStrs, colLits, colsApp, Col.app, tailOf, splice, colsPut, Col.put, mmFold, eqK, Nat.reduceLT, colsPaste, Col.paste, mNew, mkKey, keyIn, mGet, mPut]
  · refine ⟨by omega, by omega, S2.intro (fun h4 => ?_) (fun h4 => ?_)⟩ <;> simp -dsimp only [aqT, ROp, OX, ↓seqK, ↓blkK, ↓loopK, step, stepBin, res, stepIdx, mix, PV.cells, argSlots, Nat.reduceBEq, Nat.reduceBeqDiff, Nat.add_assoc nid, Nat.reduceAdd, reduceCtorEq, ↓reduceIte, Nat.reduceLeDiff, colPV, freeOf, indep, offO, neqO, disj, namesX, axSlot, opXs, rdXs, idsOf, idsOfs, lowH, lowAll, keys, Nat.reduceBneDiff, Option.toList, ← Int.ofNat_tmod, ← Int.ofNat_tdiv, optInt, fillP, repl, chunk, mkCols, mkCol, colInts, colBools, colStrs, colLits, colsApp, Col.app, tailOf, splice, colsPut, Col.put, mmFold, eqK, Nat.reduceLT, colsPaste, Col.paste, mNew, mkKey, keyIn, mGet, mPut]
    · refine RetOK.pure (.inl rfl) rfl ?_
      have h1 : l ≠ m := fun e => by subst e; simp at h4
      simp [retPV, over, keys, List.map_nil, List.map_cons, List.contains_cons, List.contains_nil, Bool.or_false, Bool.or_true, Bool.true_or, Bool.false_or, beq_self_eq_true, cond_true, cond_false, HeapCov, orNil, nilSz, onBlk, srcOf, getH_hit, getH_miss, getH.eq_1, getS_hit, getS_miss, getS.eq_1, BlkCov, PVCovs, PVCov, ColsEq, ColEq.refl, liveIds, SlotsCov, List.all_nil, List.all_cons, List.any_nil, List.any_cons, List.nil_append, List.cons_append, inRange, apart, nilBlk, idS1, idS2, readAll, readRes, onAll, step, res, AX.val, List.drop_zero, List.drop_succ_cons, List.take_succ_cons, List.take_zero, h1]
    · have h5 : l.getD k 0 = m.getD k 0 := by simpa using h4
      refine ⟨by unfold inI64; omega, k + 1, ⟨⟨by omega, take_eqS (by omega) (by omega) ht h5⟩, by omega⟩, Cov.go [] [] ?_⟩
      simp [retPV, over, keys, List.map_nil, List.map_cons, List.contains_cons, List.contains_nil, Bool.or_false, Bool.or_true, Bool.true_or, Bool.false_or, beq_self_eq_true, cond_true, cond_false, HeapCov, orNil, nilSz, onBlk, srcOf, getH_hit, getH_miss, getH.eq_1, getS_hit, getS_miss, getS.eq_1, BlkCov, PVCovs, PVCov, ColsEq, ColEq.refl, liveIds, SlotsCov, List.all_nil, List.all_cons, List.any_nil, List.any_cons, List.nil_append, List.cons_append, inRange, apart, nilBlk, idS1, idS2, readAll, readRes, onAll, step, res, AX.val, List.drop_zero, List.drop_succ_cons, List.take_succ_cons, List.take_zero, litI]
  · have hkl : k = l.length := by omega
    have h1 : l = m := by rw [hkl] at ht; rw [List.take_length, hlm, List.take_length] at ht; exact ht
    refine RetOK.pure (.inl rfl) rfl ?_
    simp [retPV, over, keys, List.map_nil, List.map_cons, List.contains_cons, List.contains_nil, Bool.or_false, Bool.or_true, Bool.true_or, Bool.false_or, beq_self_eq_true, cond_true, cond_false, HeapCov, orNil, nilSz, onBlk, srcOf, getH_hit, getH_miss, getH.eq_1, getS_hit, getS_miss, getS.eq_1, BlkCov, PVCovs, PVCov, ColsEq, ColEq.refl, liveIds, SlotsCov, List.all_nil, List.all_cons, List.any_nil, List.any_cons, List.nil_append, List.cons_append, inRange, apart, nilBlk, idS1, idS2, readAll, readRes, onAll, step, res, AX.val, List.drop_zero, List.drop_succ_cons, List.take_succ_cons, List.take_zero, h1]
theorem index_c (nl : Bool) (l : List Int) (x : Int) (nid : Nat) (hl : l.length ≤ 1000000000) : ∃ r : Int, (0 ≤ r ↔ x ∈ l) ∧ ACall Tryd.prog 155 [litI nl l, .int .i64 x] [] nid (.int .i64 r) [] := by
  refine ⟨match l.findIdx? (· == x) with | some k => (k : Int) | none => -1, ?_, ?_⟩
  · cases h : l.findIdx? (· == x) with
    | none =>
      rw [List.findIdx?_eq_none_iff] at h
      simp only [Int.reduceNeg, Int.reduceLE, false_iff]
      exact fun hx => by simpa using h x hx
    | some k =>
      simp only [Int.natCast_nonneg, true_iff]
      obtain ⟨hk, h1, _⟩ := List.findIdx?_eq_some_iff_getElem.1 h
      have : l[k] = x := by simpa using h1
      rw [← this]; exact List.getElem_mem hk
  refine acall_run c155 (by simp [a155]) ?_
  unfold litI
  simp -dsimp only [aqT, ROp, OX, ↓seqK, ↓blkK, ↓loopK, step, stepBin, res, stepIdx, mix, PV.cells, argSlots, Nat.reduceBEq, Nat.reduceBeqDiff, Nat.add_assoc nid, Nat.reduceAdd, reduceCtorEq, ↓reduceIte, Nat.reduceLeDiff, colPV, freeOf, indep, offO, neqO, disj, namesX, axSlot, opXs, rdXs, idsOf, idsOfs, lowH, lowAll, keys, Nat.reduceBneDiff, Option.toList, ← Int.ofNat_tmod, ← Int.ofNat_tdiv, optInt, fillP, repl, chunk, mkCols, mkCol, colInts, colBools, colStrs, colLits, colsApp, Col.app, tailOf, splice, colsPut, Col.put, mmFold, eqK, Nat.reduceLT, colsPaste, Col.paste, mNew, mkKey, keyIn, mGet, mPut, a155]
  refine LP.mkP (fun k : Nat => k ≤ l.length ∧ ∀ i, i < k → l.getD i 0 ≠ x) (fun k : Nat => ⟨[(8, .int .i64 k), (7, .int .i64 l.length), (0, litI nl l), (1, .int .i64 x)], [], nid + 1000, nid⟩) (fun k => l.length + 1 - k) 0 ?_ (Cov.go [] [] ?_) (fun k hk => ?_)
  · exact ⟨by omega, fun i hi => by omega⟩
  · simp [retPV, over, keys, List.map_nil, List.map_cons, List.contains_cons, List.contains_nil, Bool.or_false, Bool.or_true, Bool.true_or, Bool.false_or, beq_self_eq_true, cond_true, cond_false, HeapCov, orNil, nilSz, onBlk, srcOf, getH_hit, getH_miss, getH.eq_1, getS_hit, getS_miss, getS.eq_1, BlkCov, PVCovs, PVCov, ColsEq, ColEq.refl, liveIds, SlotsCov, List.all_nil, List.all_cons, List.any_nil, List.any_cons, List.nil_append, List.cons_append, inRange, apart, nilBlk, idS1, idS2, readAll, readRes, onAll, step, res, AX.val, List.drop_zero, List.drop_succ_cons, List.take_succ_cons, List.take_zero, litI]
  unfold litI
  obtain ⟨hk, hno⟩ := hk
  have get : ∀ i (hi : i < l.length), l.getD i 0 = l[i] := fun i hi => by rw [List.getD_eq_getElem?_getD, List.getElem?_eq_getElem hi]; rfl
  simp -dsimp only [aqT, ROp, OX, ↓seqK, ↓blkK, ↓loopK, step, stepBin, res, stepIdx, mix, PV.cells, argSlots, Nat.reduceBEq, Nat.reduceBeqDiff, Nat.add_assoc nid, Nat.reduceAdd, reduceCtorEq, ↓reduceIte, Nat.reduceLeDiff, colPV, freeOf, indep, offO, neqO, disj, namesX, axSlot, opXs, rdXs, idsOf, idsOfs, lowH, lowAll, keys, Nat.reduceBneDiff, Option.toList, ← Int.ofNat_tmod, ← Int.ofNat_tdiv, optInt, fillP, repl, chunk, mkCols, mkCol, colInts, colBools, colStrs, colLits, colsApp, Col.app, tailOf, splice, colsPut, Col.put, mmFold, eqK, Nat.reduceLT, colsPaste, Col.paste, mNew, mkKey, keyIn, mGet, mPut]
  refine S2.dec (fun h3 => ?_) (fun h3 => ?_) <;> simp -dsimp only [aqT, ROp, OX, ↓seqK, ↓blkK, ↓loopK, step, stepBin, res, stepIdx, mix, PV.cells, argSlots, Nat.reduceBEq, Nat.reduceBeqDiff, Nat.add_assoc nid, Nat.reduceAdd, reduceCtorEq, ↓reduceIte, Nat.reduceLeDiff, colPV, freeOf, indep, offO, neqO, disj, namesX, axSlot, opXs, rdXs, idsOf, idsOfs, lowH, lowAll, keys, Nat.reduceBneDiff, Option.toList, ← Int.ofNat_tmod, ← Int.ofNat_tdiv, optInt, fillP, repl, chunk, mkCols, mkCol, colInts, colBools, colStrs, colLits, colsApp, Col.app, tailOf, splice, colsPut, Col.put, mmFold, eqK, Nat.reduceLT, colsPaste, Col.paste, mNew, mkKey, keyIn, mGet, mPut]
  · have hkl : k < l.length := by omega
    refine ⟨by omega, S2.intro (fun h4 => ?_) (fun h4 => ?_)⟩ <;> simp -dsimp only [aqT, ROp, OX, ↓seqK, ↓blkK, ↓loopK, step, stepBin, res, stepIdx, mix, PV.cells, argSlots, Nat.reduceBEq, Nat.reduceBeqDiff, Nat.add_assoc nid, Nat.reduceAdd, reduceCtorEq, ↓reduceIte, Nat.reduceLeDiff, colPV, freeOf, indep, offO, neqO, disj, namesX, axSlot, opXs, rdXs, idsOf, idsOfs, lowH, lowAll, keys, Nat.reduceBneDiff, Option.toList, ← Int.ofNat_tmod, ← Int.ofNat_tdiv, optInt, fillP, repl, chunk, mkCols, mkCol, colInts, colBools, colStrs, colLits, colsApp, Col.app, tailOf, splice, colsPut, Col.put, mmFold, eqK, Nat.reduceLT, colsPaste, Col.paste, mNew, mkKey, keyIn, mGet, mPut]
    · have h5 : x = l.getD k 0 := by simpa using h4
      have : l.findIdx? (· == x) = some k := by
        rw [List.findIdx?_eq_some_iff_getElem]
        refine ⟨hkl, by rw [← get k hkl, ← h5]; simp, fun i hi => ?_⟩
        have := hno i hi
        rw [get i (by omega)] at this
        simpa using this
      rw [this]
      refine RetOK.pure (.inl rfl) rfl ?_
      simp [retPV, over, keys, List.map_nil, List.map_cons, List.contains_cons, List.contains_nil, Bool.or_false, Bool.or_true, Bool.true_or, Bool.false_or, beq_self_eq_true, cond_true, cond_false, HeapCov, orNil, nilSz, onBlk, srcOf, getH_hit, getH_miss, getH.eq_1, getS_hit, getS_miss, getS.eq_1, BlkCov, PVCovs, PVCov, ColsEq, ColEq.refl, liveIds, SlotsCov, List.all_nil, List.all_cons, List.any_nil, List.any_cons, List.nil_append, List.cons_append, inRange, apart, nilBlk, idS1, idS2, readAll, readRes, onAll, step, res, AX.val, List.drop_zero, List.drop_succ_cons, List.take_succ_cons, List.take_zero]
    · have h5 : x ≠ l.getD k 0 := by simpa using h4
      refine ⟨by unfold inI64; omega, k + 1, ⟨⟨by omega, fun i hi => ?_⟩, by omega⟩, Cov.go [] [] ?_⟩
      · by_cases e : i = k
        · subst e; exact fun h => h5 h.symm
        · exact hno i (by omega)
      · simp [retPV, over, keys, List.map_nil, List.map_cons, List.contains_cons, List.contains_nil, Bool.or_false, Bool.or_true, Bool.true_or, Bool.false_or, beq_self_eq_true, cond_true, cond_false, HeapCov, orNil, nilSz, onBlk, srcOf, getH_hit, getH_miss, getH.eq_1, getS_hit, getS_miss, getS.eq_1, BlkCov, PVCovs, PVCov, ColsEq, ColEq.refl, liveIds, SlotsCov, List.all_nil, List.all_cons, List.any_nil, List.any_cons, List.nil_append, List.cons_append, inRange, apart, nilBlk, idS1, idS2, readAll, readRes, onAll, step, res, AX.val, List.drop_zero, List.drop_succ_cons, List.take_succ_cons, List.take_zero, litI]
  · have : l.findIdx? (· == x) = none := by
      rw [List.findIdx?_eq_none_iff]
      intro y hy
      obtain ⟨i, hi, rfl⟩ := List.mem_iff_getElem.1 hy
      have := hno i (by omega)
      rw [get i hi] at this
      simpa using this
    rw [this]
    refine RetOK.pure (.inl rfl) rfl ?_
    simp [retPV, over, keys, List.map_nil, List.map_cons, List.contains_cons, List.contains_nil, Bool.or_false, Bool.or_true, Bool.true_or, Bool.false_or, beq_self_eq_true, cond_true, cond_false, HeapCov, orNil, nilSz, onBlk, srcOf, getH_hit, getH_miss, getH.eq_1, getS_hit, getS_miss, getS.eq_1, BlkCov, PVCovs, PVCov, ColsEq, ColEq.refl, liveIds, SlotsCov, List.all_nil, List.all_cons, List.any_nil, List.any_cons, List.nil_append, List.cons_append, inRange, apart, nilBlk, idS1, idS2, readAll, readRes, onAll, step, res, AX.val, List.drop_zero, List.drop_succ_cons, List.take_succ_cons, List.take_zero]
theorem contains_c (nl : Bool) (l : List Int) (x : Int) (nid : Nat) (hl : l.length ≤ 1000000000) : ACall Tryd.prog 116 [litI nl l, .int .i64 x] [] nid (.bool (l.contains x)) [] := by
  refine acall_run c116 (by simp [a116]) ?_
  simp -dsimp only [a116, aqT, ROp, OX, ↓seqK, ↓blkK, ↓loopK, step, stepBin, res, stepIdx, mix, PV.cells, argSlots, Nat.reduceBEq, Nat.reduceBeqDiff, Nat.add_assoc nid, Nat.reduceAdd, reduceCtorEq, ↓reduceIte, Nat.reduceLeDiff, colPV, freeOf, indep, offO, neqO, disj, namesX, axSlot, opXs, rdXs, idsOf, idsOfs, lowH, lowAll, keys, Nat.reduceBneDiff, Option.toList, ← Int.ofNat_tmod, ← Int.ofNat_tdiv, optInt, fillP, repl, chunk, mkCols, mkCol, colInts, colBools, colStrs, colLits, colsApp, Col.app, tailOf, splice, colsPut, Col.put, mmFold, eqK, Nat.reduceLT, colsPaste, Col.paste, mNew, mkKey, keyIn, mGet, mPut]
  obtain ⟨r, h1, h2⟩ := index_c nl l x (nid + 12) hl
  refine CallO.pure (h2) ?_
  simp -dsimp only [aqT, ROp, OX, ↓seqK, ↓blkK, ↓loopK, step, stepBin, res, stepIdx, mix, PV.cells, argSlots, Nat.reduceBEq, Nat.reduceBeqDiff, Nat.add_assoc nid, Nat.reduceAdd, reduceCtorEq, ↓reduceIte, Nat.reduceLeDiff, colPV, freeOf, indep, offO, neqO, disj, namesX, axSlot, opXs, rdXs, idsOf, idsOfs, lowH, lowAll, keys, Nat.reduceBneDiff, Option.toList, ← Int.ofNat_tmod, ← Int.ofNat_tdiv, optInt, fillP, repl, chunk, mkCols, mkCol, colInts, colBools, colStrs, colLits, colsApp, Col.app, tailOf, splice, colsPut, Col.put, mmFold, eqK, Nat.reduceLT, colsPaste, Col.paste, mNew, mkKey, keyIn, mGet, mPut]
  have : decide (0 ≤ r) = l.contains x := by
    rw [Bool.eq_iff_iff]
    simp [h1]
  rw [this]
  refine RetOK.pure (.inl rfl) rfl ?_
  simp [retPV, over, keys, List.map_nil, List.map_cons, List.contains_cons, List.contains_nil, Bool.or_false, Bool.or_true, Bool.true_or, Bool.false_or, beq_self_eq_true, cond_true, cond_false, HeapCov, orNil, nilSz, onBlk, srcOf, getH_hit, getH_miss, getH.eq_1, getS_hit, getS_miss, getS.eq_1, BlkCov, PVCovs, PVCov, ColsEq, ColEq.refl, liveIds, SlotsCov, List.all_nil, List.all_cons, List.any_nil, List.any_cons, List.nil_append, List.cons_append, inRange, apart, nilBlk, idS1, idS2, readAll, readRes, onAll, step, res, AX.val, List.drop_zero, List.drop_succ_cons, List.take_succ_cons, List.take_zero]
end Go.Proofs.YthcldfmlfjomfaaDoor
namespace Go.Proofs.YthcldfmlfjomfaaDoor
open Go.RowKit
theorem bits_c (s : List UInt8) (nid : Nat) (hs : s.length ≤ 1099511627776) : ACall Tryd.prog 92 [.str s] [] nid (.bool (bitsOk s)) [] := by
  refine acall_run c92 (by simp [a92]) ?_
  simp -dsimp only [aqT, ROp, OX, ↓seqK, ↓blkK, ↓loopK, step, stepBin, res, stepIdx, mix, PV.cells, argSlots, Nat.reduceBEq, Nat.reduceBeqDiff, Nat.add_assoc nid, Nat.reduceAdd, reduceCtorEq, ↓reduceIte, Nat.reduceLeDiff, colPV, freeOf, indep, offO, neqO, disj, namesX, axSlot, opXs, rdXs, idsOf, idsOfs, lowH, lowAll, keys, Nat.reduceBneDiff, Option.toList, ← Int.ofNat_tmod, ← Int.ofNat_tdiv, optInt, fillP, repl, chunk, mkCols, mkCol, colInts, colBools, colStrs, colLits, colsApp, Col.app, tailOf, splice, colsPut, Col.put, mmFold, eqK, Nat.reduceLT, colsPaste, Col.paste, mNew, mkKey, keyIn, mGet, mPut, a92]
  refine CallO.pure (trim_cc s [48, 49] _ (by omega) (by decide) (by decide)) ?_
  simp -dsimp only [aqT, ROp, OX, ↓seqK, ↓blkK, ↓loopK, step, stepBin, res, stepIdx, mix, PV.cells, argSlots, Nat.reduceBEq, Nat.reduceBeqDiff, Nat.add_assoc nid, Nat.reduceAdd, reduceCtorEq, ↓reduceIte, Nat.reduceLeDiff, colPV, freeOf, indep, offO, neqO, disj, namesX, axSlot, opXs, rdXs, idsOf, idsOfs, lowH, lowAll, keys, Nat.reduceBneDiff, Option.toList, ← Int.ofNat_tmod, ← Int.ofNat_tdiv, optInt, fillP, repl, chunk, mkCols, mkCol, colInts, colBools, colStrs, colLits, colsApp, Col.app, tailOf, splice, colsPut, Col.put, mmFold, eqK, Nat.reduceLT, colsPaste, Col.paste, mNew, mkKey, keyIn, mGet, mPut]
  rw [trim_bits]
  refine RetOK.pure (.inl rfl) rfl ?_
  simp [retPV, over, keys, List.map_nil, List.map_cons, List.contains_cons, List.contains_nil, Bool.or_false, Bool.or_true, Bool.true_or, Bool.false_or, beq_self_eq_true, cond_true, cond_false, HeapCov, orNil, nilSz, onBlk, srcOf, getH_hit, getH_miss, getH.eq_1, getS_hit, getS_miss, getS.eq_1, BlkCov, PVCovs, PVCov, ColsEq, ColEq.refl, liveIds, SlotsCov, List.all_nil, List.all_cons, List.any_nil, List.any_cons, List.nil_append, List.cons_append, inRange, apart, nilBlk, idS1, idS2, readAll, readRes, onAll, step, res, AX.val, List.drop_zero, List.drop_succ_cons, List.take_succ_cons, List.take_zero]
theorem bitsFaultR_c (s : List UInt8) (nid : Nat) (hs : s.length ≤ 1099511627776) : ACall Tryd.prog 90 [.str s] [] nid (.int .i64 (if bitsOk s = true then 0 else 9)) [] := by
  refine acall_run c90 (by simp [a90]) ?_
  simp -dsimp only [aqT, ROp, OX, ↓seqK, ↓blkK, ↓loopK, step, stepBin, res, stepIdx, mix, PV.cells, argSlots, Nat.reduceBEq, Nat.reduceBeqDiff, Nat.add_assoc nid, Nat.reduceAdd, reduceCtorEq, ↓reduceIte, Nat.reduceLeDiff, colPV, freeOf, indep, offO, neqO, disj, namesX, axSlot, opXs, rdXs, idsOf, idsOfs, lowH, lowAll, keys, Nat.reduceBneDiff, Option.toList, ← Int.ofNat_tmod, ← Int.ofNat_tdiv, optInt, fillP, repl, chunk, mkCols, mkCol, colInts, colBools, colStrs, colLits, colsApp, Col.app, tailOf, splice, colsPut, Col.put, mmFold, eqK, Nat.reduceLT, colsPaste, Col.paste, mNew, mkKey, keyIn, mGet, mPut, a90]
  refine CallO.pure (trim_cc s [48, 49] _ (by omega) (by decide) (by decide)) ?_
  simp -dsimp only [aqT, ROp, OX, ↓seqK, ↓blkK, ↓loopK, step, stepBin, res, stepIdx, mix, PV.cells, argSlots, Nat.reduceBEq, Nat.reduceBeqDiff, Nat.add_assoc nid, Nat.reduceAdd, reduceCtorEq, ↓reduceIte, Nat.reduceLeDiff, colPV, freeOf, indep, offO, neqO, disj, namesX, axSlot, opXs, rdXs, idsOf, idsOfs, lowH, lowAll, keys, Nat.reduceBneDiff, Option.toList, ← Int.ofNat_tmod, ← Int.ofNat_tdiv, optInt, fillP, repl, chunk, mkCols, mkCol, colInts, colBools, colStrs, colLits, colsApp, Col.app, tailOf, splice, colsPut, Col.put, mmFold, eqK, Nat.reduceLT, colsPaste, Col.paste, mNew, mkKey, keyIn, mGet, mPut]
  rw [trim_bits]
  cases h : bitsOk s <;> simp -dsimp only [aqT, ROp, OX, ↓seqK, ↓blkK, ↓loopK, step, stepBin, res, stepIdx, mix, PV.cells, argSlots, Nat.reduceBEq, Nat.reduceBeqDiff, Nat.add_assoc nid, Nat.reduceAdd, reduceCtorEq, ↓reduceIte, Nat.reduceLeDiff, colPV, freeOf, indep, offO, neqO, disj, namesX, axSlot, opXs, rdXs, idsOf, idsOfs, lowH, lowAll, keys, Nat.reduceBneDiff, Option.toList, ← Int.ofNat_tmod, ← Int.ofNat_tdiv, optInt, fillP, repl, chunk, mkCols, mkCol, colInts, colBools, colStrs, colLits, colsApp, Col.app, tailOf, splice, colsPut, Col.put, mmFold, eqK, Nat.reduceLT, colsPaste, Col.paste, mNew, mkKey, keyIn, mGet, mPut]
  · refine RetOK.pure (.inl rfl) rfl ?_
    simp [retPV, over, keys, List.map_nil, List.map_cons, List.contains_cons, List.contains_nil, Bool.or_false, Bool.or_true, Bool.true_or, Bool.false_or, beq_self_eq_true, cond_true, cond_false, HeapCov, orNil, nilSz, onBlk, srcOf, getH_hit, getH_miss, getH.eq_1, getS_hit, getS_miss, getS.eq_1, BlkCov, PVCovs, PVCov, ColsEq, ColEq.refl, liveIds, SlotsCov, List.all_nil, List.all_cons, List.any_nil, List.any_cons, List.nil_append, List.cons_append, inRange, apart, nilBlk, idS1, idS2, readAll, readRes, onAll, step, res, AX.val, List.drop_zero, List.drop_succ_cons, List.take_succ_cons, List.take_zero]
  · refine RetOK.pure (.inl rfl) rfl ?_
    simp [retPV, over, keys, List.map_nil, List.map_cons, List.contains_cons, List.contains_nil, Bool.or_false, Bool.or_true, Bool.true_or, Bool.false_or, beq_self_eq_true, cond_true, cond_false, HeapCov, orNil, nilSz, onBlk, srcOf, getH_hit, getH_miss, getH.eq_1, getS_hit, getS_miss, getS.eq_1, BlkCov, PVCovs, PVCov, ColsEq, ColEq.refl, liveIds, SlotsCov, List.all_nil, List.all_cons, List.any_nil, List.any_cons, List.nil_append, List.cons_append, inRange, apart, nilBlk, idS1, idS2, readAll, readRes, onAll, step, res, AX.val, List.drop_zero, List.drop_succ_cons, List.take_succ_cons, List.take_zero]
end Go.Proofs.YthcldfmlfjomfaaDoor
namespace Go.Proofs.YthcldfmlfjomfaaDoor
open Go.RowKit
theorem oddI_c (s nid : Nat) (nl : Bool) (A : List Int) (p : Nat) (lo hi : Int) (h : s < nid) (hp : p ≤ 1099511627000) (hA : A.length ≤ 17592186044416) (h1 : lo ≤ hi) (hl : -1000000 ≤ lo) (hh : hi ≤ 1000000) :
    ∃ x : Int, (-1099511627776 ≤ x ∧ x ≤ 1099511627776) ∧ ACall Tryd.prog 57 [.ptr s 0, .int .i64 lo, .int .i64 hi] [(s, strmC nl A p)] nid (.int .i64 x) [(s, strmC nl A (p + 2))] := by
  obtain ⟨e1, e2, e3, e4, e5, e6, e7, e8, e9⟩ := id_all h
  refine acall_ex c57 (by simp [a57]) ?_
  simp -dsimp only [aqT0, ROp0, aqT, ROp, OX, ↓seqK, ↓blkK, ↓loopK, step, stepBin, res, stepIdx, mix, PV.cells, argSlots, Nat.reduceBEq, Nat.reduceBeqDiff, Nat.add_assoc nid, Nat.reduceAdd, reduceCtorEq, ↓reduceIte, Nat.reduceLeDiff, colPV, freeOf, indep, offO, neqO, disj, namesX, axSlot, opXs, rdXs, idsOf, idsOfs, lowH, lowAll, keys, Nat.reduceBneDiff, Option.toList, ← Int.ofNat_tmod, ← Int.ofNat_tdiv, optInt, fillP, repl, chunk, mkCols, mkCol, colInts, colBools, colStrs, colLits, colsApp, Col.app, tailOf, splice, colsPut, Col.put, mmFold, eqK, Nat.reduceLT, colsPaste, Col.paste, mNew, mkKey, keyIn, mGet, mPut, Int.cast_ofNat_Int, Int.reduceBEq, Int.reduceBNe, Int.reduceLT, Int.reduceLE, Int.reduceAdd, Int.reduceSub, Int.reduceMul, Int.reduceToNat, Int.reduceNeg, Int.reduceTMod, Int.reduceEq, not_false_eq_true, Int.reducePow, Int.reduceFDiv, Nat.reducePow, Nat.reduceSub, Nat.reduceMul, Nat.min_eq_left, Nat.reduceEqDiff, BEq.rfl, Int.tdiv_one, LN_succ, e1, e2, e3, e4, e5, e6, e7, e8, e9, a57, strmC_low]
  refine CallX.on (flip_c s _ nl A p _ (by omega) (by omega) hA (by omega)) (subH_get (by simp only [aqT, ROp, OX, ↓seqK, ↓blkK, ↓loopK, step, stepBin, res, stepIdx, mix, PV.cells, argSlots, Nat.reduceBEq, Nat.reduceBeqDiff, Nat.add_assoc nid, Nat.reduceAdd, reduceCtorEq, ↓reduceIte, Nat.reduceLeDiff, colPV, freeOf, indep, offO, neqO, disj, namesX, axSlot, opXs, rdXs, idsOf, idsOfs, lowH, lowAll, keys, Nat.reduceBneDiff, Option.toList, ← Int.ofNat_tmod, ← Int.ofNat_tdiv, optInt, fillP, repl, chunk, mkCols, mkCol, colInts, colBools, colStrs, colLits, colsApp, Col.app, tailOf, splice, colsPut, Col.put, mmFold, eqK, Nat.reduceLT, colsPaste, Col.paste, mNew, mkKey, keyIn, mGet, mPut, e1, e2, e3, e4, e5, e6, e7, e8, e9])) ?_
  simp -dsimp only [aqT0, ROp0, aqT, ROp, OX, ↓seqK, ↓blkK, ↓loopK, step, stepBin, res, stepIdx, mix, PV.cells, argSlots, Nat.reduceBEq, Nat.reduceBeqDiff, Nat.add_assoc nid, Nat.reduceAdd, reduceCtorEq, ↓reduceIte, Nat.reduceLeDiff, colPV, freeOf, indep, offO, neqO, disj, namesX, axSlot, opXs, rdXs, idsOf, idsOfs, lowH, lowAll, keys, Nat.reduceBneDiff, Option.toList, ← Int.ofNat_tmod, ← Int.ofNat_tdiv, optInt, fillP, repl, chunk, mkCols, mkCol, colInts, colBools, colStrs, colLits, colsApp, Col.app, tailOf, splice, colsPut, Col.put, mmFold, eqK, Nat.reduceLT, colsPaste, Col.paste, mNew, mkKey, keyIn, mGet, mPut, Int.cast_ofNat_Int, Int.reduceBEq, Int.reduceBNe, Int.reduceLT, Int.reduceLE, Int.reduceAdd, Int.reduceSub, Int.reduceMul, Int.reduceToNat, Int.reduceNeg, Int.reduceTMod, Int.reduceEq, not_false_eq_true, Int.reducePow, Int.reduceFDiv, Nat.reducePow, Nat.reduceSub, Nat.reduceMul, Nat.min_eq_left, Nat.reduceEqDiff, BEq.rfl, Int.tdiv_one, LN_succ, e1, e2, e3, e4, e5, e6, e7, e8, e9, strmC_low]
  refine S2.intro (fun h2 => ?_) (fun h2 => ?_) <;> simp -dsimp only [aqT0, ROp0, aqT, ROp, OX, ↓seqK, ↓blkK, ↓loopK, step, stepBin, res, stepIdx, mix, PV.cells, argSlots, Nat.reduceBEq, Nat.reduceBeqDiff, Nat.add_assoc nid, Nat.reduceAdd, reduceCtorEq, ↓reduceIte, Nat.reduceLeDiff, colPV, freeOf, indep, offO, neqO, disj, namesX, axSlot, opXs, rdXs, idsOf, idsOfs, lowH, lowAll, keys, Nat.reduceBneDiff, Option.toList, ← Int.ofNat_tmod, ← Int.ofNat_tdiv, optInt, fillP, repl, chunk, mkCols, mkCol, colInts, colBools, colStrs, colLits, colsApp, Col.app, tailOf, splice, colsPut, Col.put, mmFold, eqK, Nat.reduceLT, colsPaste, Col.paste, mNew, mkKey, keyIn, mGet, mPut, Int.cast_ofNat_Int, Int.reduceBEq, Int.reduceBNe, Int.reduceLT, Int.reduceLE, Int.reduceAdd, Int.reduceSub, Int.reduceMul, Int.reduceToNat, Int.reduceNeg, Int.reduceTMod, Int.reduceEq, not_false_eq_true, Int.reducePow, Int.reduceFDiv, Nat.reducePow, Nat.reduceSub, Nat.reduceMul, Nat.min_eq_left, Nat.reduceEqDiff, BEq.rfl, Int.tdiv_one, LN_succ, e1, e2, e3, e4, e5, e6, e7, e8, e9, strmC_low]
  · refine ⟨by unfold inI64; omega, by unfold inI64; omega, CallX.pick_go (T := 3) (nl := nl) (A := A) (p := p + 1) (g := fun i => [lo - 1, hi + 1, lo, hi, -1099511627776, 1099511627776].getD i 0) (by simp only [aqT, ROp, OX, ↓seqK, ↓blkK, ↓loopK, step, stepBin, res, stepIdx, mix, PV.cells, argSlots, Nat.reduceBEq, Nat.reduceBeqDiff, Nat.add_assoc nid, Nat.reduceAdd, reduceCtorEq, ↓reduceIte, Nat.reduceLeDiff, colPV, freeOf, indep, offO, neqO, disj, namesX, axSlot, opXs, rdXs, idsOf, idsOfs, lowH, lowAll, keys, Nat.reduceBneDiff, Option.toList, ← Int.ofNat_tmod, ← Int.ofNat_tdiv, optInt, fillP, repl, chunk, mkCols, mkCol, colInts, colBools, colStrs, colLits, colsApp, Col.app, tailOf, splice, colsPut, Col.put, mmFold, eqK, Nat.reduceLT, colsPaste, Col.paste, mNew, mkKey, keyIn, mGet, mPut, e1, e2, e3, e4, e5, e6, e7, e8, e9]) (by simp only [aqT, ROp, OX, ↓seqK, ↓blkK, ↓loopK, step, stepBin, res, stepIdx, mix, PV.cells, argSlots, Nat.reduceBEq, Nat.reduceBeqDiff, Nat.add_assoc nid, Nat.reduceAdd, reduceCtorEq, ↓reduceIte, Nat.reduceLeDiff, colPV, freeOf, indep, offO, neqO, disj, namesX, axSlot, opXs, rdXs, idsOf, idsOfs, lowH, lowAll, keys, Nat.reduceBneDiff, Option.toList, ← Int.ofNat_tmod, ← Int.ofNat_tdiv, optInt, fillP, repl, chunk, mkCols, mkCol, colInts, colBools, colStrs, colLits, colsApp, Col.app, tailOf, splice, colsPut, Col.put, mmFold, eqK, Nat.reduceLT, colsPaste, Col.paste, mNew, mkKey, keyIn, mGet, mPut, e1, e2, e3, e4, e5, e6, e7, e8, e9]) (by simp only [aqT, ROp, OX, ↓seqK, ↓blkK, ↓loopK, step, stepBin, res, stepIdx, mix, PV.cells, argSlots, Nat.reduceBEq, Nat.reduceBeqDiff, Nat.add_assoc nid, Nat.reduceAdd, reduceCtorEq, ↓reduceIte, Nat.reduceLeDiff, colPV, freeOf, indep, offO, neqO, disj, namesX, axSlot, opXs, rdXs, idsOf, idsOfs, lowH, lowAll, keys, Nat.reduceBneDiff, Option.toList, ← Int.ofNat_tmod, ← Int.ofNat_tdiv, optInt, fillP, repl, chunk, mkCols, mkCol, colInts, colBools, colStrs, colLits, colsApp, Col.app, tailOf, splice, colsPut, Col.put, mmFold, eqK, Nat.reduceLT, colsPaste, Col.paste, mNew, mkKey, keyIn, mGet, mPut, e1, e2, e3, e4, e5, e6, e7, e8, e9]) (by omega) (by omega) hA (by omega) (by omega) ?_⟩
    simp -dsimp only [aqT0, ROp0, aqT, ROp, OX, ↓seqK, ↓blkK, ↓loopK, step, stepBin, res, stepIdx, mix, PV.cells, argSlots, Nat.reduceBEq, Nat.reduceBeqDiff, Nat.add_assoc nid, Nat.reduceAdd, reduceCtorEq, ↓reduceIte, Nat.reduceLeDiff, colPV, freeOf, indep, offO, neqO, disj, namesX, axSlot, opXs, rdXs, idsOf, idsOfs, lowH, lowAll, keys, Nat.reduceBneDiff, Option.toList, ← Int.ofNat_tmod, ← Int.ofNat_tdiv, optInt, fillP, repl, chunk, mkCols, mkCol, colInts, colBools, colStrs, colLits, colsApp, Col.app, tailOf, splice, colsPut, Col.put, mmFold, eqK, Nat.reduceLT, colsPaste, Col.paste, mNew, mkKey, keyIn, mGet, mPut, Int.cast_ofNat_Int, Int.reduceBEq, Int.reduceBNe, Int.reduceLT, Int.reduceLE, Int.reduceAdd, Int.reduceSub, Int.reduceMul, Int.reduceToNat, Int.reduceNeg, Int.reduceTMod, Int.reduceEq, not_false_eq_true, Int.reducePow, Int.reduceFDiv, Nat.reducePow, Nat.reduceSub, Nat.reduceMul, Nat.min_eq_left, Nat.reduceEqDiff, BEq.rfl, Int.tdiv_one, LN_succ, e1, e2, e3, e4, e5, e6, e7, e8, e9, strmC_low]
    have hb := pickV_bd A (p + 1) (l := [lo - 1, hi + 1, lo, hi, -1099511627776, 1099511627776]) (lo := -1099511627776) (hi := 1099511627776) (by simp) (by simp; omega)
    refine EndOK.mk _ hb ?_
    refine RetOK.go [] [] (.inl rfl) ?_
    simp [a57, retPV, over, keys, List.map_nil, List.map_cons, List.contains_cons, List.contains_nil, Bool.or_false, Bool.or_true, Bool.true_or, Bool.false_or, beq_self_eq_true, cond_true, cond_false, HeapCov, orNil, nilSz, onBlk, srcOf, getH_hit, getH_miss, getH.eq_1, getS_hit, getS_miss, getS.eq_1, BlkCov, PVCovs, PVCov, ColsEq, ColEq.refl, liveIds, SlotsCov, List.all_nil, List.all_cons, List.any_nil, List.any_cons, List.nil_append, List.cons_append, inRange, apart, nilBlk, idS1, idS2, readAll, readRes, onAll, step, res, AX.val, List.drop_zero, List.drop_succ_cons, List.take_succ_cons, List.take_zero, e1, e2, e3, e4, e5, e6, e7, e8, e9, strmC, pickV]
    omega
  · refine CallX.on (range_c s _ nl A (p + 1) _ _ (by omega) (by omega) hA h1 (by omega) (by omega)) (subH_get (by simp only [aqT, ROp, OX, ↓seqK, ↓blkK, ↓loopK, step, stepBin, res, stepIdx, mix, PV.cells, argSlots, Nat.reduceBEq, Nat.reduceBeqDiff, Nat.add_assoc nid, Nat.reduceAdd, reduceCtorEq, ↓reduceIte, Nat.reduceLeDiff, colPV, freeOf, indep, offO, neqO, disj, namesX, axSlot, opXs, rdXs, idsOf, idsOfs, lowH, lowAll, keys, Nat.reduceBneDiff, Option.toList, ← Int.ofNat_tmod, ← Int.ofNat_tdiv, optInt, fillP, repl, chunk, mkCols, mkCol, colInts, colBools, colStrs, colLits, colsApp, Col.app, tailOf, splice, colsPut, Col.put, mmFold, eqK, Nat.reduceLT, colsPaste, Col.paste, mNew, mkKey, keyIn, mGet, mPut, e1, e2, e3, e4, e5, e6, e7, e8, e9])) ?_
    simp -dsimp only [aqT0, ROp0, aqT, ROp, OX, ↓seqK, ↓blkK, ↓loopK, step, stepBin, res, stepIdx, mix, PV.cells, argSlots, Nat.reduceBEq, Nat.reduceBeqDiff, Nat.add_assoc nid, Nat.reduceAdd, reduceCtorEq, ↓reduceIte, Nat.reduceLeDiff, colPV, freeOf, indep, offO, neqO, disj, namesX, axSlot, opXs, rdXs, idsOf, idsOfs, lowH, lowAll, keys, Nat.reduceBneDiff, Option.toList, ← Int.ofNat_tmod, ← Int.ofNat_tdiv, optInt, fillP, repl, chunk, mkCols, mkCol, colInts, colBools, colStrs, colLits, colsApp, Col.app, tailOf, splice, colsPut, Col.put, mmFold, eqK, Nat.reduceLT, colsPaste, Col.paste, mNew, mkKey, keyIn, mGet, mPut, Int.cast_ofNat_Int, Int.reduceBEq, Int.reduceBNe, Int.reduceLT, Int.reduceLE, Int.reduceAdd, Int.reduceSub, Int.reduceMul, Int.reduceToNat, Int.reduceNeg, Int.reduceTMod, Int.reduceEq, not_false_eq_true, Int.reducePow, Int.reduceFDiv, Nat.reducePow, Nat.reduceSub, Nat.reduceMul, Nat.min_eq_left, Nat.reduceEqDiff, BEq.rfl, Int.tdiv_one, LN_succ, e1, e2, e3, e4, e5, e6, e7, e8, e9, strmC_low]
    have hb := rangeV_bd A (p + 1) h1
    refine EndOK.mk (rangeV A (p + 1) lo hi) (by omega) ?_
    refine RetOK.go [] [] (.inl rfl) ?_
    simp [a57, retPV, over, keys, List.map_nil, List.map_cons, List.contains_cons, List.contains_nil, Bool.or_false, Bool.or_true, Bool.true_or, Bool.false_or, beq_self_eq_true, cond_true, cond_false, HeapCov, orNil, nilSz, onBlk, srcOf, getH_hit, getH_miss, getH.eq_1, getS_hit, getS_miss, getS.eq_1, BlkCov, PVCovs, PVCov, ColsEq, ColEq.refl, liveIds, SlotsCov, List.all_nil, List.all_cons, List.any_nil, List.any_cons, List.nil_append, List.cons_append, inRange, apart, nilBlk, idS1, idS2, readAll, readRes, onAll, step, res, AX.val, List.drop_zero, List.drop_succ_cons, List.take_succ_cons, List.take_zero, e1, e2, e3, e4, e5, e6, e7, e8, e9, strmC]
    omega
theorem some_c (s nid : Nat) (nl nl' : Bool) (A : List Int) (p : Nat) (n : Nat) (g : Nat → List UInt8) (h : s < nid) (hp : p ≤ 1099511627775) (hA : A.length ≤ 17592186044416) (h1 : 0 < n) (hn : n ≤ 1099511627776) :
    ACall Tryd.prog 86 [.ptr s 0, .lit nl' n [.s g]] [(s, strmC nl A p)] nid (.str (g (pickI A p n))) [(s, strmC nl A (p + 1))] := by
  obtain ⟨e1, e2, e3, e4, e5, e6, e7, e8, e9⟩ := id_all h
  refine acall_run c86 (by simp [a86]) ?_
  simp -dsimp only [aqT, ROp, OX, ↓seqK, ↓blkK, ↓loopK, step, stepBin, res, stepIdx, mix, PV.cells, argSlots, Nat.reduceBEq, Nat.reduceBeqDiff, Nat.add_assoc nid, Nat.reduceAdd, reduceCtorEq, ↓reduceIte, Nat.reduceLeDiff, colPV, freeOf, indep, offO, neqO, disj, namesX, axSlot, opXs, rdXs, idsOf, idsOfs, lowH, lowAll, keys, Nat.reduceBneDiff, Option.toList, ← Int.ofNat_tmod, ← Int.ofNat_tdiv, optInt, fillP, repl, chunk, mkCols, mkCol, colInts, colBools, colStrs, colLits, colsApp, Col.app, tailOf, splice, colsPut, Col.put, mmFold, eqK, Nat.reduceLT, colsPaste, Col.paste, mNew, mkKey, keyIn, mGet, mPut, e1, e2, e3, e4, e5, e6, e7, e8, e9, a86]
  refine CallO.on (next_c _ _ _ _ _ _ (by omega) hp hA (by omega)) (subH_hit _ _ _) ?_
  simp -dsimp only [aqT, ROp, OX, ↓seqK, ↓blkK, ↓loopK, step, stepBin, res, stepIdx, mix, PV.cells, argSlots, Nat.reduceBEq, Nat.reduceBeqDiff, Nat.add_assoc nid, Nat.reduceAdd, reduceCtorEq, ↓reduceIte, Nat.reduceLeDiff, colPV, freeOf, indep, offO, neqO, disj, namesX, axSlot, opXs, rdXs, idsOf, idsOfs, lowH, lowAll, keys, Nat.reduceBneDiff, Option.toList, ← Int.ofNat_tmod, ← Int.ofNat_tdiv, optInt, fillP, repl, chunk, mkCols, mkCol, colInts, colBools, colStrs, colLits, colsApp, Col.app, tailOf, splice, colsPut, Col.put, mmFold, eqK, Nat.reduceLT, colsPaste, Col.paste, mNew, mkKey, keyIn, mGet, mPut, e1, e2, e3, e4, e5, e6, e7, e8, e9]
  have := nextV_bd A p (n := (n : Int)) (by omega)
  refine ⟨this, RetOK.same (.inl rfl) rfl (by simp [strmC, liveIds]; omega) ?_ ?_⟩
  · simp [retPV, over, keys, List.map_nil, List.map_cons, List.contains_cons, List.contains_nil, Bool.or_false, Bool.or_true, Bool.true_or, Bool.false_or, beq_self_eq_true, cond_true, cond_false, HeapCov, orNil, nilSz, onBlk, srcOf, getH_hit, getH_miss, getH.eq_1, getS_hit, getS_miss, getS.eq_1, BlkCov, PVCovs, PVCov, ColsEq, ColEq.refl, liveIds, SlotsCov, List.all_nil, List.all_cons, List.any_nil, List.any_cons, List.nil_append, List.cons_append, inRange, apart, nilBlk, idS1, idS2, readAll, readRes, onAll, step, res, AX.val, List.drop_zero, List.drop_succ_cons, List.take_succ_cons, List.take_zero, strmC]
  · simp [retPV, over, keys, List.map_nil, List.map_cons, List.contains_cons, List.contains_nil, Bool.or_false, Bool.or_true, Bool.true_or, Bool.false_or, beq_self_eq_true, cond_true, cond_false, HeapCov, orNil, nilSz, onBlk, srcOf, getH_hit, getH_miss, getH.eq_1, getS_hit, getS_miss, getS.eq_1, BlkCov, PVCovs, PVCov, ColsEq, ColEq.refl, liveIds, SlotsCov, List.all_nil, List.all_cons, List.any_nil, List.any_cons, List.nil_append, List.cons_append, inRange, apart, nilBlk, idS1, idS2, readAll, readRes, onAll, step, res, AX.val, List.drop_zero, List.drop_succ_cons, List.take_succ_cons, List.take_zero, pickI]
theorem CallX.some_go {s id nid : Nat} {nl : Bool} {A : List Int} {p : Nat} {n T : Nat} {g : Nat → List UInt8} {H : Heap} {K : PV → Heap → List Nat → Prop} (hs : getH H s = strmC nl A p) (hid : getH H id = some (.arr T n [.s g])) (hne : (s == id) = false) (h : s < nid) (hp : p ≤ 1099511627775) (hA : A.length ≤ 17592186044416) (h1 : 0 < n) (hn : n ≤ 1099511627776)
    (hK : K (.str (g (pickI A p n))) [(s, strmC nl A (p + 1)), (id, none)] [s, id]) : CallX Tryd.prog 86 [.ptr s 0, .sl id 0 n] H nid K := by
  refine CallX.given [id] (u := [(s, strmC nl A (p + 1))]) (fun nl' => ?_) (subH_get hs) (by simp [getH, hne]) hK
  have e : lends H [id] nl' [.ptr s 0, .sl id 0 n] = [.ptr s 0, .lit (nl' id) n [.s g]] := by simp [lends, lend, hid]
  rw [e]
  exact some_c s _ nl _ A p n _ h hp hA h1 hn
theorem CallO.some_go {s id nid : Nat} {nl : Bool} {A : List Int} {p : Nat} {n T : Nat} {g : Nat → List UInt8} {H : Heap} {K : PV → Heap → Prop} (hs : getH H s = strmC nl A p) (hid : getH H id = some (.arr T n [.s g])) (hne : (s == id) = false) (h : s < nid) (hp : p ≤ 1099511627775) (hA : A.length ≤ 17592186044416) (h1 : 0 < n) (hn : n ≤ 1099511627776)
    (hK : K (.str (g (pickI A p n))) [(s, strmC nl A (p + 1)), (id, none)]) : CallOK Tryd.prog 86 [.ptr s 0, .sl id 0 n] H nid K :=
  CallO.x (CallX.some_go hs hid hne h hp hA h1 hn hK)
theorem getD_all {α : Type} {P : α → Prop} {l : List α} {d : α} (h : ∀ x ∈ l, P x) {i : Nat} (hi : i < l.length) : P (l.getD i d) := by
  rw [List.getD_eq_getElem?_getD, List.getElem?_eq_getElem hi]
  exact h _ (List.getElem_mem _)
def bit01 (b : UInt8) : Bool := b == 48 || b == 49
theorem bitsX (s nid : Nat) (nl : Bool) (A : List Int) (p n : Nat) (h : s < nid) (hn : n ≤ 1000000) (hp : p ≤ 1099510000000) (hA : A.length ≤ 17592186044416) :
    ∃ t : List UInt8, (t.length = n ∧ t.all bit01 = true) ∧ ACall Tryd.prog 84 [.ptr s 0, .int .i64 n] [(s, strmC nl A p)] nid (.str t) [(s, strmC nl A (p + n))] := by
  obtain ⟨e1, e2, e3, e4, e5, e6, e7, e8, e9⟩ := id_all h
  refine acall_ex c84 (by simp [a84]) ?_
  simp -dsimp only [aqT0, ROp0, aqT, ROp, OX, ↓seqK, ↓blkK, ↓loopK, step, stepBin, res, stepIdx, mix, PV.cells, argSlots, Nat.reduceBEq, Nat.reduceBeqDiff, Nat.add_assoc nid, Nat.reduceAdd, reduceCtorEq, ↓reduceIte, Nat.reduceLeDiff, colPV, freeOf, indep, offO, neqO, disj, namesX, axSlot, opXs, rdXs, idsOf, idsOfs, lowH, lowAll, keys, Nat.reduceBneDiff, Option.toList, ← Int.ofNat_tmod, ← Int.ofNat_tdiv, optInt, fillP, repl, chunk, mkCols, mkCol, colInts, colBools, colStrs, colLits, colsApp, Col.app, tailOf, splice, colsPut, Col.put, mmFold, eqK, Nat.reduceLT, colsPaste, Col.paste, mNew, mkKey, keyIn, mGet, mPut, Int.cast_ofNat_Int, Int.reduceBEq, Int.reduceBNe, Int.reduceLT, Int.reduceLE, Int.reduceAdd, Int.reduceSub, Int.reduceMul, Int.reduceToNat, Int.reduceNeg, Int.reduceTMod, Int.reduceEq, not_false_eq_true, Int.reducePow, Int.reduceFDiv, Nat.reducePow, Nat.reduceSub, Nat.reduceMul, Nat.min_eq_left, Nat.reduceEqDiff, BEq.rfl, Int.tdiv_one, LN_succ, e1, e2, e3, e4, e5, e6, e7, e8, e9, a84, strmC_low]
  refine LP0.mkP (fun x : List UInt8 => x.length ≤ n ∧ x.all bit01 = true) (fun x => ⟨[(7, .int .i64 x.length), (6, .int .i64 n), (5, .str x), (0, .ptr s 0)], [(s, strmC nl A (p + x.length))], nid + 100, nid⟩) (fun x => n - x.length) [] (by simp) (Cov.go [] [] ?_) (fun x hx => ?_)
  · simp [retPV, over, keys, List.map_nil, List.map_cons, List.contains_cons, List.contains_nil, Bool.or_false, Bool.or_true, Bool.true_or, Bool.false_or, beq_self_eq_true, cond_true, cond_false, HeapCov, orNil, nilSz, onBlk, srcOf, getH_hit, getH_miss, getH.eq_1, getS_hit, getS_miss, getS.eq_1, BlkCov, PVCovs, PVCov, ColsEq, ColEq.refl, liveIds, SlotsCov, List.all_nil, List.all_cons, List.any_nil, List.any_cons, List.nil_append, List.cons_append, inRange, apart, nilBlk, idS1, idS2, readAll, readRes, onAll, step, res, AX.val, List.drop_zero, List.drop_succ_cons, List.take_succ_cons, List.take_zero, e1, e2, e3, e4, e5, e6, e7, e8, e9, strmC]
  obtain ⟨hx1, hx2⟩ := hx
  simp -dsimp only [aqT0, ROp0, aqT, ROp, OX, ↓seqK, ↓blkK, ↓loopK, step, stepBin, res, stepIdx, mix, PV.cells, argSlots, Nat.reduceBEq, Nat.reduceBeqDiff, Nat.add_assoc nid, Nat.reduceAdd, reduceCtorEq, ↓reduceIte, Nat.reduceLeDiff, colPV, freeOf, indep, offO, neqO, disj, namesX, axSlot, opXs, rdXs, idsOf, idsOfs, lowH, lowAll, keys, Nat.reduceBneDiff, Option.toList, ← Int.ofNat_tmod, ← Int.ofNat_tdiv, optInt, fillP, repl, chunk, mkCols, mkCol, colInts, colBools, colStrs, colLits, colsApp, Col.app, tailOf, splice, colsPut, Col.put, mmFold, eqK, Nat.reduceLT, colsPaste, Col.paste, mNew, mkKey, keyIn, mGet, mPut, Int.cast_ofNat_Int, Int.reduceBEq, Int.reduceBNe, Int.reduceLT, Int.reduceLE, Int.reduceAdd, Int.reduceSub, Int.reduceMul, Int.reduceToNat, Int.reduceNeg, Int.reduceTMod, Int.reduceEq, not_false_eq_true, Int.reducePow, Int.reduceFDiv, Nat.reducePow, Nat.reduceSub, Nat.reduceMul, Nat.min_eq_left, Nat.reduceEqDiff, BEq.rfl, Int.tdiv_one, LN_succ, e1, e2, e3, e4, e5, e6, e7, e8, e9, strmC_low]
  refine S2.dec (fun h2 => ?_) (fun h2 => ?_) <;> simp -dsimp only [aqT0, ROp0, aqT, ROp, OX, ↓seqK, ↓blkK, ↓loopK, step, stepBin, res, stepIdx, mix, PV.cells, argSlots, Nat.reduceBEq, Nat.reduceBeqDiff, Nat.add_assoc nid, Nat.reduceAdd, reduceCtorEq, ↓reduceIte, Nat.reduceLeDiff, colPV, freeOf, indep, offO, neqO, disj, namesX, axSlot, opXs, rdXs, idsOf, idsOfs, lowH, lowAll, keys, Nat.reduceBneDiff, Option.toList, ← Int.ofNat_tmod, ← Int.ofNat_tdiv, optInt, fillP, repl, chunk, mkCols, mkCol, colInts, colBools, colStrs, colLits, colsApp, Col.app, tailOf, splice, colsPut, Col.put, mmFold, eqK, Nat.reduceLT, colsPaste, Col.paste, mNew, mkKey, keyIn, mGet, mPut, Int.cast_ofNat_Int, Int.reduceBEq, Int.reduceBNe, Int.reduceLT, Int.reduceLE, Int.reduceAdd, Int.reduceSub, Int.reduceMul, Int.reduceToNat, Int.reduceNeg, Int.reduceTMod, Int.reduceEq, not_false_eq_true, Int.reducePow, Int.reduceFDiv, Nat.reducePow, Nat.reduceSub, Nat.reduceMul, Nat.min_eq_left, Nat.reduceEqDiff, BEq.rfl, Int.tdiv_one, LN_succ, e1, e2, e3, e4, e5, e6, e7, e8, e9, strmC_low]
  · refine CallX.some_go (T := 9) (nl := nl) (A := A) (p := p + x.length) (g := fun i => [[48], [49]].getD i []) (by simp only [aqT, ROp, OX, ↓seqK, ↓blkK, ↓loopK, step, stepBin, res, stepIdx, mix, PV.cells, argSlots, Nat.reduceBEq, Nat.reduceBeqDiff, Nat.add_assoc nid, Nat.reduceAdd, reduceCtorEq, ↓reduceIte, Nat.reduceLeDiff, colPV, freeOf, indep, offO, neqO, disj, namesX, axSlot, opXs, rdXs, idsOf, idsOfs, lowH, lowAll, keys, Nat.reduceBneDiff, Option.toList, ← Int.ofNat_tmod, ← Int.ofNat_tdiv, optInt, fillP, repl, chunk, mkCols, mkCol, colInts, colBools, colStrs, colLits, colsApp, Col.app, tailOf, splice, colsPut, Col.put, mmFold, eqK, Nat.reduceLT, colsPaste, Col.paste, mNew, mkKey, keyIn, mGet, mPut, e1, e2, e3, e4, e5, e6, e7, e8, e9]) (by simp only [aqT, ROp, OX, ↓seqK, ↓blkK, ↓loopK, step, stepBin, res, stepIdx, mix, PV.cells, argSlots, Nat.reduceBEq, Nat.reduceBeqDiff, Nat.add_assoc nid, Nat.reduceAdd, reduceCtorEq, ↓reduceIte, Nat.reduceLeDiff, colPV, freeOf, indep, offO, neqO, disj, namesX, axSlot, opXs, rdXs, idsOf, idsOfs, lowH, lowAll, keys, Nat.reduceBneDiff, Option.toList, ← Int.ofNat_tmod, ← Int.ofNat_tdiv, optInt, fillP, repl, chunk, mkCols, mkCol, colInts, colBools, colStrs, colLits, colsApp, Col.app, tailOf, splice, colsPut, Col.put, mmFold, eqK, Nat.reduceLT, colsPaste, Col.paste, mNew, mkKey, keyIn, mGet, mPut, e1, e2, e3, e4, e5, e6, e7, e8, e9]) (by simp only [aqT, ROp, OX, ↓seqK, ↓blkK, ↓loopK, step, stepBin, res, stepIdx, mix, PV.cells, argSlots, Nat.reduceBEq, Nat.reduceBeqDiff, Nat.add_assoc nid, Nat.reduceAdd, reduceCtorEq, ↓reduceIte, Nat.reduceLeDiff, colPV, freeOf, indep, offO, neqO, disj, namesX, axSlot, opXs, rdXs, idsOf, idsOfs, lowH, lowAll, keys, Nat.reduceBneDiff, Option.toList, ← Int.ofNat_tmod, ← Int.ofNat_tdiv, optInt, fillP, repl, chunk, mkCols, mkCol, colInts, colBools, colStrs, colLits, colsApp, Col.app, tailOf, splice, colsPut, Col.put, mmFold, eqK, Nat.reduceLT, colsPaste, Col.paste, mNew, mkKey, keyIn, mGet, mPut, e1, e2, e3, e4, e5, e6, e7, e8, e9]) (by omega) (by omega) hA (by omega) (by omega) ?_
    simp -dsimp only [aqT0, ROp0, aqT, ROp, OX, ↓seqK, ↓blkK, ↓loopK, step, stepBin, res, stepIdx, mix, PV.cells, argSlots, Nat.reduceBEq, Nat.reduceBeqDiff, Nat.add_assoc nid, Nat.reduceAdd, reduceCtorEq, ↓reduceIte, Nat.reduceLeDiff, colPV, freeOf, indep, offO, neqO, disj, namesX, axSlot, opXs, rdXs, idsOf, idsOfs, lowH, lowAll, keys, Nat.reduceBneDiff, Option.toList, ← Int.ofNat_tmod, ← Int.ofNat_tdiv, optInt, fillP, repl, chunk, mkCols, mkCol, colInts, colBools, colStrs, colLits, colsApp, Col.app, tailOf, splice, colsPut, Col.put, mmFold, eqK, Nat.reduceLT, colsPaste, Col.paste, mNew, mkKey, keyIn, mGet, mPut, Int.cast_ofNat_Int, Int.reduceBEq, Int.reduceBNe, Int.reduceLT, Int.reduceLE, Int.reduceAdd, Int.reduceSub, Int.reduceMul, Int.reduceToNat, Int.reduceNeg, Int.reduceTMod, Int.reduceEq, not_false_eq_true, Int.reducePow, Int.reduceFDiv, Nat.reducePow, Nat.reduceSub, Nat.reduceMul, Nat.min_eq_left, Nat.reduceEqDiff, BEq.rfl, Int.tdiv_one, LN_succ, e1, e2, e3, e4, e5, e6, e7, e8, e9, strmC_low]
    have hb : ([[48], [49]].getD (pickI A (p + x.length) 2) [] : List UInt8) = [48] ∨ ([[48], [49]].getD (pickI A (p + x.length) 2) [] : List UInt8) = [49] := by
      have := pickI_lt A (p + x.length) (n := 2) (by omega)
      rcases (by omega : pickI A (p + x.length) 2 = 0 ∨ pickI A (p + x.length) 2 = 1) with e | e <;> rw [e] <;> simp
    generalize ([[48], [49]].getD (pickI A (p + x.length) 2) [] : List UInt8) = b at hb ⊢
    have hbl : b.length = 1 ∧ b.all bit01 = true := by rcases hb with rfl | rfl <;> exact ⟨rfl, rfl⟩
    refine ⟨by omega, by unfold inI64; omega, x ++ b, ⟨⟨by rw [List.length_append]; omega, by rw [List.all_append, hx2, hbl.2]; rfl⟩, by rw [List.length_append]; omega⟩, Cov.go [] [] ?_⟩
    have e : (x ++ b).length = x.length + 1 := by rw [List.length_append, hbl.1]
    have e2 : ((x ++ b).length : Int) = (x.length : Int) + 1 := by omega
    simp [retPV, over, keys, List.map_nil, List.map_cons, List.contains_cons, List.contains_nil, Bool.or_false, Bool.or_true, Bool.true_or, Bool.false_or, beq_self_eq_true, cond_true, cond_false, HeapCov, orNil, nilSz, onBlk, srcOf, getH_hit, getH_miss, getH.eq_1, getS_hit, getS_miss, getS.eq_1, BlkCov, PVCovs, PVCov, ColsEq, ColEq.refl, liveIds, SlotsCov, List.all_nil, List.all_cons, List.any_nil, List.any_cons, List.nil_append, List.cons_append, inRange, apart, nilBlk, idS1, idS2, readAll, readRes, onAll, step, res, AX.val, List.drop_zero, List.drop_succ_cons, List.take_succ_cons, List.take_zero, e1, e2, e3, e4, e5, e6, e7, e8, e9, strmC, e, e2, -List.length_append]
    omega
  · have e : x.length = n := by omega
    refine EndOK.mk x ⟨e, hx2⟩ ?_
    refine RetOK.go [] [] (.inl rfl) ?_
    simp [a84, retPV, over, keys, List.map_nil, List.map_cons, List.contains_cons, List.contains_nil, Bool.or_false, Bool.or_true, Bool.true_or, Bool.false_or, beq_self_eq_true, cond_true, cond_false, HeapCov, orNil, nilSz, onBlk, srcOf, getH_hit, getH_miss, getH.eq_1, getS_hit, getS_miss, getS.eq_1, BlkCov, PVCovs, PVCov, ColsEq, ColEq.refl, liveIds, SlotsCov, List.all_nil, List.all_cons, List.any_nil, List.any_cons, List.nil_append, List.cons_append, inRange, apart, nilBlk, idS1, idS2, readAll, readRes, onAll, step, res, AX.val, List.drop_zero, List.drop_succ_cons, List.take_succ_cons, List.take_zero, e1, e2, e3, e4, e5, e6, e7, e8, e9, strmC, e]
theorem enc_all : ((List.range 256).all fun n => decide ((Utf8.encode (IntKind.i32.wrap (n : Int))).data.toList.length ≤ 2)) = true := by kernel_rfl
theorem enc_len (b : UInt8) : (Utf8.encode (IntKind.i32.wrap ((b.toNat : Nat) : Int))).data.toList.length ≤ 2 := by
  have := List.all_eq_true.1 enc_all b.toNat (List.mem_range.2 (UInt8.toNat_lt b))
  simpa using this
theorem changedX (s nid : Nat) (nl : Bool) (A : List Int) (p : Nat) (t w : List UInt8) (h : s < nid) (ht : t.length ≤ 1000000000) (hw : w.length ≤ 1000) (hp : p ≤ 1099511627000) (hA : A.length ≤ 17592186044416) :
    ∃ x : List UInt8 × Nat, (x.1.length ≤ t.length + w.length + 2 ∧ x.2 ≤ p + 3) ∧ ACall Tryd.prog 87 [.ptr s 0, .str t, .str w] [(s, strmC nl A p)] nid (.str x.1) [(s, strmC nl A x.2)] := by
  obtain ⟨e1, e2, e3, e4, e5, e6, e7, e8, e9⟩ := id_all h
  refine acall_ex c87 (by simp [a87]) ?_
  simp -dsimp only [aqT0, ROp0, aqT, ROp, OX, ↓seqK, ↓blkK, ↓loopK, step, stepBin, res, stepIdx, mix, PV.cells, argSlots, Nat.reduceBEq, Nat.reduceBeqDiff, Nat.add_assoc nid, Nat.reduceAdd, reduceCtorEq, ↓reduceIte, Nat.reduceLeDiff, colPV, freeOf, indep, offO, neqO, disj, namesX, axSlot, opXs, rdXs, idsOf, idsOfs, lowH, lowAll, keys, Nat.reduceBneDiff, Option.toList, ← Int.ofNat_tmod, ← Int.ofNat_tdiv, optInt, fillP, repl, chunk, mkCols, mkCol, colInts, colBools, colStrs, colLits, colsApp, Col.app, tailOf, splice, colsPut, Col.put, mmFold, eqK, Nat.reduceLT, colsPaste, Col.paste, mNew, mkKey, keyIn, mGet, mPut, Int.cast_ofNat_Int, Int.reduceBEq, Int.reduceBNe, Int.reduceLT, Int.reduceLE, Int.reduceAdd, Int.reduceSub, Int.reduceMul, Int.reduceToNat, Int.reduceNeg, Int.reduceTMod, Int.reduceEq, not_false_eq_true, Int.reducePow, Int.reduceFDiv, Nat.reducePow, Nat.reduceSub, Nat.reduceMul, Nat.min_eq_left, Nat.reduceEqDiff, BEq.rfl, Int.tdiv_one, LN_succ, e1, e2, e3, e4, e5, e6, e7, e8, e9, a87, strmC_low]
  have fin : ∀ st : ST, getS st.slots 6 = .str w → st.heap = [(s, strmC nl A p)] → EndOK (fun x : List UInt8 × Nat => x.1.length ≤ t.length + w.length + 2 ∧ x.2 ≤ p + 3) (a87).res [(s, strmC nl A p)] nid (fun x => .str x.1) (fun x => [(s, strmC nl A x.2)]) .ret st := fun st hs hh => by
    refine EndOK.mk (w, p) ⟨by show w.length ≤ _; omega, by show p ≤ _; omega⟩ ?_
    refine RetOK.go [] [] (.inl rfl) ?_
    rw [hh]
    simp [a87, retPV, over, keys, List.map_nil, List.map_cons, List.contains_cons, List.contains_nil, Bool.or_false, Bool.or_true, Bool.true_or, Bool.false_or, beq_self_eq_true, cond_true, cond_false, HeapCov, orNil, nilSz, onBlk, srcOf, getH_hit, getH_miss, getH.eq_1, getS_hit, getS_miss, getS.eq_1, BlkCov, PVCovs, PVCov, ColsEq, ColEq.refl, liveIds, SlotsCov, List.all_nil, List.all_cons, List.any_nil, List.any_cons, List.nil_append, List.cons_append, inRange, apart, nilBlk, idS1, idS2, readAll, readRes, onAll, step, res, AX.val, List.drop_zero, List.drop_succ_cons, List.take_succ_cons, List.take_zero, e1, e2, e3, e4, e5, e6, e7, e8, e9, strmC, hs]
  refine S2.intro (fun h1 => ?_) (fun h1 => ?_) <;> simp -dsimp only [aqT0, ROp0, aqT, ROp, OX, ↓seqK, ↓blkK, ↓loopK, step, stepBin, res, stepIdx, mix, PV.cells, argSlots, Nat.reduceBEq, Nat.reduceBeqDiff, Nat.add_assoc nid, Nat.reduceAdd, reduceCtorEq, ↓reduceIte, Nat.reduceLeDiff, colPV, freeOf, indep, offO, neqO, disj, namesX, axSlot, opXs, rdXs, idsOf, idsOfs, lowH, lowAll, keys, Nat.reduceBneDiff, Option.toList, ← Int.ofNat_tmod, ← Int.ofNat_tdiv, optInt, fillP, repl, chunk, mkCols, mkCol, colInts, colBools, colStrs, colLits, colsApp, Col.app, tailOf, splice, colsPut, Col.put, mmFold, eqK, Nat.reduceLT, colsPaste, Col.paste, mNew, mkKey, keyIn, mGet, mPut, Int.cast_ofNat_Int, Int.reduceBEq, Int.reduceBNe, Int.reduceLT, Int.reduceLE, Int.reduceAdd, Int.reduceSub, Int.reduceMul, Int.reduceToNat, Int.reduceNeg, Int.reduceTMod, Int.reduceEq, not_false_eq_true, Int.reducePow, Int.reduceFDiv, Nat.reducePow, Nat.reduceSub, Nat.reduceMul, Nat.min_eq_left, Nat.reduceEqDiff, BEq.rfl, Int.tdiv_one, LN_succ, e1, e2, e3, e4, e5, e6, e7, e8, e9, strmC_low]
  · exact fin _ rfl rfl
  refine S2.intro (fun h2 => ?_) (fun h2 => ?_) <;> simp -dsimp only [aqT0, ROp0, aqT, ROp, OX, ↓seqK, ↓blkK, ↓loopK, step, stepBin, res, stepIdx, mix, PV.cells, argSlots, Nat.reduceBEq, Nat.reduceBeqDiff, Nat.add_assoc nid, Nat.reduceAdd, reduceCtorEq, ↓reduceIte, Nat.reduceLeDiff, colPV, freeOf, indep, offO, neqO, disj, namesX, axSlot, opXs, rdXs, idsOf, idsOfs, lowH, lowAll, keys, Nat.reduceBneDiff, Option.toList, ← Int.ofNat_tmod, ← Int.ofNat_tdiv, optInt, fillP, repl, chunk, mkCols, mkCol, colInts, colBools, colStrs, colLits, colsApp, Col.app, tailOf, splice, colsPut, Col.put, mmFold, eqK, Nat.reduceLT, colsPaste, Col.paste, mNew, mkKey, keyIn, mGet, mPut, Int.cast_ofNat_Int, Int.reduceBEq, Int.reduceBNe, Int.reduceLT, Int.reduceLE, Int.reduceAdd, Int.reduceSub, Int.reduceMul, Int.reduceToNat, Int.reduceNeg, Int.reduceTMod, Int.reduceEq, not_false_eq_true, Int.reducePow, Int.reduceFDiv, Nat.reducePow, Nat.reduceSub, Nat.reduceMul, Nat.min_eq_left, Nat.reduceEqDiff, BEq.rfl, Int.tdiv_one, LN_succ, e1, e2, e3, e4, e5, e6, e7, e8, e9, strmC_low]
  · exact fin _ rfl rfl
  clear fin
  have ht0 : 0 < t.length := by
    cases t with
    | nil => simp at h1
    | cons b t => simp
  have hw0 : 0 < w.length := by
    cases w with
    | nil => simp at h2
    | cons b w => simp
  refine CallX.on (next_c s _ nl A p _ (by omega) (by omega) hA (by omega)) (subH_get (by simp only [aqT, ROp, OX, ↓seqK, ↓blkK, ↓loopK, step, stepBin, res, stepIdx, mix, PV.cells, argSlots, Nat.reduceBEq, Nat.reduceBeqDiff, Nat.add_assoc nid, Nat.reduceAdd, reduceCtorEq, ↓reduceIte, Nat.reduceLeDiff, colPV, freeOf, indep, offO, neqO, disj, namesX, axSlot, opXs, rdXs, idsOf, idsOfs, lowH, lowAll, keys, Nat.reduceBneDiff, Option.toList, ← Int.ofNat_tmod, ← Int.ofNat_tdiv, optInt, fillP, repl, chunk, mkCols, mkCol, colInts, colBools, colStrs, colLits, colsApp, Col.app, tailOf, splice, colsPut, Col.put, mmFold, eqK, Nat.reduceLT, colsPaste, Col.paste, mNew, mkKey, keyIn, mGet, mPut, e1, e2, e3, e4, e5, e6, e7, e8, e9])) ?_
  simp -dsimp only [aqT0, ROp0, aqT, ROp, OX, ↓seqK, ↓blkK, ↓loopK, step, stepBin, res, stepIdx, mix, PV.cells, argSlots, Nat.reduceBEq, Nat.reduceBeqDiff, Nat.add_assoc nid, Nat.reduceAdd, reduceCtorEq, ↓reduceIte, Nat.reduceLeDiff, colPV, freeOf, indep, offO, neqO, disj, namesX, axSlot, opXs, rdXs, idsOf, idsOfs, lowH, lowAll, keys, Nat.reduceBneDiff, Option.toList, ← Int.ofNat_tmod, ← Int.ofNat_tdiv, optInt, fillP, repl, chunk, mkCols, mkCol, colInts, colBools, colStrs, colLits, colsApp, Col.app, tailOf, splice, colsPut, Col.put, mmFold, eqK, Nat.reduceLT, colsPaste, Col.paste, mNew, mkKey, keyIn, mGet, mPut, Int.cast_ofNat_Int, Int.reduceBEq, Int.reduceBNe, Int.reduceLT, Int.reduceLE, Int.reduceAdd, Int.reduceSub, Int.reduceMul, Int.reduceToNat, Int.reduceNeg, Int.reduceTMod, Int.reduceEq, not_false_eq_true, Int.reducePow, Int.reduceFDiv, Nat.reducePow, Nat.reduceSub, Nat.reduceMul, Nat.min_eq_left, Nat.reduceEqDiff, BEq.rfl, Int.tdiv_one, LN_succ, e1, e2, e3, e4, e5, e6, e7, e8, e9, strmC_low]
  have hb := nextV_bd A p (n := (t.length : Int)) (by omega)
  obtain ⟨I, hI⟩ : ∃ I : Nat, nextV A p (t.length : Int) = I := ⟨_, (Int.toNat_of_nonneg hb.1).symm⟩
  rw [hI] at hb ⊢
  refine CallX.on (next_c s _ nl A (p + 1) _ (by omega) (by omega) hA (by omega)) (subH_get (by simp only [aqT, ROp, OX, ↓seqK, ↓blkK, ↓loopK, step, stepBin, res, stepIdx, mix, PV.cells, argSlots, Nat.reduceBEq, Nat.reduceBeqDiff, Nat.add_assoc nid, Nat.reduceAdd, reduceCtorEq, ↓reduceIte, Nat.reduceLeDiff, colPV, freeOf, indep, offO, neqO, disj, namesX, axSlot, opXs, rdXs, idsOf, idsOfs, lowH, lowAll, keys, Nat.reduceBneDiff, Option.toList, ← Int.ofNat_tmod, ← Int.ofNat_tdiv, optInt, fillP, repl, chunk, mkCols, mkCol, colInts, colBools, colStrs, colLits, colsApp, Col.app, tailOf, splice, colsPut, Col.put, mmFold, eqK, Nat.reduceLT, colsPaste, Col.paste, mNew, mkKey, keyIn, mGet, mPut, e1, e2, e3, e4, e5, e6, e7, e8, e9])) ?_
  simp -dsimp only [aqT0, ROp0, aqT, ROp, OX, ↓seqK, ↓blkK, ↓loopK, step, stepBin, res, stepIdx, mix, PV.cells, argSlots, Nat.reduceBEq, Nat.reduceBeqDiff, Nat.add_assoc nid, Nat.reduceAdd, reduceCtorEq, ↓reduceIte, Nat.reduceLeDiff, colPV, freeOf, indep, offO, neqO, disj, namesX, axSlot, opXs, rdXs, idsOf, idsOfs, lowH, lowAll, keys, Nat.reduceBneDiff, Option.toList, ← Int.ofNat_tmod, ← Int.ofNat_tdiv, optInt, fillP, repl, chunk, mkCols, mkCol, colInts, colBools, colStrs, colLits, colsApp, Col.app, tailOf, splice, colsPut, Col.put, mmFold, eqK, Nat.reduceLT, colsPaste, Col.paste, mNew, mkKey, keyIn, mGet, mPut, Int.cast_ofNat_Int, Int.reduceBEq, Int.reduceBNe, Int.reduceLT, Int.reduceLE, Int.reduceAdd, Int.reduceSub, Int.reduceMul, Int.reduceToNat, Int.reduceNeg, Int.reduceTMod, Int.reduceEq, not_false_eq_true, Int.reducePow, Int.reduceFDiv, Nat.reducePow, Nat.reduceSub, Nat.reduceMul, Nat.min_eq_left, Nat.reduceEqDiff, BEq.rfl, Int.tdiv_one, LN_succ, e1, e2, e3, e4, e5, e6, e7, e8, e9, strmC_low]
  have hb2 := nextV_bd A (p + 1) (n := (w.length : Int)) (by omega)
  obtain ⟨J, hJ⟩ : ∃ J : Nat, nextV A (p + 1) (w.length : Int) = J := ⟨_, (Int.toNat_of_nonneg hb2.1).symm⟩
  rw [hJ] at hb2 ⊢
  refine ⟨by omega, ?_⟩
  refine CallX.on (next_c s _ nl A (p + 1 + 1) _ (by omega) (by omega) hA (by omega)) (subH_get (by simp only [aqT, ROp, OX, ↓seqK, ↓blkK, ↓loopK, step, stepBin, res, stepIdx, mix, PV.cells, argSlots, Nat.reduceBEq, Nat.reduceBeqDiff, Nat.add_assoc nid, Nat.reduceAdd, reduceCtorEq, ↓reduceIte, Nat.reduceLeDiff, colPV, freeOf, indep, offO, neqO, disj, namesX, axSlot, opXs, rdXs, idsOf, idsOfs, lowH, lowAll, keys, Nat.reduceBneDiff, Option.toList, ← Int.ofNat_tmod, ← Int.ofNat_tdiv, optInt, fillP, repl, chunk, mkCols, mkCol, colInts, colBools, colStrs, colLits, colsApp, Col.app, tailOf, splice, colsPut, Col.put, mmFold, eqK, Nat.reduceLT, colsPaste, Col.paste, mNew, mkKey, keyIn, mGet, mPut, e1, e2, e3, e4, e5, e6, e7, e8, e9])) ?_
  simp -dsimp only [aqT0, ROp0, aqT, ROp, OX, ↓seqK, ↓blkK, ↓loopK, step, stepBin, res, stepIdx, mix, PV.cells, argSlots, Nat.reduceBEq, Nat.reduceBeqDiff, Nat.add_assoc nid, Nat.reduceAdd, reduceCtorEq, ↓reduceIte, Nat.reduceLeDiff, colPV, freeOf, indep, offO, neqO, disj, namesX, axSlot, opXs, rdXs, idsOf, idsOfs, lowH, lowAll, keys, Nat.reduceBneDiff, Option.toList, ← Int.ofNat_tmod, ← Int.ofNat_tdiv, optInt, fillP, repl, chunk, mkCols, mkCol, colInts, colBools, colStrs, colLits, colsApp, Col.app, tailOf, splice, colsPut, Col.put, mmFold, eqK, Nat.reduceLT, colsPaste, Col.paste, mNew, mkKey, keyIn, mGet, mPut, Int.cast_ofNat_Int, Int.reduceBEq, Int.reduceBNe, Int.reduceLT, Int.reduceLE, Int.reduceAdd, Int.reduceSub, Int.reduceMul, Int.reduceToNat, Int.reduceNeg, Int.reduceTMod, Int.reduceEq, not_false_eq_true, Int.reducePow, Int.reduceFDiv, Nat.reducePow, Nat.reduceSub, Nat.reduceMul, Nat.min_eq_left, Nat.reduceEqDiff, BEq.rfl, Int.tdiv_one, LN_succ, e1, e2, e3, e4, e5, e6, e7, e8, e9, strmC_low]
  have henc := enc_len (w.getD J 0)
  have fin : ∀ (x : List UInt8) (st : ST), x.length ≤ t.length + w.length + 2 → getS st.slots 6 = .str x → st.heap = [(s, strmC nl A (p + 1 + 1 + 1)), (s, strmC nl A (p + 1 + 1)), (s, strmC nl A (p + 1)), (s, strmC nl A p)] → EndOK (fun x : List UInt8 × Nat => x.1.length ≤ t.length + w.length + 2 ∧ x.2 ≤ p + 3) (a87).res [(s, strmC nl A p)] nid (fun x => .str x.1) (fun x => [(s, strmC nl A x.2)]) .ret st := fun x st hx hs hh => by
    refine EndOK.mk (x, p + 3) ⟨hx, Nat.le_refl _⟩ ?_
    refine RetOK.go [] [] (.inl rfl) ?_
    rw [hh]
    simp [a87, retPV, over, keys, List.map_nil, List.map_cons, List.contains_cons, List.contains_nil, Bool.or_false, Bool.or_true, Bool.true_or, Bool.false_or, beq_self_eq_true, cond_true, cond_false, HeapCov, orNil, nilSz, onBlk, srcOf, getH_hit, getH_miss, getH.eq_1, getS_hit, getS_miss, getS.eq_1, BlkCov, PVCovs, PVCov, ColsEq, ColEq.refl, liveIds, SlotsCov, List.all_nil, List.all_cons, List.any_nil, List.any_cons, List.nil_append, List.cons_append, inRange, apart, nilBlk, idS1, idS2, readAll, readRes, onAll, step, res, AX.val, List.drop_zero, List.drop_succ_cons, List.take_succ_cons, List.take_zero, e1, e2, e3, e4, e5, e6, e7, e8, e9, strmC, hs]
    omega
  refine S2.intro (fun h3 => ?_) (fun h3 => ?_) <;> simp -dsimp only [aqT0, ROp0, aqT, ROp, OX, ↓seqK, ↓blkK, ↓loopK, step, stepBin, res, stepIdx, mix, PV.cells, argSlots, Nat.reduceBEq, Nat.reduceBeqDiff, Nat.add_assoc nid, Nat.reduceAdd, reduceCtorEq, ↓reduceIte, Nat.reduceLeDiff, colPV, freeOf, indep, offO, neqO, disj, namesX, axSlot, opXs, rdXs, idsOf, idsOfs, lowH, lowAll, keys, Nat.reduceBneDiff, Option.toList, ← Int.ofNat_tmod, ← Int.ofNat_tdiv, optInt, fillP, repl, chunk, mkCols, mkCol, colInts, colBools, colStrs, colLits, colsApp, Col.app, tailOf, splice, colsPut, Col.put, mmFold, eqK, Nat.reduceLT, colsPaste, Col.paste, mNew, mkKey, keyIn, mGet, mPut, Int.cast_ofNat_Int, Int.reduceBEq, Int.reduceBNe, Int.reduceLT, Int.reduceLE, Int.reduceAdd, Int.reduceSub, Int.reduceMul, Int.reduceToNat, Int.reduceNeg, Int.reduceTMod, Int.reduceEq, not_false_eq_true, Int.reducePow, Int.reduceFDiv, Nat.reducePow, Nat.reduceSub, Nat.reduceMul, Nat.min_eq_left, Nat.reduceEqDiff, BEq.rfl, Int.tdiv_one, LN_succ, e1, e2, e3, e4, e5, e6, e7, e8, e9, strmC_low]
  · refine ⟨⟨by omega, by omega⟩, by simp only [List.length_take]; omega, by unfold inI64; omega, ⟨by omega, by omega⟩, by simp only [List.length_append, List.length_take, List.length_drop]; omega, ?_⟩
    exact fin _ _ (by simp only [List.length_append, List.length_take, List.length_drop]; omega) rfl rfl
  refine S2.intro (fun h4 => ?_) (fun h4 => ?_) <;> simp -dsimp only [aqT0, ROp0, aqT, ROp, OX, ↓seqK, ↓blkK, ↓loopK, step, stepBin, res, stepIdx, mix, PV.cells, argSlots, Nat.reduceBEq, Nat.reduceBeqDiff, Nat.add_assoc nid, Nat.reduceAdd, reduceCtorEq, ↓reduceIte, Nat.reduceLeDiff, colPV, freeOf, indep, offO, neqO, disj, namesX, axSlot, opXs, rdXs, idsOf, idsOfs, lowH, lowAll, keys, Nat.reduceBneDiff, Option.toList, ← Int.ofNat_tmod, ← Int.ofNat_tdiv, optInt, fillP, repl, chunk, mkCols, mkCol, colInts, colBools, colStrs, colLits, colsApp, Col.app, tailOf, splice, colsPut, Col.put, mmFold, eqK, Nat.reduceLT, colsPaste, Col.paste, mNew, mkKey, keyIn, mGet, mPut, Int.cast_ofNat_Int, Int.reduceBEq, Int.reduceBNe, Int.reduceLT, Int.reduceLE, Int.reduceAdd, Int.reduceSub, Int.reduceMul, Int.reduceToNat, Int.reduceNeg, Int.reduceTMod, Int.reduceEq, not_false_eq_true, Int.reducePow, Int.reduceFDiv, Nat.reducePow, Nat.reduceSub, Nat.reduceMul, Nat.min_eq_left, Nat.reduceEqDiff, BEq.rfl, Int.tdiv_one, LN_succ, e1, e2, e3, e4, e5, e6, e7, e8, e9, strmC_low]
  · refine ⟨⟨by omega, by omega⟩, by simp only [List.length_take]; omega, ⟨by omega, by omega⟩, by simp only [List.length_append, List.length_take, List.length_drop]; omega, ?_⟩
    exact fin _ _ (by simp only [List.length_append, List.length_take, List.length_drop]; omega) rfl rfl
  · refine ⟨⟨by omega, by omega⟩, by unfold inI64; omega, ⟨by omega, by omega⟩, by simp only [List.length_take, List.length_drop]; omega, ?_⟩
    exact fin _ _ (by simp only [List.length_append, List.length_take, List.length_drop]; omega) rfl rfl
end Go.Proofs.YthcldfmlfjomfaaDoor
