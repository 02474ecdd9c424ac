/-
  DERIVED: THE SHELF's CONTRACTS AT THIS DUMP, IN PLAIN WORDS (tools/lay-plain.mjs out of 'ZzShelf.lean', which tools/lay-shelf.mjs wrote): THE SAME DECLARATIONS UNDER THE SAME NAMES: 'import', 'namespace', 'open', 'def', 'theorem' AND NOTHING ELSE: no command of the shelf's: FOR A HAND-IN. Each laying: the table of numbers ('.._ren') and one theorem, a field a fact of the dump's own or the kernel's comparison; each contract: ONE APPLICATION.
-/
import Derived.Test.YthcldfmlfjomfaaGreatDoorKVD4
import Derived.Test.YthcldfmlfjomfaaGreatDoorProg
import Derived.Ground.NamesProg
import Derived.Shelf.Strings.SlTrimAscii
import Derived.Shelf.Strings.Search3
import Derived.Shelf.Sort.Plain
import Derived.Test.YthcldfmlfjomfaaGreatDoorKVD3
import Derived.WalkKit
import Derived.Shelf.Strings.Repeat
import Derived.Lib.Agree
import Derived.Test.YthcldfmlfjomfaaGreatDoorKVD1
import Derived.Shelf.Strings.OnBuilder
set_option linter.unusedVariables false
set_option linter.unusedSimpArgs false
set_option maxRecDepth 100000
namespace Go.Proofs
open Go.Shelf
def Tryz.lays160_ren : Go.Shelf.Ren := ⟨fun | 160 => 70 | 232 => 92 | 231 => 91 | 227 => 93 | 234 => 95 | 233 => 94 | 236 => 97 | 235 => 96 | 228 => 108 | 271 => 111 | 151 => 110 | 197 => 109 | 120 => 133 | 152 => 132 | 260 => 131 | 137 => 130 | 119 => 143 | 224 => 125 | 225 => 124 | 217 => 123 | 266 => 140 | n => n, fun | 9 => 9 | 4 => 4 | 3 => 3 | 5 => 5 | 117 => 116 | 116 => 115 | 0 => 0 | 124 => 119 | 21 => 21 | 105 => 128 | 46 => 96 | 119 => 152 | 139 => 155 | 138 => 154 | n => n, fun | 3 => 1 | 4 => 2 | n => n⟩
theorem Tryz.lays160 : Go.Proofs.Lays.n160 Tryz.prog Tryz.lays160_ren := {
  mixed := by kernel_rfl
  f119 := Tryz.func143.trans (congrArg some (by kernel_rfl))
  f120 := Tryz.func133.trans (congrArg some (by kernel_rfl))
  f137 := Tryz.func130.trans (congrArg some (by kernel_rfl))
  f151 := Tryz.func110.trans (congrArg some (by kernel_rfl))
  f152 := Tryz.func132.trans (congrArg some (by kernel_rfl))
  f160 := Tryz.func70.trans (congrArg some (by kernel_rfl))
  f197 := Tryz.func109.trans (congrArg some (by kernel_rfl))
  f217 := Tryz.func123.trans (congrArg some (by kernel_rfl))
  f224 := Tryz.func125.trans (congrArg some (by kernel_rfl))
  f225 := Tryz.func124.trans (congrArg some (by kernel_rfl))
  f227 := Tryz.func93.trans (congrArg some (by kernel_rfl))
  f228 := Tryz.func108.trans (congrArg some (by kernel_rfl))
  f231 := Tryz.func91.trans (congrArg some (by kernel_rfl))
  f232 := Tryz.func92.trans (congrArg some (by kernel_rfl))
  f233 := Tryz.func94.trans (congrArg some (by kernel_rfl))
  f234 := Tryz.func95.trans (congrArg some (by kernel_rfl))
  f235 := Tryz.func96.trans (congrArg some (by kernel_rfl))
  f236 := Tryz.func97.trans (congrArg some (by kernel_rfl))
  f260 := Tryz.func131.trans (congrArg some (by kernel_rfl))
  f266 := Tryz.func140.trans (congrArg some (by kernel_rfl))
  f271 := Tryz.func111.trans (congrArg some (by kernel_rfl))
  t0 := Tryz.underlying0
  a0 := Tryz.isAgg0
  z0 := Tryz.sizeOf0
  v0 := Tryz.zeroValue0
  t3 := Tryz.underlying3
  a3 := Tryz.isAgg3
  z3 := Tryz.sizeOf3
  v3 := Tryz.zeroValue3
  t4 := Tryz.underlying4
  a4 := Tryz.isAgg4
  z4 := Tryz.sizeOf4
  v4 := Tryz.zeroValue4
  t5 := Tryz.underlying5
  a5 := Tryz.isAgg5
  z5 := Tryz.sizeOf5
  v5 := Tryz.zeroValue5
  t9 := Tryz.underlying9
  a9 := Tryz.isAgg9
  z9 := Tryz.sizeOf9
  v9 := Tryz.zeroValue9
  t21 := Tryz.underlying21
  a21 := Tryz.isAgg21
  z21 := Tryz.sizeOf21
  v21 := Tryz.zeroValue21
  t46 := Tryz.underlying96
  a46 := Tryz.isAgg96
  z46 := Tryz.sizeOf96
  v46 := Tryz.zeroValue96
  t105 := Tryz.underlying128
  a105 := Tryz.isAgg128
  z105 := Tryz.sizeOf128
  v105 := Tryz.zeroValue128
  t116 := Tryz.underlying115
  a116 := Tryz.isAgg115
  z116 := Tryz.sizeOf115
  t117 := Tryz.underlying116
  a117 := Tryz.isAgg116
  z117 := Tryz.sizeOf116
  v117 := Tryz.zeroValue116
  t119 := Tryz.underlying152
  a119 := Tryz.isAgg152
  z119 := Tryz.sizeOf152
  t124 := Tryz.underlying119
  a124 := Tryz.isAgg119
  z124 := Tryz.sizeOf119
  v124 := Tryz.zeroValue119
  t138 := Tryz.underlying154
  a138 := Tryz.isAgg154
  z138 := Tryz.sizeOf154
  v138 := Tryz.zeroValue154
  t139 := Tryz.underlying155
  a139 := Tryz.isAgg155
  z139 := Tryz.sizeOf155
  v139 := Tryz.zeroValue155
  g3 := by kernel_rfl
  g4 := by kernel_rfl }
def Tryz.lays144_ren : Go.Shelf.Ren := ⟨fun | 144 => 55 | 143 => 78 | 219 => 100 | 217 => 123 | 225 => 124 | 224 => 125 | 267 => 126 | 266 => 140 | 314 => 141 | n => n, fun | 9 => 9 | 4 => 4 | 3 => 3 | 5 => 5 | 46 => 96 | 146 => 149 | 51 => 110 | n => n, fun | 1 => 0 | n => n⟩
theorem Tryz.lays144 : Go.Proofs.Lays.n144 Tryz.prog Tryz.lays144_ren := {
  mixed := by kernel_rfl
  f143 := Tryz.func78.trans (congrArg some (by kernel_rfl))
  f144 := Tryz.func55.trans (congrArg some (by kernel_rfl))
  f217 := Tryz.func123.trans (congrArg some (by kernel_rfl))
  f219 := Tryz.func100.trans (congrArg some (by kernel_rfl))
  f224 := Tryz.func125.trans (congrArg some (by kernel_rfl))
  f225 := Tryz.func124.trans (congrArg some (by kernel_rfl))
  f266 := Tryz.func140.trans (congrArg some (by kernel_rfl))
  f267 := Tryz.func126.trans (congrArg some (by kernel_rfl))
  f314 := Tryz.func141.trans (congrArg some (by kernel_rfl))
  t3 := Tryz.underlying3
  a3 := Tryz.isAgg3
  z3 := Tryz.sizeOf3
  v3 := Tryz.zeroValue3
  t4 := Tryz.underlying4
  a4 := Tryz.isAgg4
  z4 := Tryz.sizeOf4
  v4 := Tryz.zeroValue4
  t5 := Tryz.underlying5
  a5 := Tryz.isAgg5
  z5 := Tryz.sizeOf5
  v5 := Tryz.zeroValue5
  t9 := Tryz.underlying9
  a9 := Tryz.isAgg9
  z9 := Tryz.sizeOf9
  v9 := Tryz.zeroValue9
  t46 := Tryz.underlying96
  a46 := Tryz.isAgg96
  z46 := Tryz.sizeOf96
  v46 := Tryz.zeroValue96
  t51 := Tryz.underlying110
  a51 := Tryz.isAgg110
  z51 := Tryz.sizeOf110
  v51 := Tryz.zeroValue110
  t146 := Tryz.underlying149
  a146 := Tryz.isAgg149
  z146 := Tryz.sizeOf149
  v146 := Tryz.zeroValue149
  g1 := by kernel_rfl }
def Tryz.lays190_ren : Go.Shelf.Ren := ⟨fun | 190 => 75 | 125 => 99 | 258 => 98 | 128 => 121 | 129 => 122 | 302 => 112 | 303 => 113 | 304 => 114 | 305 => 115 | 306 => 116 | 307 => 117 | 308 => 118 | 309 => 119 | 310 => 120 | 333 => 134 | 329 => 135 | 330 => 136 | 334 => 137 | 335 => 138 | 336 => 139 | 344 => 144 | n => n, fun | 31 => 26 | 9 => 9 | 3 => 3 | 46 => 96 | 0 => 0 | 51 => 110 | 53 => 112 | 4 => 4 | 183 => 133 | 182 => 132 | 131 => 56 | 5 => 5 | 218 => 143 | 222 => 147 | 228 => 157 | 229 => 104 | n => n, fun | n => n⟩
theorem Tryz.lays190 : Go.Proofs.Lays.n190 Tryz.prog Tryz.lays190_ren := {
  mixed := by kernel_rfl
  f125 := Tryz.func99.trans (congrArg some (by kernel_rfl))
  f128 := Tryz.func121.trans (congrArg some (by kernel_rfl))
  f129 := Tryz.func122.trans (congrArg some (by kernel_rfl))
  f190 := Tryz.func75.trans (congrArg some (by kernel_rfl))
  f258 := Tryz.func98.trans (congrArg some (by kernel_rfl))
  f302 := Tryz.func112.trans (congrArg some (by kernel_rfl))
  f303 := Tryz.func113.trans (congrArg some (by kernel_rfl))
  f304 := Tryz.func114.trans (congrArg some (by kernel_rfl))
  f305 := Tryz.func115.trans (congrArg some (by kernel_rfl))
  f306 := Tryz.func116.trans (congrArg some (by kernel_rfl))
  f307 := Tryz.func117.trans (congrArg some (by kernel_rfl))
  f308 := Tryz.func118.trans (congrArg some (by kernel_rfl))
  f309 := Tryz.func119.trans (congrArg some (by kernel_rfl))
  f310 := Tryz.func120.trans (congrArg some (by kernel_rfl))
  f329 := Tryz.func135.trans (congrArg some (by kernel_rfl))
  f330 := Tryz.func136.trans (congrArg some (by kernel_rfl))
  f333 := Tryz.func134.trans (congrArg some (by kernel_rfl))
  f334 := Tryz.func137.trans (congrArg some (by kernel_rfl))
  f335 := Tryz.func138.trans (congrArg some (by kernel_rfl))
  f336 := Tryz.func139.trans (congrArg some (by kernel_rfl))
  f344 := Tryz.func144.trans (congrArg some (by kernel_rfl))
  t0 := Tryz.underlying0
  a0 := Tryz.isAgg0
  z0 := Tryz.sizeOf0
  v0 := Tryz.zeroValue0
  t3 := Tryz.underlying3
  a3 := Tryz.isAgg3
  z3 := Tryz.sizeOf3
  v3 := Tryz.zeroValue3
  t4 := Tryz.underlying4
  a4 := Tryz.isAgg4
  z4 := Tryz.sizeOf4
  v4 := Tryz.zeroValue4
  t5 := Tryz.underlying5
  a5 := Tryz.isAgg5
  z5 := Tryz.sizeOf5
  v5 := Tryz.zeroValue5
  t9 := Tryz.underlying9
  a9 := Tryz.isAgg9
  z9 := Tryz.sizeOf9
  v9 := Tryz.zeroValue9
  t31 := Tryz.underlying26
  a31 := Tryz.isAgg26
  z31 := Tryz.sizeOf26
  v31 := Tryz.zeroValue26
  t46 := Tryz.underlying96
  a46 := Tryz.isAgg96
  z46 := Tryz.sizeOf96
  v46 := Tryz.zeroValue96
  t51 := Tryz.underlying110
  a51 := Tryz.isAgg110
  z51 := Tryz.sizeOf110
  v51 := Tryz.zeroValue110
  t53 := Tryz.underlying112
  a53 := Tryz.isAgg112
  z53 := Tryz.sizeOf112
  v53 := Tryz.zeroValue112
  t131 := Tryz.underlying56
  a131 := Tryz.isAgg56
  z131 := Tryz.sizeOf56
  v131 := Tryz.zeroValue56
  t182 := Tryz.underlying132
  a182 := Tryz.isAgg132
  z182 := Tryz.sizeOf132
  v182 := Tryz.zeroValue132
  t183 := Tryz.underlying133
  a183 := Tryz.isAgg133
  z183 := Tryz.sizeOf133
  v183 := Tryz.zeroValue133
  t218 := Tryz.underlying143
  a218 := Tryz.isAgg143
  z218 := Tryz.sizeOf143
  v218 := Tryz.zeroValue143
  t222 := Tryz.underlying147
  a222 := Tryz.isAgg147
  z222 := Tryz.sizeOf147
  v222 := Tryz.zeroValue147
  t228 := Tryz.underlying157
  a228 := Tryz.isAgg157
  z228 := Tryz.sizeOf157
  v228 := Tryz.zeroValue157
  t229 := Tryz.underlying104
  a229 := Tryz.isAgg104
  z229 := Tryz.sizeOf104
  v229 := Tryz.zeroValue104 }
end Go.Proofs
namespace Go.Proofs.YthcldfmlfjomfaaGreatDoor
open Go.RowKit Go.Shelf Go.Lib
theorem trim_cc (s cs : List UInt8) (nid : Nat) (hs : s.length ≤ 9223372036854775807) (hcs : cs.length < 4294967281) (ha : cs.all (fun b => decide (b.toNat < 128)) = true) : ACall Tryz.prog 70 [.str s, .str cs] [] nid (.str (Lib.trimS s cs)) [] :=
  acall_below (us := [.string ⟨s.toArray⟩, .string ⟨cs.toArray⟩]) nid Tryz.func70 (by kernel_rfl) (by kernel_rfl) rfl rfl (fun w => by
    have h := Any.strings_Trim_laid Tryz.lays160 (by kernel_rfl) ⟨s.toArray⟩ ⟨cs.toArray⟩ w (by simpa [ByteArray.size] using hs) (by simpa [ByteArray.size] using hcs) (ascii_of_all (by simpa using ha))
    have hf : Tryz.lays160_ren.f 160 = 70 := by kernel_rfl
    rw [hf] at h
    simpa using h)
end Go.Proofs.YthcldfmlfjomfaaGreatDoor
namespace Go.Proofs.YthcldfmlfjomfaaGreatDoor
def a3 : AFn := ⟨204, [.t 2], .seq (.ops [⟨(some 2), none, .mv (.c (.bool false))⟩])
 (.seq (.ops [⟨(some 24), none, .mv (.t 0)⟩, ⟨(some 25), none, .build [(.lit true 0 []), (.int .i64 0)] [(0, 1, (.t 24))]⟩, ⟨(some 26), none, .box 25 (.t 25)⟩, ⟨(some 3), none, .mv (.t 26)⟩])
 (.seq (.ops [⟨(some 28), none, .mv (.t 3)⟩, ⟨(some 29), none, .call 6 [(.t 28), (.c (.int .i64 6))]⟩, ⟨(some 27), none, .mv (.t 29)⟩, ⟨(some 30), none, .ext (.t 27) 0⟩, ⟨(some 31), none, .ext (.t 27) 1⟩, ⟨(some 4), none, .mv (.t 30)⟩, ⟨(some 5), none, .mv (.t 31)⟩])
 (.seq (.ops [⟨(some 32), none, .mv (.t 3)⟩, ⟨(some 33), none, .call 7 [(.t 32), (.c (.int .i64 1)), (.c (.int .i64 3))]⟩, ⟨(some 6), none, .mv (.t 33)⟩])
 (.seq (.ops [⟨(some 34), none, .mv (.t 4)⟩, ⟨(some 35), none, .mv (.t 5)⟩, ⟨(some 36), none, .call 8 [(.t 34), (.t 35)]⟩, ⟨(some 7), none, .mv (.t 36)⟩])
 (.seq (.ops [⟨(some 38), none, .mv (.t 4)⟩, ⟨(some 39), none, .mv (.t 5)⟩, ⟨(some 40), none, .mv (.t 6)⟩, ⟨(some 41), none, .call 9 [(.t 38), (.t 39), (.t 40)]⟩, ⟨(some 37), none, .mv (.t 41)⟩, ⟨(some 42), none, .ext (.t 37) 0⟩, ⟨(some 43), none, .ext (.t 37) 1⟩, ⟨(some 8), none, .mv (.t 42)⟩, ⟨(some 9), none, .mv (.t 43)⟩])
 (.seq (.ops [⟨(some 45), none, .mv (.t 4)⟩, ⟨(some 46), none, .mv (.t 5)⟩, ⟨(some 47), none, .call 10 [(.t 45), (.t 46)]⟩, ⟨(some 44), none, .mv (.t 47)⟩, ⟨(some 48), none, .ext (.t 44) 0⟩, ⟨(some 49), none, .ext (.t 44) 1⟩, ⟨(some 10), none, .mv (.t 48)⟩, ⟨(some 11), none, .mv (.t 49)⟩])
 (.seq (.ops [⟨(some 51), none, .mv (.t 4)⟩, ⟨(some 52), none, .mv (.t 5)⟩, ⟨(some 53), none, .call 11 [(.t 51), (.t 52)]⟩, ⟨(some 50), none, .mv (.t 53)⟩, ⟨(some 54), none, .ext (.t 50) 0⟩, ⟨(some 55), none, .ext (.t 50) 1⟩, ⟨(some 12), none, .mv (.t 54)⟩, ⟨(some 13), none, .mv (.t 55)⟩])
 (.seq (.ops [⟨(some 57), none, .mv (.t 4)⟩, ⟨(some 58), none, .mv (.t 5)⟩, ⟨(some 59), none, .call 12 [(.t 57), (.t 58)]⟩, ⟨(some 56), none, .mv (.t 59)⟩, ⟨(some 60), none, .ext (.t 56) 0⟩, ⟨(some 61), none, .ext (.t 56) 1⟩, ⟨(some 14), none, .mv (.t 60)⟩, ⟨(some 15), none, .mv (.t 61)⟩])
 (.seq (.ops [⟨(some 63), none, .mv (.t 4)⟩, ⟨(some 64), none, .mv (.t 5)⟩, ⟨(some 65), none, .call 13 [(.t 63), (.t 64)]⟩, ⟨(some 62), none, .mv (.t 65)⟩, ⟨(some 66), none, .ext (.t 62) 0⟩, ⟨(some 67), none, .ext (.t 62) 1⟩, ⟨(some 68), none, .ext (.t 62) 2⟩, ⟨(some 16), none, .mv (.t 66)⟩, ⟨(some 17), none, .mv (.t 67)⟩, ⟨(some 18), none, .mv (.t 68)⟩])
 (.seq (.ops [⟨(some 69), none, .mv (.t 7)⟩, ⟨(some 70), none, .mv (.t 6)⟩, ⟨(some 71), none, .call 15 [(.t 70)]⟩, ⟨(some 72), none, .bslice 30 1 2 [(.int .i64 0)] [(0, 1, (.t 69)), (1, 1, (.t 71))]⟩, ⟨(some 73), none, .call 14 [(.t 72)]⟩, ⟨(some 19), none, .mv (.t 73)⟩])
 (.seq (.seq (.ops [⟨(some 74), none, .mv (.t 9)⟩, ⟨(some 75), none, .mv (.t 19)⟩, ⟨(some 76), none, .bin 0 .neq (.t 74) (.t 75)⟩, ⟨(some 77), none, .mv (.t 76)⟩, ⟨(some 78), (some (77, false)), .mv (.t 8)⟩, ⟨(some 79), (some (77, false)), .mv (.t 19)⟩, ⟨(some 80), (some (77, false)), .bin 0 .eql (.t 79) (.c (.int .i64 0))⟩, ⟨(some 81), (some (77, false)), .mv (.t 80)⟩, ⟨(some 82), (some (81, true)), .mv (.t 4)⟩, ⟨(some 83), (some (81, true)), .mv (.t 5)⟩, ⟨(some 84), (some (81, true)), .mv (.t 6)⟩, ⟨(some 85), (some (81, true)), .call 16 [(.t 82), (.t 83), (.t 84)]⟩, ⟨(some 86), (some (77, false)), .pick (.t 81) (.t 85) (.c (.bool false))⟩, ⟨(some 87), (some (77, false)), .bin 2 .neq (.t 78) (.t 86)⟩, ⟨(some 88), none, .pick (.t 77) (.c (.bool true)) (.t 87)⟩])
 (.cond (.t 88) (.seq (.ops [⟨(some 2), none, .mv (.c (.bool false))⟩])
 (.ret)) (.skip)))
 (.seq (.seq (.ops [⟨(some 89), none, .mv (.t 7)⟩, ⟨(some 90), none, .bin 0 .neq (.t 89) (.c (.int .i64 0))⟩])
 (.cond (.t 90) (.seq (.ops [⟨(some 91), none, .mv (.t 11)⟩, ⟨(some 92), none, .mv (.t 7)⟩, ⟨(some 93), none, .bin 0 .eql (.t 91) (.t 92)⟩, ⟨(some 94), none, .mv (.t 93)⟩, ⟨(some 95), (some (94, true)), .mv (.t 13)⟩, ⟨(some 96), (some (94, true)), .mv (.t 7)⟩, ⟨(some 97), (some (94, true)), .bin 0 .eql (.t 95) (.t 96)⟩, ⟨(some 98), none, .pick (.t 94) (.t 97) (.c (.bool false))⟩, ⟨(some 99), none, .mv (.t 98)⟩, ⟨(some 100), (some (99, true)), .mv (.t 15)⟩, ⟨(some 101), (some (99, true)), .mv (.t 7)⟩, ⟨(some 102), (some (99, true)), .bin 0 .eql (.t 100) (.t 101)⟩, ⟨(some 103), none, .pick (.t 99) (.t 102) (.c (.bool false))⟩, ⟨(some 104), none, .mv (.t 103)⟩, ⟨(some 105), (some (104, true)), .mv (.t 18)⟩, ⟨(some 106), (some (104, true)), .mv (.t 7)⟩, ⟨(some 107), (some (104, true)), .bin 0 .eql (.t 105) (.t 106)⟩, ⟨(some 108), none, .pick (.t 104) (.t 107) (.c (.bool false))⟩, ⟨(some 109), none, .mv (.t 108)⟩, ⟨(some 110), (some (109, true)), .mv (.t 10)⟩, ⟨(some 111), (some (109, true)), .len false (.t 110)⟩, ⟨(some 112), (some (109, true)), .mv (.t 12)⟩, ⟨(some 113), (some (109, true)), .len false (.t 112)⟩, ⟨(some 114), (some (109, true)), .bin 0 .add (.t 111) (.t 113)⟩, ⟨(some 115), (some (109, true)), .mv (.t 14)⟩, ⟨(some 116), (some (109, true)), .len false (.t 115)⟩, ⟨(some 117), (some (109, true)), .bin 0 .add (.t 114) (.t 116)⟩, ⟨(some 118), (some (109, true)), .bin 0 .eql (.t 117) (.c (.int .i64 0))⟩, ⟨(some 119), none, .pick (.t 109) (.t 118) (.c (.bool false))⟩, ⟨(some 120), none, .mv (.t 119)⟩, ⟨(some 121), (some (120, true)), .mv (.t 16)⟩, ⟨(some 122), (some (120, true)), .bin 0 .eql (.t 121) (.c (.int .i64 0))⟩, ⟨(some 123), none, .pick (.t 120) (.t 122) (.c (.bool false))⟩, ⟨(some 124), none, .mv (.t 123)⟩, ⟨(some 125), (some (124, true)), .mv (.t 17)⟩, ⟨(some 126), (some (124, true)), .un .not (.t 125)⟩, ⟨(some 127), none, .pick (.t 124) (.t 126) (.c (.bool false))⟩, ⟨(some 128), none, .mv (.t 127)⟩, ⟨(some 129), (some (128, true)), .call 17 []⟩, ⟨(some 130), none, .pick (.t 128) (.t 129) (.c (.bool false))⟩, ⟨(some 2), none, .mv (.t 130)⟩])
 (.ret)) (.skip)))
 (.seq (.seq (.ops [⟨(some 131), none, .mv (.t 11)⟩, ⟨(some 132), none, .bin 0 .neq (.t 131) (.c (.int .i64 0))⟩, ⟨(some 133), none, .mv (.t 132)⟩, ⟨(some 134), (some (133, false)), .mv (.t 10)⟩, ⟨(some 135), (some (133, false)), .mv (.t 4)⟩, ⟨(some 136), (some (133, false)), .mv (.t 5)⟩, ⟨(some 137), (some (133, false)), .call 19 [(.t 135), (.t 136)]⟩, ⟨(some 138), (some (133, false)), .call 18 [(.t 134), (.t 137)]⟩, ⟨(some 139), (some (133, false)), .un .not (.t 138)⟩, ⟨(some 140), none, .pick (.t 133) (.c (.bool true)) (.t 139)⟩, ⟨(some 141), none, .mv (.t 140)⟩, ⟨(some 142), (some (141, false)), .mv (.t 13)⟩, ⟨(some 143), (some (141, false)), .bin 0 .neq (.t 142) (.c (.int .i64 0))⟩, ⟨(some 144), none, .pick (.t 141) (.c (.bool true)) (.t 143)⟩, ⟨(some 145), none, .mv (.t 144)⟩, ⟨(some 146), (some (145, false)), .mv (.t 12)⟩, ⟨(some 147), (some (145, false)), .mv (.t 4)⟩, ⟨(some 148), (some (145, false)), .mv (.t 5)⟩, ⟨(some 149), (some (145, false)), .call 21 [(.t 147), (.t 148)]⟩, ⟨(some 150), (some (145, false)), .call 20 [(.t 146), (.t 149), (.c (.fn 18 []))]⟩, ⟨(some 151), (some (145, false)), .un .not (.t 150)⟩, ⟨(some 152), none, .pick (.t 145) (.c (.bool true)) (.t 151)⟩])
 (.cond (.t 152) (.seq (.ops [⟨(some 2), none, .mv (.c (.bool false))⟩])
 (.ret)) (.skip)))
 (.seq (.ops [⟨(some 154), none, .mv (.t 4)⟩, ⟨(some 155), none, .mv (.t 5)⟩, ⟨(some 156), none, .call 22 [(.t 154), (.t 155)]⟩, ⟨(some 153), none, .mv (.t 156)⟩, ⟨(some 157), none, .ext (.t 153) 0⟩, ⟨(some 158), none, .ext (.t 153) 1⟩, ⟨(some 20), none, .mv (.t 157)⟩, ⟨(some 21), none, .mv (.t 158)⟩])
 (.seq (.seq (.ops [⟨(some 159), none, .mv (.t 21)⟩, ⟨(some 160), none, .un .not (.t 159)⟩, ⟨(some 161), none, .mv (.t 160)⟩, ⟨(some 162), (some (161, true)), .mv (.t 15)⟩, ⟨(some 163), (some (161, true)), .bin 0 .neq (.t 162) (.c (.int .i64 12))⟩, ⟨(some 164), (some (161, true)), .mv (.t 163)⟩, ⟨(some 165), (some (164, false)), .mv (.t 14)⟩, ⟨(some 166), (some (164, false)), .len false (.t 165)⟩, ⟨(some 167), (some (164, false)), .bin 0 .gtr (.t 166) (.c (.int .i64 0))⟩, ⟨(some 168), (some (161, true)), .pick (.t 164) (.c (.bool true)) (.t 167)⟩, ⟨(some 169), none, .pick (.t 161) (.t 168) (.c (.bool false))⟩, ⟨(some 170), none, .mv (.t 169)⟩, ⟨(some 171), (some (170, false)), .mv (.t 21)⟩, ⟨(some 172), (some (170, false)), .mv (.t 171)⟩, ⟨(some 173), (some (172, true)), .mv (.t 15)⟩, ⟨(some 174), (some (172, true)), .bin 0 .neq (.t 173) (.c (.int .i64 0))⟩, ⟨(some 175), (some (172, true)), .mv (.t 174)⟩, ⟨(some 176), (some (175, false)), .mv (.t 14)⟩, ⟨(some 177), (some (175, false)), .mv (.t 20)⟩, ⟨(some 178), (some (175, false)), .call 23 [(.t 176), (.t 177)]⟩, ⟨(some 179), (some (175, false)), .un .not (.t 178)⟩, ⟨(some 180), (some (172, true)), .pick (.t 175) (.c (.bool true)) (.t 179)⟩, ⟨(some 181), (some (170, false)), .pick (.t 172) (.t 180) (.c (.bool false))⟩, ⟨(some 182), none, .pick (.t 170) (.c (.bool true)) (.t 181)⟩])
 (.cond (.t 182) (.seq (.ops [⟨(some 2), none, .mv (.c (.bool false))⟩])
 (.ret)) (.skip)))
 (.seq (.ops [⟨(some 184), none, .mv (.t 4)⟩, ⟨(some 185), none, .mv (.t 5)⟩, ⟨(some 186), none, .call 24 [(.t 184), (.t 185)]⟩, ⟨(some 183), none, .mv (.t 186)⟩, ⟨(some 187), none, .ext (.t 183) 0⟩, ⟨(some 188), none, .ext (.t 183) 1⟩, ⟨(some 22), none, .mv (.t 187)⟩, ⟨(some 23), none, .mv (.t 188)⟩])
 (.seq (.ops [⟨(some 189), none, .mv (.t 18)⟩, ⟨(some 190), none, .bin 0 .eql (.t 189) (.c (.int .i64 0))⟩, ⟨(some 191), none, .mv (.t 190)⟩, ⟨(some 192), (some (191, true)), .mv (.t 16)⟩, ⟨(some 193), (some (191, true)), .mv (.t 22)⟩, ⟨(some 194), (some (191, true)), .bin 0 .eql (.t 192) (.t 193)⟩, ⟨(some 195), none, .pick (.t 191) (.t 194) (.c (.bool false))⟩, ⟨(some 196), none, .mv (.t 195)⟩, ⟨(some 197), (some (196, true)), .mv (.t 17)⟩, ⟨(some 198), (some (196, true)), .mv (.t 23)⟩, ⟨(some 199), (some (196, true)), .bin 2 .eql (.t 197) (.t 198)⟩, ⟨(some 200), none, .pick (.t 196) (.t 199) (.c (.bool false))⟩, ⟨(some 201), none, .mv (.t 200)⟩, ⟨(some 202), (some (201, true)), .call 17 []⟩, ⟨(some 203), none, .pick (.t 201) (.t 202) (.c (.bool false))⟩, ⟨(some 2), none, .mv (.t 203)⟩])
 (.ret))))))))))))))))))⟩
theorem c3 : compF Go.Proofs.Tryz.prog 3 = some a3 := by kernel_rfl
def a6 : AFn := ⟨73, [.t 4, .t 5], .seq (.ops [⟨(some 4), none, .mv (.c (.int .i64 0))⟩, ⟨(some 5), none, .mv (.c (.lit true 0 []))⟩])
 (.seq (.ops [⟨(some 9), none, .mv (.t 0)⟩, ⟨(some 10), none, .call 26 [(.t 9), (.c (.int .i64 1)), (.c (.int .i64 6))]⟩, ⟨(some 6), none, .mv (.t 10)⟩])
 (.seq (.ops [⟨(some 7), none, .mv (.c (.lit true 0 []))⟩])
 (.seq (.seq (.ops [⟨(some 11), none, .mv (.t 0)⟩, ⟨(some 12), none, .mv (.t 1)⟩, ⟨(some 13), none, .call 26 [(.t 11), (.c (.int .i64 0)), (.t 12)]⟩, ⟨(some 14), none, .mv (.c (.int .i64 0))⟩])
 (.block 0 (.loop (.seq (.ops [⟨(some 15), none, .bin 0 .lss (.t 14) (.t 13)⟩])
 (.seq (.cond (.t 15) (.skip) (.exit 0))
 (.seq (.block 1 (.ops [⟨(some 16), none, .mv (.t 7)⟩, ⟨(some 17), none, .mv (.t 0)⟩, ⟨(some 18), none, .mv (.t 6)⟩, ⟨(some 19), none, .call 33 [(.t 17), (.t 18)]⟩, ⟨(some 20), none, .bslice 9 1 1 [(.str [])] [(0, 1, (.t 19))]⟩, ⟨(some 21), none, .app 9 1 16 (.t 16) (.t 20)⟩, ⟨(some 7), none, .mv (.t 21)⟩]))
 (.ops [⟨(some 22), none, .bin 0 .add (.t 14) (.c (.int .i64 1))⟩, ⟨(some 14), none, .mv (.t 22)⟩])))))))
 (.seq (.seq (.ops [⟨(some 23), none, .mv (.t 7)⟩, ⟨(some 24), none, .len false (.t 23)⟩, ⟨(some 25), none, .bin 0 .gtr (.t 24) (.c (.int .i64 0))⟩, ⟨(some 26), none, .mv (.t 25)⟩, ⟨(some 27), (some (26, true)), .mv (.t 0)⟩, ⟨(some 28), (some (26, true)), .call 34 [(.t 27), (.c (.int .i64 4))]⟩, ⟨(some 29), none, .pick (.t 26) (.t 28) (.c (.bool false))⟩])
 (.cond (.t 29) (.ops [⟨(some 30), none, .mv (.t 7)⟩, ⟨(some 31), none, .mv (.t 7)⟩, ⟨(some 32), none, .iadr 1 (.t 31) (.c (.int .i64 0))⟩, ⟨(some 33), none, .load none (.t 32)⟩, ⟨(some 34), none, .bslice 9 1 1 [(.str [])] [(0, 1, (.t 33))]⟩, ⟨(some 35), none, .app 9 1 16 (.t 30) (.t 34)⟩, ⟨(some 7), none, .mv (.t 35)⟩]) (.skip)))
 (.seq (.seq (.ops [⟨(some 36), none, .mv (.t 7)⟩, ⟨(some 37), none, .len false (.t 36)⟩, ⟨(some 38), none, .bin 0 .gtr (.t 37) (.c (.int .i64 0))⟩, ⟨(some 39), none, .mv (.t 38)⟩, ⟨(some 40), (some (39, true)), .mv (.t 0)⟩, ⟨(some 41), (some (39, true)), .call 34 [(.t 40), (.c (.int .i64 12))]⟩, ⟨(some 42), none, .pick (.t 39) (.t 41) (.c (.bool false))⟩])
 (.cond (.t 42) (.seq (.ops [⟨(some 43), none, .mv (.t 0)⟩, ⟨(some 44), none, .mv (.t 7)⟩, ⟨(some 45), none, .len false (.t 44)⟩, ⟨(some 46), none, .call 35 [(.t 43), (.t 45)]⟩, ⟨(some 8), none, .mv (.t 46)⟩])
 (.any [(⟨(some 47), none, .mv (.t 7)⟩, []), (⟨(some 48), none, .mv (.t 8)⟩, [0]), (⟨(some 49), none, .mv (.t 0)⟩, [0, 1]), (⟨(some 50), none, .mv (.t 7)⟩, [0, 1, 2]), (⟨(some 51), none, .mv (.t 8)⟩, [0, 1, 2, 3]), (⟨(some 52), none, .iadr 1 (.t 50) (.t 51)⟩, [0, 1, 2]), (⟨(some 53), none, .load none (.t 52)⟩, [0, 1, 2]), (⟨(some 54), none, .mv (.t 0)⟩, [0, 1, 2, 3, 4, 5, 6]), (⟨(some 55), none, .mv (.t 6)⟩, [0, 1, 2, 3, 4, 5, 6, 7]), (⟨(some 56), none, .bin 0 .add (.t 55) (.c (.int .i64 1))⟩, [0, 1, 2, 3, 4, 5, 6, 7]), (⟨(some 57), none, .call 33 [(.t 54), (.t 56)]⟩, [0, 1, 2, 3, 4, 5, 6]), (⟨(some 58), none, .mv (.t 0)⟩, [0, 1, 2, 3, 4, 5, 6, 7, 8, 9, 10]), (⟨(some 59), none, .mv (.t 7)⟩, [0, 1, 2, 3, 4, 5, 6, 7, 8, 9, 10, 11]), (⟨(some 60), none, .mv (.t 8)⟩, [0, 1, 2, 3, 4, 5, 6, 7, 8, 9, 10, 11, 12]), (⟨(some 61), none, .iadr 1 (.t 59) (.t 60)⟩, [0, 1, 2, 3, 4, 5, 6, 7, 8, 9, 10, 11]), (⟨(some 62), none, .load none (.t 61)⟩, [0, 1, 2, 3, 4, 5, 6, 7, 8, 9, 10, 11]), (⟨(some 63), none, .call 37 [(.t 58), (.t 62), (.c (.str [50]))]⟩, [0, 1, 2, 3, 4, 5, 6]), (⟨(some 64), none, .bslice 9 1 4 [(.str [])] [(0, 1, (.t 53)), (1, 1, (.c (.str []))), (2, 1, (.t 57)), (3, 1, (.t 63))]⟩, [0, 1, 2]), (⟨(some 65), none, .call 36 [(.t 49), (.t 64)]⟩, [0, 1]), (⟨(some 66), none, .iadr 1 (.t 47) (.t 48)⟩, []), (⟨none, none, .store 1 (.t 66) (.t 65)⟩, [])])) (.skip)))
 (.seq (.seq (.ops [⟨(some 67), none, .mv (.t 0)⟩, ⟨(some 68), none, .call 34 [(.t 67), (.c (.int .i64 20))]⟩])
 (.cond (.t 68) (.ops [⟨(some 69), none, .mv (.t 0)⟩, ⟨(some 70), none, .call 7 [(.t 69), (.c (.int .i64 1)), (.c (.int .i64 100))]⟩, ⟨(some 6), none, .mv (.t 70)⟩]) (.skip)))
 (.seq (.ops [⟨(some 71), none, .mv (.t 6)⟩, ⟨(some 72), none, .mv (.t 7)⟩, ⟨(some 4), none, .mv (.t 71)⟩, ⟨(some 5), none, .mv (.t 72)⟩])
 (.ret))))))))⟩
theorem c6 : compF Go.Proofs.Tryz.prog 6 = some a6 := by kernel_rfl
def a7 : AFn := ⟨22, [.t 6], .seq (.ops [⟨(some 6), none, .mv (.c (.int .i64 0))⟩])
 (.seq (.seq (.ops [⟨(some 7), none, .mv (.t 0)⟩, ⟨(some 8), none, .call 34 [(.t 7), (.c (.int .i64 12))]⟩])
 (.cond (.t 8) (.seq (.ops [⟨(some 9), none, .mv (.t 0)⟩, ⟨(some 10), none, .mv (.t 1)⟩, ⟨(some 11), none, .bin 0 .sub (.t 10) (.c (.int .i64 1))⟩, ⟨(some 12), none, .mv (.t 2)⟩, ⟨(some 13), none, .bin 0 .add (.t 12) (.c (.int .i64 1))⟩, ⟨(some 14), none, .mv (.t 1)⟩, ⟨(some 15), none, .mv (.t 2)⟩, ⟨(some 16), none, .bslice 3 1 6 [(.int .i64 0)] [(0, 1, (.t 11)), (1, 1, (.t 13)), (2, 1, (.t 14)), (3, 1, (.t 15)), (4, 1, (.c (.int .i64 (-1099511627776)))), (5, 1, (.c (.int .i64 1099511627776)))]⟩, ⟨(some 17), none, .call 29 [(.t 9), (.t 16)]⟩, ⟨(some 6), none, .mv (.t 17)⟩])
 (.ret)) (.skip)))
 (.seq (.ops [⟨(some 18), none, .mv (.t 0)⟩, ⟨(some 19), none, .mv (.t 1)⟩, ⟨(some 20), none, .mv (.t 2)⟩, ⟨(some 21), none, .call 26 [(.t 18), (.t 19), (.t 20)]⟩, ⟨(some 6), none, .mv (.t 21)⟩])
 (.ret)))⟩
theorem c7 : compF Go.Proofs.Tryz.prog 7 = some a7 := by kernel_rfl
def a8 : AFn := ⟨32, [.t 4], .seq (.ops [⟨(some 4), none, .mv (.c (.int .i64 0))⟩])
 (.seq (.block 0 (.seq (.ops [⟨(some 9), none, .mv (.t 0)⟩, ⟨(some 10), none, .call 38 [(.t 9), (.c (.int .i64 1)), (.c (.int .i64 100))]⟩, ⟨(some 11), none, .un .not (.t 10)⟩, ⟨(some 8), none, .mv (.t 11)⟩])
 (.cond (.t 8) (.seq (.ops [⟨(some 4), none, .mv (.c (.int .i64 1))⟩])
 (.ret)) (.seq (.ops [⟨(some 13), none, .mv (.t 1)⟩, ⟨(some 14), none, .len false (.t 13)⟩, ⟨(some 15), none, .bin 0 .gtr (.t 14) (.c (.int .i64 200))⟩, ⟨(some 12), none, .mv (.t 15)⟩])
 (.cond (.t 12) (.seq (.ops [⟨(some 4), none, .mv (.c (.int .i64 2))⟩])
 (.ret)) (.skip))))))
 (.seq (.seq (.ops [⟨(some 16), none, .mv (.t 1)⟩, ⟨(some 17), none, .len false (.t 16)⟩, ⟨(some 18), none, .mv (.c (.int .i64 0))⟩])
 (.block 1 (.loop (.seq (.ops [⟨(some 19), none, .bin 0 .lss (.t 18) (.t 17)⟩])
 (.seq (.cond (.t 19) (.skip) (.exit 1))
 (.seq (.block 2 (.seq (.ops [⟨(some 20), none, .iadr 1 (.t 16) (.t 18)⟩, ⟨(some 21), none, .load none (.t 20)⟩, ⟨(some 6), none, .mv (.t 21)⟩])
 (.seq (.seq (.ops [⟨(some 22), none, .mv (.t 6)⟩, ⟨(some 23), none, .len true (.t 22)⟩, ⟨(some 24), none, .mv (.t 0)⟩, ⟨(some 25), none, .bin 0 .neq (.t 23) (.t 24)⟩])
 (.cond (.t 25) (.seq (.ops [⟨(some 4), none, .mv (.c (.int .i64 3))⟩])
 (.ret)) (.skip)))
 (.seq (.ops [⟨(some 26), none, .mv (.t 6)⟩, ⟨(some 27), none, .call 39 [(.t 26)]⟩, ⟨(some 7), none, .mv (.t 27)⟩])
 (.seq (.ops [⟨(some 28), none, .mv (.t 7)⟩, ⟨(some 29), none, .bin 0 .neq (.t 28) (.c (.int .i64 0))⟩])
 (.cond (.t 29) (.seq (.ops [⟨(some 30), none, .mv (.t 7)⟩, ⟨(some 4), none, .mv (.t 30)⟩])
 (.ret)) (.skip)))))))
 (.ops [⟨(some 31), none, .bin 0 .add (.t 18) (.c (.int .i64 1))⟩, ⟨(some 18), none, .mv (.t 31)⟩])))))))
 (.seq (.ops [⟨(some 4), none, .mv (.c (.int .i64 0))⟩])
 (.ret))))⟩
theorem c8 : compF Go.Proofs.Tryz.prog 8 = some a8 := by kernel_rfl
def a9 : AFn := ⟨39, [.t 6, .t 7], .seq (.ops [⟨(some 6), none, .mv (.c (.bool false))⟩, ⟨(some 7), none, .mv (.c (.int .i64 0))⟩])
 (.seq (.seq (.ops [⟨(some 11), none, .mv (.t 0)⟩, ⟨(some 12), none, .mv (.t 1)⟩, ⟨(some 13), none, .call 41 [(.t 11), (.t 12)]⟩, ⟨(some 14), none, .mv (.t 2)⟩, ⟨(some 15), none, .call 42 [(.t 14)]⟩, ⟨(some 16), none, .bslice 30 1 2 [(.int .i64 0)] [(0, 1, (.t 13)), (1, 1, (.t 15))]⟩, ⟨(some 17), none, .call 40 [(.t 16)]⟩, ⟨(some 8), none, .mv (.t 17)⟩])
 (.seq (.ops [⟨(some 18), none, .mv (.t 8)⟩, ⟨(some 19), none, .bin 0 .neq (.t 18) (.c (.int .i64 0))⟩])
 (.cond (.t 19) (.seq (.ops [⟨(some 20), none, .mv (.t 8)⟩, ⟨(some 6), none, .mv (.c (.bool false))⟩, ⟨(some 7), none, .mv (.t 20)⟩])
 (.ret)) (.skip))))
 (.seq (.ops [⟨(some 21), none, .mv (.t 1)⟩, ⟨(some 22), none, .mv (.t 0)⟩, ⟨(some 23), none, .call 43 [(.t 21), (.t 22)]⟩, ⟨(some 9), none, .mv (.t 23)⟩])
 (.seq (.seq (.ops [⟨(some 24), none, .mv (.t 2)⟩, ⟨(some 25), none, .bin 0 .eql (.t 24) (.c (.int .i64 3))⟩])
 (.cond (.t 25) (.seq (.ops [⟨(some 26), none, .mv (.t 9)⟩, ⟨(some 27), none, .call 44 [(.t 26)]⟩, ⟨(some 6), none, .mv (.t 27)⟩, ⟨(some 7), none, .mv (.c (.int .i64 0))⟩])
 (.ret)) (.skip)))
 (.seq (.ops [⟨(some 28), none, .mv (.t 9)⟩, ⟨(some 29), none, .call 45 [(.t 28)]⟩, ⟨(some 10), none, .mv (.t 29)⟩])
 (.seq (.seq (.ops [⟨(some 30), none, .mv (.t 2)⟩, ⟨(some 31), none, .bin 0 .eql (.t 30) (.c (.int .i64 2))⟩])
 (.cond (.t 31) (.ops [⟨(some 32), none, .mv (.t 10)⟩, ⟨(some 33), none, .mv (.t 32)⟩, ⟨(some 34), (some (33, true)), .mv (.t 9)⟩, ⟨(some 35), (some (33, true)), .call 46 [(.t 34), (.c (.fn 47 []))]⟩, ⟨(some 36), (some (33, true)), .un .not (.t 35)⟩, ⟨(some 37), none, .pick (.t 33) (.t 36) (.c (.bool false))⟩, ⟨(some 10), none, .mv (.t 37)⟩]) (.skip)))
 (.seq (.ops [⟨(some 38), none, .mv (.t 10)⟩, ⟨(some 6), none, .mv (.t 38)⟩, ⟨(some 7), none, .mv (.c (.int .i64 0))⟩])
 (.ret)))))))⟩
theorem c9 : compF Go.Proofs.Tryz.prog 9 = some a9 := by kernel_rfl
def a10 : AFn := ⟨34, [.t 4, .t 5], .seq (.ops [⟨(some 4), none, .mv (.c (.lit true 0 []))⟩, ⟨(some 5), none, .mv (.c (.int .i64 0))⟩])
 (.seq (.seq (.ops [⟨(some 10), none, .mv (.t 0)⟩, ⟨(some 11), none, .mv (.t 1)⟩, ⟨(some 12), none, .call 41 [(.t 10), (.t 11)]⟩, ⟨(some 6), none, .mv (.t 12)⟩])
 (.seq (.ops [⟨(some 13), none, .mv (.t 6)⟩, ⟨(some 14), none, .bin 0 .neq (.t 13) (.c (.int .i64 0))⟩])
 (.cond (.t 14) (.seq (.ops [⟨(some 15), none, .mv (.t 6)⟩, ⟨(some 4), none, .mv (.c (.lit true 0 []))⟩, ⟨(some 5), none, .mv (.t 15)⟩])
 (.ret)) (.skip))))
 (.seq (.ops [⟨(some 7), none, .mv (.c (.lit true 0 []))⟩])
 (.seq (.seq (.ops [⟨(some 16), none, .mv (.t 1)⟩, ⟨(some 17), none, .mv (.t 0)⟩, ⟨(some 18), none, .call 43 [(.t 16), (.t 17)]⟩, ⟨(some 19), none, .len false (.t 18)⟩, ⟨(some 20), none, .mv (.c (.int .i64 0))⟩])
 (.block 0 (.loop (.seq (.ops [⟨(some 21), none, .bin 0 .lss (.t 20) (.t 19)⟩])
 (.seq (.cond (.t 21) (.skip) (.exit 0))
 (.seq (.block 1 (.seq (.ops [⟨(some 22), none, .mv (.t 20)⟩, ⟨(some 23), none, .iadr 1 (.t 18) (.t 20)⟩, ⟨(some 24), none, .load none (.t 23)⟩, ⟨(some 8), none, .mv (.t 22)⟩, ⟨(some 9), none, .mv (.t 24)⟩])
 (.seq (.ops [⟨(some 25), none, .mv (.t 9)⟩, ⟨(some 26), none, .call 48 [(.t 25)]⟩, ⟨(some 27), none, .un .not (.t 26)⟩])
 (.cond (.t 27) (.ops [⟨(some 28), none, .mv (.t 7)⟩, ⟨(some 29), none, .mv (.t 8)⟩, ⟨(some 30), none, .bslice 3 1 1 [(.int .i64 0)] [(0, 1, (.t 29))]⟩, ⟨(some 31), none, .app 3 1 8 (.t 28) (.t 30)⟩, ⟨(some 7), none, .mv (.t 31)⟩]) (.skip)))))
 (.ops [⟨(some 32), none, .bin 0 .add (.t 20) (.c (.int .i64 1))⟩, ⟨(some 20), none, .mv (.t 32)⟩])))))))
 (.seq (.ops [⟨(some 33), none, .mv (.t 7)⟩, ⟨(some 4), none, .mv (.t 33)⟩, ⟨(some 5), none, .mv (.c (.int .i64 0))⟩])
 (.ret)))))⟩
theorem c10 : compF Go.Proofs.Tryz.prog 10 = some a10 := by kernel_rfl
def a11 : AFn := ⟨50, [.t 4, .t 5], .seq (.ops [⟨(some 4), none, .mv (.c (.lit true 0 []))⟩, ⟨(some 5), none, .mv (.c (.int .i64 0))⟩])
 (.seq (.seq (.ops [⟨(some 13), none, .mv (.t 0)⟩, ⟨(some 14), none, .mv (.t 1)⟩, ⟨(some 15), none, .call 41 [(.t 13), (.t 14)]⟩, ⟨(some 6), none, .mv (.t 15)⟩])
 (.seq (.ops [⟨(some 16), none, .mv (.t 6)⟩, ⟨(some 17), none, .bin 0 .neq (.t 16) (.c (.int .i64 0))⟩])
 (.cond (.t 17) (.seq (.ops [⟨(some 18), none, .mv (.t 6)⟩, ⟨(some 4), none, .mv (.c (.lit true 0 []))⟩, ⟨(some 5), none, .mv (.t 18)⟩])
 (.ret)) (.skip))))
 (.seq (.ops [⟨(some 19), none, .mv (.t 1)⟩, ⟨(some 20), none, .mv (.t 0)⟩, ⟨(some 21), none, .call 43 [(.t 19), (.t 20)]⟩, ⟨(some 7), none, .mv (.t 21)⟩])
 (.seq (.ops [⟨(some 22), none, .mv (.t 7)⟩, ⟨(some 23), none, .call 49 [(.t 22)]⟩, ⟨(some 8), none, .mv (.t 23)⟩])
 (.seq (.ops [⟨(some 9), none, .mv (.c (.lit true 0 []))⟩])
 (.seq (.seq (.ops [⟨(some 24), none, .mv (.t 7)⟩, ⟨(some 25), none, .len false (.t 24)⟩, ⟨(some 26), none, .mv (.c (.int .i64 0))⟩])
 (.block 0 (.loop (.seq (.ops [⟨(some 27), none, .bin 0 .lss (.t 26) (.t 25)⟩])
 (.seq (.cond (.t 27) (.skip) (.exit 0))
 (.seq (.block 1 (.seq (.ops [⟨(some 28), none, .mv (.t 26)⟩, ⟨(some 29), none, .iadr 1 (.t 24) (.t 26)⟩, ⟨(some 30), none, .load none (.t 29)⟩, ⟨(some 10), none, .mv (.t 28)⟩, ⟨(some 11), none, .mv (.t 30)⟩])
 (.seq (.ops [⟨(some 31), none, .mv (.t 8)⟩, ⟨(some 32), none, .mv (.t 11)⟩, ⟨(some 33), none, .mlk false .s (.lit true 0 []) (.t 31) (.t 32)⟩, ⟨(some 12), none, .mv (.t 33)⟩])
 (.seq (.ops [⟨(some 34), none, .mv (.t 12)⟩, ⟨(some 35), none, .len false (.t 34)⟩, ⟨(some 36), none, .bin 0 .gtr (.t 35) (.c (.int .i64 1))⟩, ⟨(some 37), none, .mv (.t 36)⟩, ⟨(some 38), (some (37, true)), .mv (.t 12)⟩, ⟨(some 39), (some (37, true)), .iadr 1 (.t 38) (.c (.int .i64 0))⟩, ⟨(some 40), (some (37, true)), .load none (.t 39)⟩, ⟨(some 41), (some (37, true)), .mv (.t 10)⟩, ⟨(some 42), (some (37, true)), .bin 0 .eql (.t 40) (.t 41)⟩, ⟨(some 43), none, .pick (.t 37) (.t 42) (.c (.bool false))⟩])
 (.cond (.t 43) (.ops [⟨(some 44), none, .mv (.t 9)⟩, ⟨(some 45), none, .mv (.t 12)⟩, ⟨(some 46), none, .bslice 22 1 1 [(.lit true 0 [])] [(0, 1, (.t 45))]⟩, ⟨(some 47), none, .app 22 1 24 (.t 44) (.t 46)⟩, ⟨(some 9), none, .mv (.t 47)⟩]) (.skip))))))
 (.ops [⟨(some 48), none, .bin 0 .add (.t 26) (.c (.int .i64 1))⟩, ⟨(some 26), none, .mv (.t 48)⟩])))))))
 (.seq (.ops [⟨(some 49), none, .mv (.t 9)⟩, ⟨(some 4), none, .mv (.t 49)⟩, ⟨(some 5), none, .mv (.c (.int .i64 0))⟩])
 (.ret)))))))⟩
theorem c11 : compF Go.Proofs.Tryz.prog 11 = some a11 := by kernel_rfl
def a12 : AFn := ⟨73, [.t 4, .t 5], .seq (.ops [⟨(some 4), none, .mv (.c (.lit true 0 []))⟩, ⟨(some 5), none, .mv (.c (.int .i64 0))⟩])
 (.seq (.seq (.ops [⟨(some 14), none, .mv (.t 0)⟩, ⟨(some 15), none, .mv (.t 1)⟩, ⟨(some 16), none, .call 41 [(.t 14), (.t 15)]⟩, ⟨(some 6), none, .mv (.t 16)⟩])
 (.seq (.ops [⟨(some 17), none, .mv (.t 6)⟩, ⟨(some 18), none, .bin 0 .neq (.t 17) (.c (.int .i64 0))⟩])
 (.cond (.t 18) (.seq (.ops [⟨(some 19), none, .mv (.t 6)⟩, ⟨(some 4), none, .mv (.c (.lit true 0 []))⟩, ⟨(some 5), none, .mv (.t 19)⟩])
 (.ret)) (.skip))))
 (.seq (.ops [⟨(some 20), none, .mv (.t 1)⟩, ⟨(some 21), none, .mv (.t 0)⟩, ⟨(some 22), none, .call 43 [(.t 20), (.t 21)]⟩, ⟨(some 7), none, .mv (.t 22)⟩])
 (.seq (.ops [⟨(some 23), none, .mv (.t 7)⟩, ⟨(some 24), none, .call 49 [(.t 23)]⟩, ⟨(some 8), none, .mv (.t 24)⟩])
 (.seq (.ops [⟨(some 9), none, .mv (.c (.lit true 0 []))⟩])
 (.seq (.seq (.ops [⟨(some 25), none, .mv (.t 0)⟩, ⟨(some 26), none, .mv (.c (.int .i64 0))⟩])
 (.block 0 (.loop (.seq (.ops [⟨(some 27), none, .bin 0 .lss (.t 26) (.t 25)⟩])
 (.seq (.cond (.t 27) (.skip) (.exit 0))
 (.seq (.block 1 (.seq (.ops [⟨(some 28), none, .mv (.t 26)⟩, ⟨(some 10), none, .mv (.t 28)⟩])
 (.seq (.ops [⟨(some 29), none, .mv (.t 10)⟩, ⟨(some 30), none, .bin 0 .add (.t 29) (.c (.int .i64 1))⟩, ⟨(some 11), none, .mv (.t 30)⟩])
 (.block 2 (.loop (.seq (.seq (.ops [⟨(some 31), none, .mv (.t 11)⟩, ⟨(some 32), none, .mv (.t 0)⟩, ⟨(some 33), none, .bin 0 .lss (.t 31) (.t 32)⟩])
 (.cond (.t 33) (.skip) (.exit 2)))
 (.seq (.block 3 (.seq (.seq (.any [(⟨(some 36), none, .mv (.t 8)⟩, []), (⟨(some 37), none, .mv (.t 7)⟩, [0]), (⟨(some 38), none, .mv (.t 10)⟩, [0, 1]), (⟨(some 39), none, .iadr 1 (.t 37) (.t 38)⟩, [0]), (⟨(some 40), none, .load none (.t 39)⟩, [0]), (⟨(some 41), none, .mv (.t 7)⟩, [0, 1, 2, 3, 4]), (⟨(some 42), none, .mv (.t 11)⟩, [0, 1, 2, 3, 4, 5]), (⟨(some 43), none, .iadr 1 (.t 41) (.t 42)⟩, [0, 1, 2, 3, 4]), (⟨(some 44), none, .load none (.t 43)⟩, [0, 1, 2, 3, 4]), (⟨(some 45), none, .call 50 [(.t 40), (.t 44)]⟩, [0]), (⟨(some 46), none, .mlk false .s (.lit true 0 []) (.t 36) (.t 45)⟩, []), (⟨(some 47), none, .len false (.t 46)⟩, []), (⟨(some 48), none, .mv (.c (.int .i64 0))⟩, [0, 1, 2, 3, 4, 5, 6, 7, 8, 9, 10, 11])])
 (.block 4 (.loop (.seq (.ops [⟨(some 49), none, .bin 0 .lss (.t 48) (.t 47)⟩])
 (.seq (.cond (.t 49) (.skip) (.exit 4))
 (.seq (.block 5 (.seq (.ops [⟨(some 50), none, .iadr 1 (.t 46) (.t 48)⟩, ⟨(some 51), none, .load none (.t 50)⟩, ⟨(some 13), none, .mv (.t 51)⟩])
 (.seq (.ops [⟨(some 52), none, .mv (.t 13)⟩, ⟨(some 53), none, .mv (.t 10)⟩, ⟨(some 54), none, .bin 0 .neq (.t 52) (.t 53)⟩, ⟨(some 55), none, .mv (.t 54)⟩, ⟨(some 56), (some (55, true)), .mv (.t 13)⟩, ⟨(some 57), (some (55, true)), .mv (.t 11)⟩, ⟨(some 58), (some (55, true)), .bin 0 .neq (.t 56) (.t 57)⟩, ⟨(some 59), none, .pick (.t 55) (.t 58) (.c (.bool false))⟩])
 (.cond (.t 59) (.ops [⟨(some 60), none, .mv (.t 9)⟩, ⟨(some 61), none, .mv (.t 10)⟩, ⟨(some 62), none, .mv (.t 11)⟩, ⟨(some 63), none, .mv (.t 13)⟩, ⟨(some 64), none, .build [(.int .i64 0), (.int .i64 0), (.int .i64 0)] [(0, 1, (.t 61)), (1, 1, (.t 62)), (2, 1, (.t 63))]⟩, ⟨(some 65), none, .bslice 55 3 1 [(.int .i64 0), (.int .i64 0), (.int .i64 0)] [(0, 3, (.t 64))]⟩, ⟨(some 66), none, .app 55 3 24 (.t 60) (.t 65)⟩, ⟨(some 9), none, .mv (.t 66)⟩]) (.skip)))))
 (.ops [⟨(some 67), none, .bin 0 .add (.t 48) (.c (.int .i64 1))⟩, ⟨(some 48), none, .mv (.t 67)⟩])))))))
 (.seq (.ops [⟨(some 68), none, .mv (.t 9)⟩, ⟨(some 69), none, .len false (.t 68)⟩, ⟨(some 70), none, .bin 0 .gtr (.t 69) (.c (.int .i64 10000))⟩])
 (.cond (.t 70) (.seq (.ops [⟨(some 4), none, .mv (.c (.lit true 0 []))⟩, ⟨(some 5), none, .mv (.c (.int .i64 12))⟩])
 (.ret)) (.skip)))))
 (.ops [⟨(some 34), none, .mv (.t 11)⟩, ⟨(some 35), none, .bin 0 .add (.t 34) (.c (.int .i64 1))⟩, ⟨(some 11), none, .mv (.t 35)⟩]))))))))
 (.ops [⟨(some 71), none, .bin 0 .add (.t 26) (.c (.int .i64 1))⟩, ⟨(some 26), none, .mv (.t 71)⟩])))))))
 (.seq (.ops [⟨(some 72), none, .mv (.t 9)⟩, ⟨(some 4), none, .mv (.t 72)⟩, ⟨(some 5), none, .mv (.c (.int .i64 0))⟩])
 (.ret)))))))⟩
theorem c12 : compF Go.Proofs.Tryz.prog 12 = some a12 := by kernel_rfl
def a13 : AFn := ⟨50, [.t 4, .t 5, .t 6], .seq (.ops [⟨(some 4), none, .mv (.c (.int .i64 0))⟩, ⟨(some 5), none, .mv (.c (.bool false))⟩, ⟨(some 6), none, .mv (.c (.int .i64 0))⟩])
 (.seq (.seq (.ops [⟨(some 14), none, .mv (.t 0)⟩, ⟨(some 15), none, .mv (.t 1)⟩, ⟨(some 16), none, .call 41 [(.t 14), (.t 15)]⟩, ⟨(some 7), none, .mv (.t 16)⟩])
 (.seq (.ops [⟨(some 17), none, .mv (.t 7)⟩, ⟨(some 18), none, .bin 0 .neq (.t 17) (.c (.int .i64 0))⟩])
 (.cond (.t 18) (.seq (.ops [⟨(some 19), none, .mv (.t 7)⟩, ⟨(some 4), none, .mv (.c (.int .i64 0))⟩, ⟨(some 5), none, .mv (.c (.bool false))⟩, ⟨(some 6), none, .mv (.t 19)⟩])
 (.ret)) (.skip))))
 (.seq (.seq (.ops [⟨(some 20), none, .mv (.t 0)⟩, ⟨(some 21), none, .bin 0 .eql (.t 20) (.c (.int .i64 1))⟩])
 (.cond (.t 21) (.seq (.ops [⟨(some 4), none, .mv (.c (.int .i64 0))⟩, ⟨(some 5), none, .mv (.c (.bool false))⟩, ⟨(some 6), none, .mv (.c (.int .i64 0))⟩])
 (.ret)) (.skip)))
 (.seq (.ops [⟨(some 22), none, .mv (.t 1)⟩, ⟨(some 23), none, .mv (.t 0)⟩, ⟨(some 24), none, .call 43 [(.t 22), (.t 23)]⟩, ⟨(some 8), none, .mv (.t 24)⟩])
 (.seq (.ops [⟨(some 25), none, .mv (.t 1)⟩, ⟨(some 26), none, .len false (.t 25)⟩, ⟨(some 9), none, .mv (.t 26)⟩])
 (.seq (.seq (.ops [⟨(some 27), none, .mv (.t 8)⟩, ⟨(some 28), none, .len false (.t 27)⟩, ⟨(some 29), none, .mv (.c (.int .i64 0))⟩])
 (.block 0 (.loop (.seq (.ops [⟨(some 30), none, .bin 0 .lss (.t 29) (.t 28)⟩])
 (.seq (.cond (.t 30) (.skip) (.exit 0))
 (.seq (.block 1 (.seq (.ops [⟨(some 31), none, .mv (.t 29)⟩, ⟨(some 32), none, .iadr 1 (.t 27) (.t 29)⟩, ⟨(some 33), none, .load none (.t 32)⟩, ⟨(some 10), none, .mv (.t 31)⟩, ⟨(some 11), none, .mv (.t 33)⟩])
 (.seq (.ops [⟨(some 34), none, .mv (.t 8)⟩, ⟨(some 35), none, .mv (.t 10)⟩, ⟨(some 36), none, .slc 1 (.t 34) none (some (.t 35))⟩, ⟨(some 37), none, .len false (.t 36)⟩, ⟨(some 38), none, .mv (.c (.int .i64 0))⟩])
 (.block 2 (.loop (.seq (.ops [⟨(some 39), none, .bin 0 .lss (.t 38) (.t 37)⟩])
 (.seq (.cond (.t 39) (.skip) (.exit 2))
 (.seq (.block 3 (.seq (.ops [⟨(some 40), none, .iadr 1 (.t 36) (.t 38)⟩, ⟨(some 41), none, .load none (.t 40)⟩, ⟨(some 13), none, .mv (.t 41)⟩])
 (.ops [⟨(some 42), none, .mv (.t 9)⟩, ⟨(some 43), none, .mv (.t 11)⟩, ⟨(some 44), none, .mv (.t 13)⟩, ⟨(some 45), none, .call 51 [(.t 43), (.t 44)]⟩, ⟨(some 46), none, .mm false (.t 42) [(.t 45)]⟩, ⟨(some 9), none, .mv (.t 46)⟩])))
 (.ops [⟨(some 47), none, .bin 0 .add (.t 38) (.c (.int .i64 1))⟩, ⟨(some 38), none, .mv (.t 47)⟩])))))))))
 (.ops [⟨(some 48), none, .bin 0 .add (.t 29) (.c (.int .i64 1))⟩, ⟨(some 29), none, .mv (.t 48)⟩])))))))
 (.seq (.ops [⟨(some 49), none, .mv (.t 9)⟩, ⟨(some 4), none, .mv (.t 49)⟩, ⟨(some 5), none, .mv (.c (.bool true))⟩, ⟨(some 6), none, .mv (.c (.int .i64 0))⟩])
 (.ret)))))))⟩
theorem c13 : compF Go.Proofs.Tryz.prog 13 = some a13 := by kernel_rfl
def a14 : AFn := ⟨18, [.t 2], .seq (.ops [⟨(some 2), none, .mv (.c (.int .i64 0))⟩])
 (.seq (.ops [⟨(some 3), none, .mv (.c (.int .i64 0))⟩])
 (.seq (.seq (.ops [⟨(some 6), none, .mv (.t 0)⟩, ⟨(some 7), none, .len false (.t 6)⟩, ⟨(some 8), none, .mv (.c (.int .i64 0))⟩])
 (.block 0 (.loop (.seq (.ops [⟨(some 9), none, .bin 0 .lss (.t 8) (.t 7)⟩])
 (.seq (.cond (.t 9) (.skip) (.exit 0))
 (.seq (.block 1 (.seq (.ops [⟨(some 10), none, .iadr 1 (.t 6) (.t 8)⟩, ⟨(some 11), none, .load none (.t 10)⟩, ⟨(some 5), none, .mv (.t 11)⟩])
 (.seq (.ops [⟨(some 12), none, .mv (.t 5)⟩, ⟨(some 13), none, .mv (.t 3)⟩, ⟨(some 14), none, .bin 0 .neq (.t 12) (.t 13)⟩])
 (.cond (.t 14) (.seq (.ops [⟨(some 15), none, .mv (.t 5)⟩, ⟨(some 2), none, .mv (.t 15)⟩])
 (.ret)) (.skip)))))
 (.ops [⟨(some 16), none, .bin 0 .add (.t 8) (.c (.int .i64 1))⟩, ⟨(some 8), none, .mv (.t 16)⟩])))))))
 (.seq (.ops [⟨(some 17), none, .mv (.t 3)⟩, ⟨(some 2), none, .mv (.t 17)⟩])
 (.ret))))⟩
theorem c14 : compF Go.Proofs.Tryz.prog 14 = some a14 := by kernel_rfl
def a15 : AFn := ⟨6, [.t 2], .seq (.ops [⟨(some 2), none, .mv (.c (.int .i64 0))⟩])
 (.seq (.seq (.ops [⟨(some 3), none, .mv (.t 0)⟩, ⟨(some 4), none, .call 38 [(.t 3), (.c (.int .i64 1)), (.c (.int .i64 3))]⟩, ⟨(some 5), none, .un .not (.t 4)⟩])
 (.cond (.t 5) (.seq (.ops [⟨(some 2), none, .mv (.c (.int .i64 4))⟩])
 (.ret)) (.skip)))
 (.seq (.ops [⟨(some 2), none, .mv (.c (.int .i64 0))⟩])
 (.ret)))⟩
theorem c15 : compF Go.Proofs.Tryz.prog 15 = some a15 := by kernel_rfl
def a16 : AFn := ⟨63, [.t 6], .seq (.ops [⟨(some 6), none, .mv (.c (.bool false))⟩])
 (.seq (.ops [⟨(some 10), none, .mv (.t 0)⟩, ⟨(some 11), none, .mv (.t 1)⟩, ⟨(some 12), none, .call 52 [(.t 10), (.t 11)]⟩, ⟨(some 7), none, .mv (.t 12)⟩])
 (.seq (.seq (.ops [⟨(some 13), none, .mv (.t 7)⟩, ⟨(some 14), none, .len false (.t 13)⟩, ⟨(some 15), none, .mv (.c (.int .i64 0))⟩])
 (.block 0 (.loop (.seq (.ops [⟨(some 16), none, .bin 0 .lss (.t 15) (.t 14)⟩])
 (.seq (.cond (.t 16) (.skip) (.exit 0))
 (.seq (.block 1 (.seq (.ops [⟨(some 17), none, .mv (.t 15)⟩, ⟨(some 8), none, .mv (.t 17)⟩])
 (.seq (.ops [⟨(some 18), none, .mv (.t 7)⟩, ⟨(some 19), none, .len false (.t 18)⟩, ⟨(some 20), none, .mv (.c (.int .i64 0))⟩])
 (.block 2 (.loop (.seq (.ops [⟨(some 21), none, .bin 0 .lss (.t 20) (.t 19)⟩])
 (.seq (.cond (.t 21) (.skip) (.exit 2))
 (.seq (.block 3 (.seq (.ops [⟨(some 22), none, .mv (.t 20)⟩, ⟨(some 9), none, .mv (.t 22)⟩])
 (.seq (.any [(⟨(some 23), none, .mv (.t 8)⟩, []), (⟨(some 24), none, .mv (.t 9)⟩, [0]), (⟨(some 25), none, .bin 0 .neq (.t 23) (.t 24)⟩, []), (⟨(some 26), none, .mv (.t 25)⟩, []), (⟨(some 27), (some (26, true)), .mv (.t 7)⟩, []), (⟨(some 28), (some (26, true)), .mv (.t 8)⟩, [4]), (⟨(some 29), (some (26, true)), .iadr 1 (.t 27) (.t 28)⟩, []), (⟨(some 30), (some (26, true)), .load none (.t 29)⟩, []), (⟨(some 31), (some (26, true)), .mv (.t 7)⟩, [4, 5, 6, 7]), (⟨(some 32), (some (26, true)), .mv (.t 9)⟩, [4, 5, 6, 7, 8]), (⟨(some 33), (some (26, true)), .iadr 1 (.t 31) (.t 32)⟩, [4, 5, 6, 7]), (⟨(some 34), (some (26, true)), .load none (.t 33)⟩, [4, 5, 6, 7]), (⟨(some 35), (some (26, true)), .bin 1 .eql (.t 30) (.t 34)⟩, []), (⟨(some 36), (some (26, true)), .mv (.t 35)⟩, []), (⟨(some 37), (some (36, false)), .mv (.t 2)⟩, []), (⟨(some 38), (some (36, false)), .bin 0 .eql (.t 37) (.c (.int .i64 3))⟩, []), (⟨(some 39), (some (36, false)), .mv (.t 38)⟩, []), (⟨(some 40), (some (39, true)), .mv (.t 7)⟩, []), (⟨(some 41), (some (39, true)), .mv (.t 8)⟩, [17]), (⟨(some 42), (some (39, true)), .iadr 1 (.t 40) (.t 41)⟩, []), (⟨(some 43), (some (39, true)), .load none (.t 42)⟩, []), (⟨(some 44), (some (39, true)), .mv (.t 7)⟩, [17, 18, 19, 20]), (⟨(some 45), (some (39, true)), .mv (.t 9)⟩, [17, 18, 19, 20, 21]), (⟨(some 46), (some (39, true)), .iadr 1 (.t 44) (.t 45)⟩, [17, 18, 19, 20]), (⟨(some 47), (some (39, true)), .load none (.t 46)⟩, [17, 18, 19, 20]), (⟨(some 48), (some (39, true)), .call 53 [(.t 43), (.t 47)]⟩, []), (⟨(some 49), (some (36, false)), .pick (.t 39) (.t 48) (.c (.bool false))⟩, []), (⟨(some 50), (some (26, true)), .pick (.t 36) (.c (.bool true)) (.t 49)⟩, []), (⟨(some 51), none, .pick (.t 26) (.t 50) (.c (.bool false))⟩, [])])
 (.cond (.t 51) (.seq (.ops [⟨(some 6), none, .mv (.c (.bool false))⟩])
 (.ret)) (.skip)))))
 (.ops [⟨(some 52), none, .bin 0 .add (.t 20) (.c (.int .i64 1))⟩, ⟨(some 20), none, .mv (.t 52)⟩])))))))))
 (.ops [⟨(some 53), none, .bin 0 .add (.t 15) (.c (.int .i64 1))⟩, ⟨(some 15), none, .mv (.t 53)⟩])))))))
 (.seq (.ops [⟨(some 54), none, .mv (.t 2)⟩, ⟨(some 55), none, .bin 0 .neq (.t 54) (.c (.int .i64 2))⟩, ⟨(some 56), none, .mv (.t 55)⟩, ⟨(some 57), (some (56, false)), .mv (.t 0)⟩, ⟨(some 58), (some (56, false)), .mv (.t 1)⟩, ⟨(some 59), (some (56, false)), .call 19 [(.t 57), (.t 58)]⟩, ⟨(some 60), (some (56, false)), .len false (.t 59)⟩, ⟨(some 61), (some (56, false)), .bin 0 .eql (.t 60) (.c (.int .i64 0))⟩, ⟨(some 62), none, .pick (.t 56) (.c (.bool true)) (.t 61)⟩, ⟨(some 6), none, .mv (.t 62)⟩])
 (.ret))))⟩
theorem c16 : compF Go.Proofs.Tryz.prog 16 = some a16 := by kernel_rfl
def a17 : AFn := ⟨14, [.t 0], .seq (.ops [⟨(some 0), none, .mv (.c (.bool false))⟩])
 (.seq (.ops [⟨(some 4), none, .call 30 [(.c (.int .i64 3))]⟩, ⟨(some 3), none, .mv (.t 4)⟩, ⟨(some 5), none, .ext (.t 3) 0⟩, ⟨(some 6), none, .ext (.t 3) 1⟩, ⟨(some 1), none, .mv (.t 5)⟩, ⟨(some 2), none, .mv (.t 6)⟩])
 (.seq (.ops [⟨(some 7), none, .mv (.t 2)⟩, ⟨(some 8), none, .bin 0 .eql (.t 7) (.c (.int .i64 0))⟩, ⟨(some 9), none, .mv (.t 8)⟩, ⟨(some 10), (some (9, true)), .mv (.t 1)⟩, ⟨(some 11), (some (9, true)), .bslice 9 1 3 [(.str [])] [(0, 1, (.c (.str [48, 48, 48]))), (1, 1, (.c (.str [48, 49, 49]))), (2, 1, (.c (.str [49, 48, 49])))]⟩, ⟨(some 12), (some (9, true)), .call 54 [(.t 10), (.t 11)]⟩, ⟨(some 13), none, .pick (.t 9) (.t 12) (.c (.bool false))⟩, ⟨(some 0), none, .mv (.t 13)⟩])
 (.ret)))⟩
theorem c17 : compF Go.Proofs.Tryz.prog 17 = some a17 := by kernel_rfl
def a18 : AFn := ⟨26, [.t 4], .seq (.ops [⟨(some 4), none, .mv (.c (.bool false))⟩])
 (.seq (.seq (.ops [⟨(some 6), none, .mv (.t 0)⟩, ⟨(some 7), none, .len false (.t 6)⟩, ⟨(some 8), none, .mv (.t 1)⟩, ⟨(some 9), none, .len false (.t 8)⟩, ⟨(some 10), none, .bin 0 .neq (.t 7) (.t 9)⟩])
 (.cond (.t 10) (.seq (.ops [⟨(some 4), none, .mv (.c (.bool false))⟩])
 (.ret)) (.skip)))
 (.seq (.seq (.ops [⟨(some 11), none, .mv (.t 0)⟩, ⟨(some 12), none, .len false (.t 11)⟩, ⟨(some 13), none, .mv (.c (.int .i64 0))⟩])
 (.block 0 (.loop (.seq (.ops [⟨(some 14), none, .bin 0 .lss (.t 13) (.t 12)⟩])
 (.seq (.cond (.t 14) (.skip) (.exit 0))
 (.seq (.block 1 (.seq (.ops [⟨(some 15), none, .mv (.t 13)⟩, ⟨(some 5), none, .mv (.t 15)⟩])
 (.seq (.any [(⟨(some 16), none, .mv (.t 0)⟩, []), (⟨(some 17), none, .mv (.t 5)⟩, [0]), (⟨(some 18), none, .iadr 1 (.t 16) (.t 17)⟩, []), (⟨(some 19), none, .load none (.t 18)⟩, []), (⟨(some 20), none, .mv (.t 1)⟩, [0, 1, 2, 3]), (⟨(some 21), none, .mv (.t 5)⟩, [0, 1, 2, 3, 4]), (⟨(some 22), none, .iadr 1 (.t 20) (.t 21)⟩, [0, 1, 2, 3]), (⟨(some 23), none, .load none (.t 22)⟩, [0, 1, 2, 3]), (⟨(some 24), none, .bin 0 .neq (.t 19) (.t 23)⟩, [])])
 (.cond (.t 24) (.seq (.ops [⟨(some 4), none, .mv (.c (.bool false))⟩])
 (.ret)) (.skip)))))
 (.ops [⟨(some 25), none, .bin 0 .add (.t 13) (.c (.int .i64 1))⟩, ⟨(some 13), none, .mv (.t 25)⟩])))))))
 (.seq (.ops [⟨(some 4), none, .mv (.c (.bool true))⟩])
 (.ret))))⟩
theorem c18 : compF Go.Proofs.Tryz.prog 18 = some a18 := by kernel_rfl
def a19 : AFn := ⟨31, [.t 4], .seq (.ops [⟨(some 4), none, .mv (.c (.lit true 0 []))⟩])
 (.seq (.ops [⟨(some 5), none, .mv (.c (.lit true 0 []))⟩])
 (.seq (.seq (.ops [⟨(some 8), none, .mv (.t 0)⟩, ⟨(some 9), none, .mv (.t 1)⟩, ⟨(some 10), none, .call 52 [(.t 8), (.t 9)]⟩, ⟨(some 11), none, .len false (.t 10)⟩, ⟨(some 12), none, .mv (.c (.int .i64 0))⟩])
 (.block 0 (.loop (.seq (.ops [⟨(some 13), none, .bin 0 .lss (.t 12) (.t 11)⟩])
 (.seq (.cond (.t 13) (.skip) (.exit 0))
 (.seq (.block 1 (.seq (.ops [⟨(some 14), none, .mv (.t 12)⟩, ⟨(some 15), none, .iadr 1 (.t 10) (.t 12)⟩, ⟨(some 16), none, .load none (.t 15)⟩, ⟨(some 6), none, .mv (.t 14)⟩, ⟨(some 7), none, .mv (.t 16)⟩])
 (.seq (.ops [⟨(some 17), none, .mv (.t 7)⟩, ⟨(some 18), none, .call 55 [(.t 17), (.c (.str [48]))]⟩, ⟨(some 19), none, .un .not (.t 18)⟩, ⟨(some 20), none, .mv (.t 19)⟩, ⟨(some 21), (some (20, false)), .mv (.t 7)⟩, ⟨(some 22), (some (20, false)), .call 55 [(.t 21), (.c (.str [49]))]⟩, ⟨(some 23), (some (20, false)), .un .not (.t 22)⟩, ⟨(some 24), none, .pick (.t 20) (.c (.bool true)) (.t 23)⟩])
 (.cond (.t 24) (.ops [⟨(some 25), none, .mv (.t 5)⟩, ⟨(some 26), none, .mv (.t 6)⟩, ⟨(some 27), none, .bslice 3 1 1 [(.int .i64 0)] [(0, 1, (.t 26))]⟩, ⟨(some 28), none, .app 3 1 8 (.t 25) (.t 27)⟩, ⟨(some 5), none, .mv (.t 28)⟩]) (.skip)))))
 (.ops [⟨(some 29), none, .bin 0 .add (.t 12) (.c (.int .i64 1))⟩, ⟨(some 12), none, .mv (.t 29)⟩])))))))
 (.seq (.ops [⟨(some 30), none, .mv (.t 5)⟩, ⟨(some 4), none, .mv (.t 30)⟩])
 (.ret))))⟩
theorem c19 : compF Go.Proofs.Tryz.prog 19 = some a19 := by kernel_rfl
def a20 : AFn := ⟨32, [.t 6], .seq (.ops [⟨(some 6), none, .mv (.c (.bool false))⟩])
 (.seq (.seq (.ops [⟨(some 10), none, .mv (.t 0)⟩, ⟨(some 11), none, .len false (.t 10)⟩, ⟨(some 12), none, .mv (.t 1)⟩, ⟨(some 13), none, .len false (.t 12)⟩, ⟨(some 14), none, .bin 0 .neq (.t 11) (.t 13)⟩])
 (.cond (.t 14) (.seq (.ops [⟨(some 6), none, .mv (.c (.bool false))⟩])
 (.ret)) (.skip)))
 (.seq (.seq (.ops [⟨(some 15), none, .mv (.t 0)⟩, ⟨(some 16), none, .len false (.t 15)⟩, ⟨(some 17), none, .mv (.c (.int .i64 0))⟩])
 (.block 0 (.loop (.seq (.ops [⟨(some 18), none, .bin 0 .lss (.t 17) (.t 16)⟩])
 (.seq (.cond (.t 18) (.skip) (.exit 0))
 (.seq (.block 1 (.seq (.ops [⟨(some 19), none, .mv (.t 17)⟩, ⟨(some 20), none, .iadr 1 (.t 15) (.t 17)⟩, ⟨(some 21), none, .load none (.t 20)⟩, ⟨(some 7), none, .mv (.t 19)⟩, ⟨(some 8), none, .mv (.t 21)⟩])
 (.seq (.ops [⟨(some 22), none, .mv (.t 1)⟩, ⟨(some 23), none, .mv (.t 7)⟩, ⟨(some 24), none, .iadr 1 (.t 22) (.t 23)⟩, ⟨(some 25), none, .load none (.t 24)⟩, ⟨(some 9), none, .mv (.t 25)⟩])
 (.seq (.ops [⟨(some 26), none, .mv (.t 2)⟩, ⟨(some 27), none, .mv (.t 8)⟩, ⟨(some 28), none, .mv (.t 9)⟩, ⟨(some 29), none, .callv (.t 26) [(.t 27), (.t 28)]⟩, ⟨(some 30), none, .un .not (.t 29)⟩])
 (.cond (.t 30) (.seq (.ops [⟨(some 6), none, .mv (.c (.bool false))⟩])
 (.ret)) (.skip))))))
 (.ops [⟨(some 31), none, .bin 0 .add (.t 17) (.c (.int .i64 1))⟩, ⟨(some 17), none, .mv (.t 31)⟩])))))))
 (.seq (.ops [⟨(some 6), none, .mv (.c (.bool true))⟩])
 (.ret))))⟩
theorem c20 : compF Go.Proofs.Tryz.prog 20 = some a20 := by kernel_rfl
def a21 : AFn := ⟨60, [.t 4], .seq (.ops [⟨(some 4), none, .mv (.c (.lit true 0 []))⟩])
 (.seq (.ops [⟨(some 5), none, .mv (.c (.lit true 0 []))⟩])
 (.seq (.ops [⟨(some 10), none, .mv (.t 0)⟩, ⟨(some 11), none, .mv (.t 1)⟩, ⟨(some 12), none, .call 52 [(.t 10), (.t 11)]⟩, ⟨(some 6), none, .mv (.t 12)⟩])
 (.seq (.seq (.ops [⟨(some 13), none, .mv (.t 6)⟩, ⟨(some 14), none, .len false (.t 13)⟩, ⟨(some 15), none, .mv (.c (.int .i64 0))⟩])
 (.block 0 (.loop (.seq (.ops [⟨(some 16), none, .bin 0 .lss (.t 15) (.t 14)⟩])
 (.seq (.cond (.t 16) (.skip) (.exit 0))
 (.seq (.block 1 (.seq (.ops [⟨(some 17), none, .mv (.t 15)⟩, ⟨(some 7), none, .mv (.t 17)⟩])
 (.seq (.ops [⟨(some 18), none, .mv (.t 7)⟩, ⟨(some 19), none, .bslice 3 1 1 [(.int .i64 0)] [(0, 1, (.t 18))]⟩, ⟨(some 8), none, .mv (.t 19)⟩])
 (.seq (.seq (.ops [⟨(some 20), none, .mv (.t 7)⟩, ⟨(some 21), none, .bin 0 .add (.t 20) (.c (.int .i64 1))⟩, ⟨(some 9), none, .mv (.t 21)⟩])
 (.block 2 (.loop (.seq (.seq (.ops [⟨(some 22), none, .mv (.t 9)⟩, ⟨(some 23), none, .mv (.t 0)⟩, ⟨(some 24), none, .bin 0 .lss (.t 22) (.t 23)⟩])
 (.cond (.t 24) (.skip) (.exit 2)))
 (.seq (.block 3 (.seq (.any [(⟨(some 27), none, .mv (.t 6)⟩, []), (⟨(some 28), none, .mv (.t 9)⟩, [0]), (⟨(some 29), none, .iadr 1 (.t 27) (.t 28)⟩, []), (⟨(some 30), none, .load none (.t 29)⟩, []), (⟨(some 31), none, .mv (.t 6)⟩, [0, 1, 2, 3]), (⟨(some 32), none, .mv (.t 7)⟩, [0, 1, 2, 3, 4]), (⟨(some 33), none, .iadr 1 (.t 31) (.t 32)⟩, [0, 1, 2, 3]), (⟨(some 34), none, .load none (.t 33)⟩, [0, 1, 2, 3]), (⟨(some 35), none, .bin 1 .eql (.t 30) (.t 34)⟩, [])])
 (.cond (.t 35) (.ops [⟨(some 36), none, .mv (.t 8)⟩, ⟨(some 37), none, .mv (.t 9)⟩, ⟨(some 38), none, .bslice 3 1 1 [(.int .i64 0)] [(0, 1, (.t 37))]⟩, ⟨(some 39), none, .app 3 1 8 (.t 36) (.t 38)⟩, ⟨(some 8), none, .mv (.t 39)⟩]) (.skip))))
 (.ops [⟨(some 25), none, .mv (.t 9)⟩, ⟨(some 26), none, .bin 0 .add (.t 25) (.c (.int .i64 1))⟩, ⟨(some 9), none, .mv (.t 26)⟩]))))))
 (.seq (.any [(⟨(some 40), none, .mv (.t 8)⟩, []), (⟨(some 41), none, .len false (.t 40)⟩, []), (⟨(some 42), none, .bin 0 .gtr (.t 41) (.c (.int .i64 1))⟩, []), (⟨(some 43), none, .mv (.t 42)⟩, []), (⟨(some 44), (some (43, true)), .mv (.t 6)⟩, []), (⟨(some 45), (some (43, true)), .mv (.t 7)⟩, [4]), (⟨(some 46), (some (43, true)), .slc 1 (.t 44) none (some (.t 45))⟩, []), (⟨(some 47), (some (43, true)), .mv (.t 6)⟩, [4, 5, 6]), (⟨(some 48), (some (43, true)), .mv (.t 7)⟩, [4, 5, 6, 7]), (⟨(some 49), (some (43, true)), .iadr 1 (.t 47) (.t 48)⟩, [4, 5, 6]), (⟨(some 50), (some (43, true)), .load none (.t 49)⟩, [4, 5, 6]), (⟨(some 51), (some (43, true)), .call 56 [(.t 46), (.t 50)]⟩, []), (⟨(some 52), (some (43, true)), .un .not (.t 51)⟩, []), (⟨(some 53), none, .pick (.t 43) (.t 52) (.c (.bool false))⟩, [])])
 (.cond (.t 53) (.ops [⟨(some 54), none, .mv (.t 5)⟩, ⟨(some 55), none, .mv (.t 8)⟩, ⟨(some 56), none, .bslice 22 1 1 [(.lit true 0 [])] [(0, 1, (.t 55))]⟩, ⟨(some 57), none, .app 22 1 24 (.t 54) (.t 56)⟩, ⟨(some 5), none, .mv (.t 57)⟩]) (.skip)))))))
 (.ops [⟨(some 58), none, .bin 0 .add (.t 15) (.c (.int .i64 1))⟩, ⟨(some 15), none, .mv (.t 58)⟩])))))))
 (.seq (.ops [⟨(some 59), none, .mv (.t 5)⟩, ⟨(some 4), none, .mv (.t 59)⟩])
 (.ret)))))⟩
theorem c21 : compF Go.Proofs.Tryz.prog 21 = some a21 := by kernel_rfl
def a22 : AFn := ⟨70, [.t 4, .t 5], .seq (.ops [⟨(some 4), none, .mv (.c (.lit true 0 []))⟩, ⟨(some 5), none, .mv (.c (.bool false))⟩])
 (.seq (.ops [⟨(some 6), none, .mv (.c (.lit true 0 []))⟩])
 (.seq (.ops [⟨(some 12), none, .mv (.t 0)⟩, ⟨(some 13), none, .mv (.t 1)⟩, ⟨(some 14), none, .call 52 [(.t 12), (.t 13)]⟩, ⟨(some 7), none, .mv (.t 14)⟩])
 (.seq (.seq (.ops [⟨(some 15), none, .mv (.t 7)⟩, ⟨(some 16), none, .len false (.t 15)⟩, ⟨(some 17), none, .mv (.c (.int .i64 0))⟩])
 (.block 0 (.loop (.seq (.ops [⟨(some 18), none, .bin 0 .lss (.t 17) (.t 16)⟩])
 (.seq (.cond (.t 18) (.skip) (.exit 0))
 (.seq (.block 1 (.seq (.ops [⟨(some 19), none, .mv (.t 17)⟩, ⟨(some 8), none, .mv (.t 19)⟩])
 (.seq (.ops [⟨(some 20), none, .mv (.t 8)⟩, ⟨(some 21), none, .bin 0 .add (.t 20) (.c (.int .i64 1))⟩, ⟨(some 9), none, .mv (.t 21)⟩])
 (.block 2 (.loop (.seq (.seq (.ops [⟨(some 22), none, .mv (.t 9)⟩, ⟨(some 23), none, .mv (.t 0)⟩, ⟨(some 24), none, .bin 0 .lss (.t 22) (.t 23)⟩])
 (.cond (.t 24) (.skip) (.exit 2)))
 (.seq (.block 3 (.seq (.any [(⟨(some 27), none, .mv (.t 7)⟩, []), (⟨(some 28), none, .mv (.t 8)⟩, [0]), (⟨(some 29), none, .iadr 1 (.t 27) (.t 28)⟩, []), (⟨(some 30), none, .load none (.t 29)⟩, []), (⟨(some 31), none, .mv (.t 7)⟩, [0, 1, 2, 3]), (⟨(some 32), none, .mv (.t 9)⟩, [0, 1, 2, 3, 4]), (⟨(some 33), none, .iadr 1 (.t 31) (.t 32)⟩, [0, 1, 2, 3]), (⟨(some 34), none, .load none (.t 33)⟩, [0, 1, 2, 3]), (⟨(some 35), none, .call 57 [(.t 30), (.t 34)]⟩, []), (⟨(some 10), none, .mv (.t 35)⟩, [])])
 (.seq (.ops [⟨(some 36), none, .mv (.t 7)⟩, ⟨(some 37), none, .len false (.t 36)⟩, ⟨(some 38), none, .mv (.c (.int .i64 0))⟩])
 (.block 4 (.loop (.seq (.ops [⟨(some 39), none, .bin 0 .lss (.t 38) (.t 37)⟩])
 (.seq (.cond (.t 39) (.skip) (.exit 4))
 (.seq (.block 5 (.seq (.ops [⟨(some 40), none, .mv (.t 38)⟩, ⟨(some 11), none, .mv (.t 40)⟩])
 (.seq (.ops [⟨(some 41), none, .mv (.t 11)⟩, ⟨(some 42), none, .mv (.t 8)⟩, ⟨(some 43), none, .bin 0 .neq (.t 41) (.t 42)⟩, ⟨(some 44), none, .mv (.t 43)⟩, ⟨(some 45), (some (44, true)), .mv (.t 11)⟩, ⟨(some 46), (some (44, true)), .mv (.t 9)⟩, ⟨(some 47), (some (44, true)), .bin 0 .neq (.t 45) (.t 46)⟩, ⟨(some 48), none, .pick (.t 44) (.t 47) (.c (.bool false))⟩, ⟨(some 49), none, .mv (.t 48)⟩, ⟨(some 50), (some (49, true)), .mv (.t 7)⟩, ⟨(some 51), (some (49, true)), .mv (.t 11)⟩, ⟨(some 52), (some (49, true)), .iadr 1 (.t 50) (.t 51)⟩, ⟨(some 53), (some (49, true)), .load none (.t 52)⟩, ⟨(some 54), (some (49, true)), .mv (.t 10)⟩, ⟨(some 55), (some (49, true)), .bin 1 .eql (.t 53) (.t 54)⟩, ⟨(some 56), none, .pick (.t 49) (.t 55) (.c (.bool false))⟩])
 (.cond (.t 56) (.ops [⟨(some 57), none, .mv (.t 6)⟩, ⟨(some 58), none, .mv (.t 8)⟩, ⟨(some 59), none, .mv (.t 9)⟩, ⟨(some 60), none, .mv (.t 11)⟩, ⟨(some 61), none, .build [(.int .i64 0), (.int .i64 0), (.int .i64 0)] [(0, 1, (.t 58)), (1, 1, (.t 59)), (2, 1, (.t 60))]⟩, ⟨(some 62), none, .bslice 55 3 1 [(.int .i64 0), (.int .i64 0), (.int .i64 0)] [(0, 3, (.t 61))]⟩, ⟨(some 63), none, .app 55 3 24 (.t 57) (.t 62)⟩, ⟨(some 6), none, .mv (.t 63)⟩]) (.skip)))))
 (.ops [⟨(some 64), none, .bin 0 .add (.t 38) (.c (.int .i64 1))⟩, ⟨(some 38), none, .mv (.t 64)⟩])))))))))
 (.ops [⟨(some 25), none, .mv (.t 9)⟩, ⟨(some 26), none, .bin 0 .add (.t 25) (.c (.int .i64 1))⟩, ⟨(some 9), none, .mv (.t 26)⟩]))))))))
 (.ops [⟨(some 65), none, .bin 0 .add (.t 17) (.c (.int .i64 1))⟩, ⟨(some 17), none, .mv (.t 65)⟩])))))))
 (.seq (.ops [⟨(some 66), none, .mv (.t 6)⟩, ⟨(some 67), none, .mv (.t 6)⟩, ⟨(some 68), none, .len false (.t 67)⟩, ⟨(some 69), none, .bin 0 .leq (.t 68) (.c (.int .i64 10000))⟩, ⟨(some 4), none, .mv (.t 66)⟩, ⟨(some 5), none, .mv (.t 69)⟩])
 (.ret)))))⟩
theorem c22 : compF Go.Proofs.Tryz.prog 22 = some a22 := by kernel_rfl
def a23 : AFn := ⟨26, [.t 4], .seq (.ops [⟨(some 4), none, .mv (.c (.bool false))⟩])
 (.seq (.seq (.ops [⟨(some 6), none, .mv (.t 0)⟩, ⟨(some 7), none, .len false (.t 6)⟩, ⟨(some 8), none, .mv (.t 1)⟩, ⟨(some 9), none, .len false (.t 8)⟩, ⟨(some 10), none, .bin 0 .neq (.t 7) (.t 9)⟩])
 (.cond (.t 10) (.seq (.ops [⟨(some 4), none, .mv (.c (.bool false))⟩])
 (.ret)) (.skip)))
 (.seq (.seq (.ops [⟨(some 11), none, .mv (.t 0)⟩, ⟨(some 12), none, .len false (.t 11)⟩, ⟨(some 13), none, .mv (.c (.int .i64 0))⟩])
 (.block 0 (.loop (.seq (.ops [⟨(some 14), none, .bin 0 .lss (.t 13) (.t 12)⟩])
 (.seq (.cond (.t 14) (.skip) (.exit 0))
 (.seq (.block 1 (.seq (.ops [⟨(some 15), none, .mv (.t 13)⟩, ⟨(some 5), none, .mv (.t 15)⟩])
 (.seq (.any [(⟨(some 16), none, .mv (.t 0)⟩, []), (⟨(some 17), none, .mv (.t 5)⟩, [0]), (⟨(some 18), none, .iadr 3 (.t 16) (.t 17)⟩, []), (⟨(some 19), none, .load (some 3) (.t 18)⟩, []), (⟨(some 20), none, .mv (.t 1)⟩, [0, 1, 2, 3]), (⟨(some 21), none, .mv (.t 5)⟩, [0, 1, 2, 3, 4]), (⟨(some 22), none, .iadr 3 (.t 20) (.t 21)⟩, [0, 1, 2, 3]), (⟨(some 23), none, .load (some 3) (.t 22)⟩, [0, 1, 2, 3]), (⟨(some 24), none, .eqs true [0, 0, 0] (.t 19) (.t 23)⟩, [])])
 (.cond (.t 24) (.seq (.ops [⟨(some 4), none, .mv (.c (.bool false))⟩])
 (.ret)) (.skip)))))
 (.ops [⟨(some 25), none, .bin 0 .add (.t 13) (.c (.int .i64 1))⟩, ⟨(some 13), none, .mv (.t 25)⟩])))))))
 (.seq (.ops [⟨(some 4), none, .mv (.c (.bool true))⟩])
 (.ret))))⟩
theorem c23 : compF Go.Proofs.Tryz.prog 23 = some a23 := by kernel_rfl
def a24 : AFn := ⟨48, [.t 4, .t 5], .seq (.ops [⟨(some 4), none, .mv (.c (.int .i64 0))⟩, ⟨(some 5), none, .mv (.c (.bool false))⟩])
 (.seq (.ops [⟨(some 11), none, .mv (.t 0)⟩, ⟨(some 12), none, .mv (.t 1)⟩, ⟨(some 13), none, .call 52 [(.t 11), (.t 12)]⟩, ⟨(some 6), none, .mv (.t 13)⟩])
 (.seq (.ops [⟨(some 7), none, .mv (.c (.int .i64 (-1)))⟩])
 (.seq (.seq (.ops [⟨(some 14), none, .mv (.t 6)⟩, ⟨(some 15), none, .len false (.t 14)⟩, ⟨(some 16), none, .mv (.c (.int .i64 0))⟩])
 (.block 0 (.loop (.seq (.ops [⟨(some 17), none, .bin 0 .lss (.t 16) (.t 15)⟩])
 (.seq (.cond (.t 17) (.skip) (.exit 0))
 (.seq (.block 1 (.seq (.ops [⟨(some 18), none, .mv (.t 16)⟩, ⟨(some 8), none, .mv (.t 18)⟩])
 (.seq (.ops [⟨(some 19), none, .mv (.t 8)⟩, ⟨(some 20), none, .bin 0 .add (.t 19) (.c (.int .i64 1))⟩, ⟨(some 9), none, .mv (.t 20)⟩])
 (.block 2 (.loop (.seq (.seq (.ops [⟨(some 21), none, .mv (.t 9)⟩, ⟨(some 22), none, .mv (.t 0)⟩, ⟨(some 23), none, .bin 0 .lss (.t 21) (.t 22)⟩])
 (.cond (.t 23) (.skip) (.exit 2)))
 (.seq (.block 3 (.seq (.any [(⟨(some 26), none, .mv (.t 6)⟩, []), (⟨(some 27), none, .mv (.t 8)⟩, [0]), (⟨(some 28), none, .iadr 1 (.t 26) (.t 27)⟩, []), (⟨(some 29), none, .load none (.t 28)⟩, []), (⟨(some 30), none, .mv (.t 6)⟩, [0, 1, 2, 3]), (⟨(some 31), none, .mv (.t 9)⟩, [0, 1, 2, 3, 4]), (⟨(some 32), none, .iadr 1 (.t 30) (.t 31)⟩, [0, 1, 2, 3]), (⟨(some 33), none, .load none (.t 32)⟩, [0, 1, 2, 3]), (⟨(some 34), none, .call 58 [(.t 29), (.t 33)]⟩, []), (⟨(some 10), none, .mv (.t 34)⟩, [])])
 (.seq (.ops [⟨(some 35), none, .mv (.t 7)⟩, ⟨(some 36), none, .bin 0 .lss (.t 35) (.c (.int .i64 0))⟩, ⟨(some 37), none, .mv (.t 36)⟩, ⟨(some 38), (some (37, false)), .mv (.t 10)⟩, ⟨(some 39), (some (37, false)), .mv (.t 7)⟩, ⟨(some 40), (some (37, false)), .bin 0 .lss (.t 38) (.t 39)⟩, ⟨(some 41), none, .pick (.t 37) (.c (.bool true)) (.t 40)⟩])
 (.cond (.t 41) (.ops [⟨(some 42), none, .mv (.t 10)⟩, ⟨(some 7), none, .mv (.t 42)⟩]) (.skip)))))
 (.ops [⟨(some 24), none, .mv (.t 9)⟩, ⟨(some 25), none, .bin 0 .add (.t 24) (.c (.int .i64 1))⟩, ⟨(some 9), none, .mv (.t 25)⟩]))))))))
 (.ops [⟨(some 43), none, .bin 0 .add (.t 16) (.c (.int .i64 1))⟩, ⟨(some 16), none, .mv (.t 43)⟩])))))))
 (.seq (.ops [⟨(some 44), none, .mv (.t 7)⟩, ⟨(some 45), none, .mm true (.t 44) [(.c (.int .i64 0))]⟩, ⟨(some 46), none, .mv (.t 7)⟩, ⟨(some 47), none, .bin 0 .geq (.t 46) (.c (.int .i64 0))⟩, ⟨(some 4), none, .mv (.t 45)⟩, ⟨(some 5), none, .mv (.t 47)⟩])
 (.ret)))))⟩
theorem c24 : compF Go.Proofs.Tryz.prog 24 = some a24 := by kernel_rfl
def a26 : AFn := ⟨19, [.t 6], .seq (.ops [⟨(some 6), none, .mv (.c (.int .i64 0))⟩])
 (.seq (.seq (.ops [⟨(some 7), none, .mv (.t 2)⟩, ⟨(some 8), none, .mv (.t 1)⟩, ⟨(some 9), none, .bin 0 .lss (.t 7) (.t 8)⟩])
 (.cond (.t 9) (.seq (.ops [⟨(some 10), none, .mv (.t 1)⟩, ⟨(some 6), none, .mv (.t 10)⟩])
 (.ret)) (.skip)))
 (.seq (.ops [⟨(some 11), none, .mv (.t 1)⟩, ⟨(some 12), none, .mv (.t 0)⟩, ⟨(some 13), none, .mv (.t 2)⟩, ⟨(some 14), none, .mv (.t 1)⟩, ⟨(some 15), none, .bin 0 .sub (.t 13) (.t 14)⟩, ⟨(some 16), none, .bin 0 .add (.t 15) (.c (.int .i64 1))⟩, ⟨(some 17), none, .call 35 [(.t 12), (.t 16)]⟩, ⟨(some 18), none, .bin 0 .add (.t 11) (.t 17)⟩, ⟨(some 6), none, .mv (.t 18)⟩])
 (.ret)))⟩
theorem c26 : compF Go.Proofs.Tryz.prog 26 = some a26 := by kernel_rfl
def a29 : AFn := ⟨12, [.t 4], .seq (.ops [⟨(some 4), none, .mv (.c (.int .i64 0))⟩])
 (.seq (.ops [⟨(some 5), none, .mv (.t 1)⟩, ⟨(some 6), none, .mv (.t 0)⟩, ⟨(some 7), none, .mv (.t 1)⟩, ⟨(some 8), none, .len false (.t 7)⟩, ⟨(some 9), none, .call 35 [(.t 6), (.t 8)]⟩, ⟨(some 10), none, .iadr 1 (.t 5) (.t 9)⟩, ⟨(some 11), none, .load none (.t 10)⟩, ⟨(some 4), none, .mv (.t 11)⟩])
 (.ret))⟩
theorem c29 : compF Go.Proofs.Tryz.prog 29 = some a29 := by kernel_rfl
def a30 : AFn := ⟨30, [.t 2, .t 3], .seq (.ops [⟨(some 1), none, .box 3 (.t 0)⟩, ⟨(some 2), none, .mv (.c (.lit true 0 []))⟩, ⟨(some 3), none, .mv (.c (.int .i64 0))⟩])
 (.seq (.seq (.ops [⟨(some 8), none, .load none (.t 1)⟩, ⟨(some 9), none, .call 59 [(.t 8)]⟩, ⟨(some 4), none, .mv (.t 9)⟩])
 (.seq (.ops [⟨(some 10), none, .mv (.t 4)⟩, ⟨(some 11), none, .bin 0 .neq (.t 10) (.c (.int .i64 0))⟩])
 (.cond (.t 11) (.seq (.ops [⟨(some 12), none, .mv (.t 4)⟩, ⟨(some 2), none, .mv (.c (.lit true 0 []))⟩, ⟨(some 3), none, .mv (.t 12)⟩])
 (.ret)) (.skip))))
 (.seq (.ops [⟨(some 13), none, .mkfn 64 [(.t 1)]⟩, ⟨(some 14), none, .call 63 [(.c (.int .i64 0)), (.t 13)]⟩, ⟨(some 5), none, .mv (.t 14)⟩])
 (.seq (.ops [⟨(some 6), none, .mv (.c (.lit true 0 []))⟩])
 (.seq (.seq (.ops [⟨(some 15), none, .load none (.t 1)⟩, ⟨(some 16), none, .mv (.c (.int .i64 0))⟩])
 (.block 0 (.loop (.seq (.ops [⟨(some 17), none, .bin 0 .lss (.t 16) (.t 15)⟩])
 (.seq (.cond (.t 17) (.skip) (.exit 0))
 (.seq (.block 1 (.seq (.ops [⟨(some 18), none, .mv (.t 16)⟩, ⟨(some 7), none, .mv (.t 18)⟩])
 (.ops [⟨(some 19), none, .mv (.t 6)⟩, ⟨(some 20), none, .mv (.t 7)⟩, ⟨(some 21), none, .bin 0 .add (.t 20) (.c (.int .i64 1))⟩, ⟨(some 22), none, .mv (.t 5)⟩, ⟨(some 23), none, .call 65 [(.t 21), (.t 22)]⟩, ⟨(some 24), none, .bslice 9 1 1 [(.str [])] [(0, 1, (.t 23))]⟩, ⟨(some 25), none, .app 9 1 16 (.t 19) (.t 24)⟩, ⟨(some 6), none, .mv (.t 25)⟩])))
 (.ops [⟨(some 26), none, .bin 0 .add (.t 16) (.c (.int .i64 1))⟩, ⟨(some 16), none, .mv (.t 26)⟩])))))))
 (.seq (.ops [⟨(some 27), none, .mv (.t 6)⟩, ⟨(some 28), none, .mv (.t 5)⟩, ⟨(some 29), none, .call 43 [(.t 27), (.t 28)]⟩, ⟨(some 2), none, .mv (.t 29)⟩, ⟨(some 3), none, .mv (.c (.int .i64 0))⟩])
 (.ret))))))⟩
theorem c30 : compF Go.Proofs.Tryz.prog 30 = some a30 := by kernel_rfl
def a31 : AFn := ⟨35, [.t 2, .t 3], .seq (.ops [⟨(some 1), none, .box 3 (.t 0)⟩, ⟨(some 2), none, .mv (.c (.lit true 0 []))⟩, ⟨(some 3), none, .mv (.c (.int .i64 0))⟩])
 (.seq (.seq (.ops [⟨(some 9), none, .load none (.t 1)⟩, ⟨(some 10), none, .call 59 [(.t 9)]⟩, ⟨(some 4), none, .mv (.t 10)⟩])
 (.seq (.ops [⟨(some 11), none, .mv (.t 4)⟩, ⟨(some 12), none, .bin 0 .neq (.t 11) (.c (.int .i64 0))⟩])
 (.cond (.t 12) (.seq (.ops [⟨(some 13), none, .mv (.t 4)⟩, ⟨(some 2), none, .mv (.c (.lit true 0 []))⟩, ⟨(some 3), none, .mv (.t 13)⟩])
 (.ret)) (.skip))))
 (.seq (.ops [⟨(some 14), none, .mkfn 66 [(.t 1)]⟩, ⟨(some 15), none, .call 63 [(.c (.int .i64 1)), (.t 14)]⟩, ⟨(some 5), none, .mv (.t 15)⟩])
 (.seq (.ops [⟨(some 6), none, .mv (.c (.lit true 0 []))⟩])
 (.seq (.seq (.ops [⟨(some 16), none, .load none (.t 1)⟩, ⟨(some 17), none, .mv (.c (.int .i64 0))⟩])
 (.block 0 (.loop (.seq (.ops [⟨(some 18), none, .bin 0 .lss (.t 17) (.t 16)⟩])
 (.seq (.cond (.t 18) (.skip) (.exit 0))
 (.seq (.block 1 (.seq (.ops [⟨(some 19), none, .mv (.t 17)⟩, ⟨(some 7), none, .mv (.t 19)⟩])
 (.seq (.ops [⟨(some 20), none, .mv (.t 7)⟩, ⟨(some 21), none, .mv (.t 5)⟩, ⟨(some 22), none, .call 65 [(.t 20), (.t 21)]⟩, ⟨(some 8), none, .mv (.t 22)⟩])
 (.ops [⟨(some 23), none, .mv (.t 6)⟩, ⟨(some 24), none, .mv (.t 8)⟩, ⟨(some 25), none, .mv (.t 8)⟩, ⟨(some 26), none, .call 67 [(.t 25)]⟩, ⟨(some 27), none, .bin 1 .add (.t 24) (.t 26)⟩, ⟨(some 28), none, .bslice 9 1 1 [(.str [])] [(0, 1, (.t 27))]⟩, ⟨(some 29), none, .app 9 1 16 (.t 23) (.t 28)⟩, ⟨(some 6), none, .mv (.t 29)⟩]))))
 (.ops [⟨(some 30), none, .bin 0 .add (.t 17) (.c (.int .i64 1))⟩, ⟨(some 17), none, .mv (.t 30)⟩])))))))
 (.seq (.ops [⟨(some 31), none, .mv (.t 6)⟩, ⟨(some 32), none, .mv (.t 5)⟩, ⟨(some 33), none, .bin 0 .mul (.c (.int .i64 2)) (.t 32)⟩, ⟨(some 34), none, .call 43 [(.t 31), (.t 33)]⟩, ⟨(some 2), none, .mv (.t 34)⟩, ⟨(some 3), none, .mv (.c (.int .i64 0))⟩])
 (.ret))))))⟩
def a33 : AFn := ⟨16, [.t 4], .seq (.ops [⟨(some 4), none, .mv (.c (.str []))⟩])
 (.seq (.ops [⟨(some 5), none, .mv (.c (.str []))⟩])
 (.seq (.seq (.ops [⟨(some 6), none, .mv (.t 1)⟩, ⟨(some 7), none, .mv (.c (.int .i64 0))⟩])
 (.block 0 (.loop (.seq (.ops [⟨(some 8), none, .bin 0 .lss (.t 7) (.t 6)⟩])
 (.seq (.cond (.t 8) (.skip) (.exit 0))
 (.seq (.block 1 (.ops [⟨(some 9), none, .mv (.t 5)⟩, ⟨(some 10), none, .mv (.t 0)⟩, ⟨(some 11), none, .bslice 9 1 2 [(.str [])] [(0, 1, (.c (.str [48]))), (1, 1, (.c (.str [49])))]⟩, ⟨(some 12), none, .call 36 [(.t 10), (.t 11)]⟩, ⟨(some 13), none, .bin 1 .add (.t 9) (.t 12)⟩, ⟨(some 5), none, .mv (.t 13)⟩]))
 (.ops [⟨(some 14), none, .bin 0 .add (.t 7) (.c (.int .i64 1))⟩, ⟨(some 7), none, .mv (.t 14)⟩])))))))
 (.seq (.ops [⟨(some 15), none, .mv (.t 5)⟩, ⟨(some 4), none, .mv (.t 15)⟩])
 (.ret))))⟩
theorem c33 : compF Go.Proofs.Tryz.prog 33 = some a33 := by kernel_rfl
def a34 : AFn := ⟨9, [.t 4], .seq (.ops [⟨(some 4), none, .mv (.c (.bool false))⟩])
 (.seq (.ops [⟨(some 5), none, .mv (.t 0)⟩, ⟨(some 6), none, .mv (.t 1)⟩, ⟨(some 7), none, .call 35 [(.t 5), (.t 6)]⟩, ⟨(some 8), none, .bin 0 .eql (.t 7) (.c (.int .i64 0))⟩, ⟨(some 4), none, .mv (.t 8)⟩])
 (.ret))⟩
theorem c34 : compF Go.Proofs.Tryz.prog 34 = some a34 := by kernel_rfl
def a35 : AFn := ⟨64, [.t 4], .seq (.ops [⟨(some 4), none, .mv (.c (.int .i64 0))⟩])
 (.seq (.ops [⟨(some 7), none, .mv (.t 0)⟩, ⟨(some 8), none, .nilchk (.t 7)⟩, ⟨(some 9), none, .fadr 1 (.t 8)⟩, ⟨(some 10), none, .load none (.t 9)⟩, ⟨(some 11), none, .bin 0 .add (.t 10) (.c (.int .i64 1))⟩, ⟨(some 12), none, .nilchk (.t 7)⟩, ⟨(some 13), none, .fadr 1 (.t 12)⟩, ⟨none, none, .store 1 (.t 13) (.t 11)⟩])
 (.seq (.seq (.ops [⟨(some 14), none, .mv (.t 0)⟩, ⟨(some 15), none, .nilchk (.t 14)⟩, ⟨(some 16), none, .fadr 0 (.t 15)⟩, ⟨(some 17), none, .load none (.t 16)⟩, ⟨(some 18), none, .len false (.t 17)⟩, ⟨(some 19), none, .bin 0 .eql (.t 18) (.c (.int .i64 0))⟩])
 (.cond (.t 19) (.seq (.ops [⟨(some 20), none, .mv (.t 0)⟩, ⟨(some 21), none, .nilchk (.t 20)⟩, ⟨(some 22), none, .fadr 1 (.t 21)⟩, ⟨(some 23), none, .load none (.t 22)⟩, ⟨(some 24), none, .bin 0 .mul (.t 23) (.c (.int .i64 7919))⟩, ⟨(some 25), none, .mv (.t 1)⟩, ⟨(some 26), none, .call 69 [(.t 24), (.t 25)]⟩, ⟨(some 4), none, .mv (.t 26)⟩])
 (.ret)) (.skip)))
 (.seq (.any [(⟨(some 27), none, .mv (.t 0)⟩, []), (⟨(some 28), none, .nilchk (.t 27)⟩, []), (⟨(some 29), none, .fadr 1 (.t 28)⟩, []), (⟨(some 30), none, .load none (.t 29)⟩, []), (⟨(some 31), none, .bin 0 .sub (.t 30) (.c (.int .i64 1))⟩, []), (⟨(some 32), none, .mv (.t 0)⟩, [0, 1, 2, 3, 4]), (⟨(some 33), none, .nilchk (.t 32)⟩, [0, 1, 2, 3, 4]), (⟨(some 34), none, .fadr 0 (.t 33)⟩, [0, 1, 2, 3, 4]), (⟨(some 35), none, .load none (.t 34)⟩, [0, 1, 2, 3, 4]), (⟨(some 36), none, .len false (.t 35)⟩, [0, 1, 2, 3, 4]), (⟨(some 37), none, .bin 0 .rem (.t 31) (.t 36)⟩, []), (⟨(some 5), none, .mv (.t 37)⟩, [])])
 (.seq (.any [(⟨(some 38), none, .mv (.t 0)⟩, []), (⟨(some 39), none, .nilchk (.t 38)⟩, []), (⟨(some 40), none, .fadr 1 (.t 39)⟩, []), (⟨(some 41), none, .load none (.t 40)⟩, []), (⟨(some 42), none, .bin 0 .sub (.t 41) (.c (.int .i64 1))⟩, []), (⟨(some 43), none, .mv (.t 0)⟩, [0, 1, 2, 3, 4]), (⟨(some 44), none, .nilchk (.t 43)⟩, [0, 1, 2, 3, 4]), (⟨(some 45), none, .fadr 0 (.t 44)⟩, [0, 1, 2, 3, 4]), (⟨(some 46), none, .load none (.t 45)⟩, [0, 1, 2, 3, 4]), (⟨(some 47), none, .len false (.t 46)⟩, [0, 1, 2, 3, 4]), (⟨(some 48), none, .bin 0 .quo (.t 42) (.t 47)⟩, []), (⟨(some 6), none, .mv (.t 48)⟩, [])])
 (.seq (.ops [⟨(some 49), none, .mv (.t 0)⟩, ⟨(some 50), none, .nilchk (.t 49)⟩, ⟨(some 51), none, .fadr 0 (.t 50)⟩, ⟨(some 52), none, .load none (.t 51)⟩, ⟨(some 53), none, .mv (.t 5)⟩, ⟨(some 54), none, .iadr 1 (.t 52) (.t 53)⟩, ⟨(some 55), none, .load none (.t 54)⟩, ⟨(some 56), none, .call 69 [(.t 55), (.c (.int .i64 1073741824))]⟩, ⟨(some 57), none, .mv (.t 6)⟩, ⟨(some 58), none, .mv (.t 5)⟩, ⟨(some 59), none, .bin 0 .add (.c (.int .i64 7919)) (.t 58)⟩, ⟨(some 60), none, .bin 0 .mul (.t 57) (.t 59)⟩, ⟨(some 61), none, .bin 0 .add (.t 56) (.t 60)⟩, ⟨(some 62), none, .mv (.t 1)⟩, ⟨(some 63), none, .call 69 [(.t 61), (.t 62)]⟩, ⟨(some 4), none, .mv (.t 63)⟩])
 (.ret))))))⟩
theorem c35 : compF Go.Proofs.Tryz.prog 35 = some a35 := by kernel_rfl
def a36 : AFn := ⟨12, [.t 4], .seq (.ops [⟨(some 4), none, .mv (.c (.str []))⟩])
 (.seq (.ops [⟨(some 5), none, .mv (.t 1)⟩, ⟨(some 6), none, .mv (.t 0)⟩, ⟨(some 7), none, .mv (.t 1)⟩, ⟨(some 8), none, .len false (.t 7)⟩, ⟨(some 9), none, .call 35 [(.t 6), (.t 8)]⟩, ⟨(some 10), none, .iadr 1 (.t 5) (.t 9)⟩, ⟨(some 11), none, .load none (.t 10)⟩, ⟨(some 4), none, .mv (.t 11)⟩])
 (.ret))⟩
theorem c36 : compF Go.Proofs.Tryz.prog 36 = some a36 := by kernel_rfl
def a37 : AFn := ⟨63, [.t 6], .seq (.ops [⟨(some 6), none, .mv (.c (.str []))⟩])
 (.seq (.seq (.ops [⟨(some 9), none, .mv (.t 1)⟩, ⟨(some 10), none, .bin 1 .eql (.t 9) (.c (.str []))⟩, ⟨(some 11), none, .mv (.t 10)⟩, ⟨(some 12), (some (11, false)), .mv (.t 2)⟩, ⟨(some 13), (some (11, false)), .bin 1 .eql (.t 12) (.c (.str []))⟩, ⟨(some 14), none, .pick (.t 11) (.c (.bool true)) (.t 13)⟩])
 (.cond (.t 14) (.seq (.ops [⟨(some 15), none, .mv (.t 2)⟩, ⟨(some 6), none, .mv (.t 15)⟩])
 (.ret)) (.skip)))
 (.seq (.ops [⟨(some 16), none, .mv (.t 0)⟩, ⟨(some 17), none, .mv (.t 1)⟩, ⟨(some 18), none, .len true (.t 17)⟩, ⟨(some 19), none, .call 35 [(.t 16), (.t 18)]⟩, ⟨(some 7), none, .mv (.t 19)⟩])
 (.seq (.ops [⟨(some 20), none, .mv (.t 2)⟩, ⟨(some 21), none, .mv (.t 0)⟩, ⟨(some 22), none, .mv (.t 2)⟩, ⟨(some 23), none, .len true (.t 22)⟩, ⟨(some 24), none, .call 35 [(.t 21), (.t 23)]⟩, ⟨(some 25), none, .idxs (.t 20) (.t 24)⟩, ⟨(some 8), none, .mv (.t 25)⟩])
 (.seq (.seq (.ops [⟨(some 26), none, .mv (.t 0)⟩, ⟨(some 27), none, .call 35 [(.t 26), (.c (.int .i64 3))]⟩])
 (.block 0 (.seq (.ops [⟨(some 29), none, .bin 0 .eql (.t 27) (.c (.int .i64 0))⟩, ⟨(some 28), none, .mv (.t 29)⟩])
 (.cond (.t 28) (.seq (.any [(⟨(some 30), none, .mv (.t 1)⟩, []), (⟨(some 31), none, .mv (.t 7)⟩, [0]), (⟨(some 32), none, .sls (.t 30) none (some (.t 31))⟩, []), (⟨(some 33), none, .mv (.t 8)⟩, [0, 1, 2]), (⟨(some 34), none, .conv .i32 (.t 33)⟩, [0, 1, 2]), (⟨(some 35), none, .i2s (.t 34)⟩, [0, 1, 2]), (⟨(some 36), none, .bin 1 .add (.t 32) (.t 35)⟩, []), (⟨(some 37), none, .mv (.t 1)⟩, [0, 1, 2, 3, 4, 5, 6]), (⟨(some 38), none, .mv (.t 7)⟩, [0, 1, 2, 3, 4, 5, 6, 7]), (⟨(some 39), none, .bin 0 .add (.t 38) (.c (.int .i64 1))⟩, [0, 1, 2, 3, 4, 5, 6, 7]), (⟨(some 40), none, .sls (.t 37) (some (.t 39)) none⟩, [0, 1, 2, 3, 4, 5, 6]), (⟨(some 41), none, .bin 1 .add (.t 36) (.t 40)⟩, []), (⟨(some 6), none, .mv (.t 41)⟩, [])])
 (.ret)) (.seq (.ops [⟨(some 43), none, .bin 0 .eql (.t 27) (.c (.int .i64 1))⟩, ⟨(some 42), none, .mv (.t 43)⟩])
 (.cond (.t 42) (.seq (.any [(⟨(some 44), none, .mv (.t 1)⟩, []), (⟨(some 45), none, .mv (.t 7)⟩, [0]), (⟨(some 46), none, .sls (.t 44) none (some (.t 45))⟩, []), (⟨(some 47), none, .mv (.t 8)⟩, [0, 1, 2]), (⟨(some 48), none, .conv .i32 (.t 47)⟩, [0, 1, 2]), (⟨(some 49), none, .i2s (.t 48)⟩, [0, 1, 2]), (⟨(some 50), none, .bin 1 .add (.t 46) (.t 49)⟩, []), (⟨(some 51), none, .mv (.t 1)⟩, [0, 1, 2, 3, 4, 5, 6]), (⟨(some 52), none, .mv (.t 7)⟩, [0, 1, 2, 3, 4, 5, 6, 7]), (⟨(some 53), none, .sls (.t 51) (some (.t 52)) none⟩, [0, 1, 2, 3, 4, 5, 6]), (⟨(some 54), none, .bin 1 .add (.t 50) (.t 53)⟩, []), (⟨(some 6), none, .mv (.t 54)⟩, [])])
 (.ret)) (.skip)))))))
 (.seq (.any [(⟨(some 55), none, .mv (.t 1)⟩, []), (⟨(some 56), none, .mv (.t 7)⟩, [0]), (⟨(some 57), none, .sls (.t 55) none (some (.t 56))⟩, []), (⟨(some 58), none, .mv (.t 1)⟩, [0, 1, 2]), (⟨(some 59), none, .mv (.t 7)⟩, [0, 1, 2, 3]), (⟨(some 60), none, .bin 0 .add (.t 59) (.c (.int .i64 1))⟩, [0, 1, 2, 3]), (⟨(some 61), none, .sls (.t 58) (some (.t 60)) none⟩, [0, 1, 2]), (⟨(some 62), none, .bin 1 .add (.t 57) (.t 61)⟩, []), (⟨(some 6), none, .mv (.t 62)⟩, [])])
 (.ret))))))⟩
theorem c37 : compF Go.Proofs.Tryz.prog 37 = some a37 := by kernel_rfl
def a38 : AFn := ⟨15, [.t 6], .seq (.ops [⟨(some 6), none, .mv (.c (.bool false))⟩])
 (.seq (.ops [⟨(some 7), none, .mv (.t 1)⟩, ⟨(some 8), none, .mv (.t 0)⟩, ⟨(some 9), none, .bin 0 .leq (.t 7) (.t 8)⟩, ⟨(some 10), none, .mv (.t 9)⟩, ⟨(some 11), (some (10, true)), .mv (.t 0)⟩, ⟨(some 12), (some (10, true)), .mv (.t 2)⟩, ⟨(some 13), (some (10, true)), .bin 0 .leq (.t 11) (.t 12)⟩, ⟨(some 14), none, .pick (.t 10) (.t 13) (.c (.bool false))⟩, ⟨(some 6), none, .mv (.t 14)⟩])
 (.ret))⟩
theorem c38 : compF Go.Proofs.Tryz.prog 38 = some a38 := by kernel_rfl
def a39 : AFn := ⟨6, [.t 2], .seq (.ops [⟨(some 2), none, .mv (.c (.int .i64 0))⟩])
 (.seq (.seq (.ops [⟨(some 3), none, .mv (.t 0)⟩, ⟨(some 4), none, .call 70 [(.t 3), (.c (.str [48, 49]))]⟩, ⟨(some 5), none, .bin 1 .neq (.t 4) (.c (.str []))⟩])
 (.cond (.t 5) (.seq (.ops [⟨(some 2), none, .mv (.c (.int .i64 9))⟩])
 (.ret)) (.skip)))
 (.seq (.ops [⟨(some 2), none, .mv (.c (.int .i64 0))⟩])
 (.ret)))⟩
theorem c39 : compF Go.Proofs.Tryz.prog 39 = some a39 := by kernel_rfl
def a40 : AFn := ⟨15, [.t 2], .seq (.ops [⟨(some 2), none, .mv (.c (.int .i64 0))⟩])
 (.seq (.seq (.ops [⟨(some 5), none, .mv (.t 0)⟩, ⟨(some 6), none, .len false (.t 5)⟩, ⟨(some 7), none, .mv (.c (.int .i64 0))⟩])
 (.block 0 (.loop (.seq (.ops [⟨(some 8), none, .bin 0 .lss (.t 7) (.t 6)⟩])
 (.seq (.cond (.t 8) (.skip) (.exit 0))
 (.seq (.block 1 (.seq (.ops [⟨(some 9), none, .iadr 1 (.t 5) (.t 7)⟩, ⟨(some 10), none, .load none (.t 9)⟩, ⟨(some 4), none, .mv (.t 10)⟩])
 (.seq (.ops [⟨(some 11), none, .mv (.t 4)⟩, ⟨(some 12), none, .bin 0 .neq (.t 11) (.c (.int .i64 0))⟩])
 (.cond (.t 12) (.seq (.ops [⟨(some 13), none, .mv (.t 4)⟩, ⟨(some 2), none, .mv (.t 13)⟩])
 (.ret)) (.skip)))))
 (.ops [⟨(some 14), none, .bin 0 .add (.t 7) (.c (.int .i64 1))⟩, ⟨(some 7), none, .mv (.t 14)⟩])))))))
 (.seq (.ops [⟨(some 2), none, .mv (.c (.int .i64 0))⟩])
 (.ret)))⟩
theorem c40 : compF Go.Proofs.Tryz.prog 40 = some a40 := by kernel_rfl
def a41 : AFn := ⟨30, [.t 4], .seq (.ops [⟨(some 4), none, .mv (.c (.int .i64 0))⟩])
 (.seq (.block 0 (.seq (.ops [⟨(some 8), none, .mv (.t 0)⟩, ⟨(some 9), none, .call 71 [(.t 8), (.c (.int .i64 1)), (.c (.int .i64 100))]⟩, ⟨(some 7), none, .mv (.t 9)⟩])
 (.cond (.t 7) (.seq (.ops [⟨(some 4), none, .mv (.c (.int .i64 1))⟩])
 (.ret)) (.seq (.ops [⟨(some 11), none, .mv (.t 1)⟩, ⟨(some 12), none, .len false (.t 11)⟩, ⟨(some 13), none, .bin 0 .gtr (.t 12) (.c (.int .i64 200))⟩, ⟨(some 10), none, .mv (.t 13)⟩])
 (.cond (.t 10) (.seq (.ops [⟨(some 4), none, .mv (.c (.int .i64 2))⟩])
 (.ret)) (.skip))))))
 (.seq (.seq (.ops [⟨(some 14), none, .mv (.t 1)⟩, ⟨(some 15), none, .len false (.t 14)⟩, ⟨(some 16), none, .mv (.c (.int .i64 0))⟩])
 (.block 1 (.loop (.seq (.ops [⟨(some 17), none, .bin 0 .lss (.t 16) (.t 15)⟩])
 (.seq (.cond (.t 17) (.skip) (.exit 1))
 (.seq (.block 2 (.seq (.ops [⟨(some 18), none, .iadr 1 (.t 14) (.t 16)⟩, ⟨(some 19), none, .load none (.t 18)⟩, ⟨(some 6), none, .mv (.t 19)⟩])
 (.block 3 (.seq (.ops [⟨(some 21), none, .mv (.t 6)⟩, ⟨(some 22), none, .len true (.t 21)⟩, ⟨(some 23), none, .mv (.t 0)⟩, ⟨(some 24), none, .bin 0 .neq (.t 22) (.t 23)⟩, ⟨(some 20), none, .mv (.t 24)⟩])
 (.cond (.t 20) (.seq (.ops [⟨(some 4), none, .mv (.c (.int .i64 3))⟩])
 (.ret)) (.seq (.ops [⟨(some 26), none, .mv (.t 6)⟩, ⟨(some 27), none, .call 72 [(.t 26)]⟩, ⟨(some 28), none, .un .not (.t 27)⟩, ⟨(some 25), none, .mv (.t 28)⟩])
 (.cond (.t 25) (.seq (.ops [⟨(some 4), none, .mv (.c (.int .i64 9))⟩])
 (.ret)) (.skip))))))))
 (.ops [⟨(some 29), none, .bin 0 .add (.t 16) (.c (.int .i64 1))⟩, ⟨(some 16), none, .mv (.t 29)⟩])))))))
 (.seq (.ops [⟨(some 4), none, .mv (.c (.int .i64 0))⟩])
 (.ret))))⟩
theorem c41 : compF Go.Proofs.Tryz.prog 41 = some a41 := by kernel_rfl
def a42 : AFn := ⟨5, [.t 2], .seq (.ops [⟨(some 2), none, .mv (.c (.int .i64 0))⟩])
 (.seq (.seq (.ops [⟨(some 3), none, .mv (.t 0)⟩, ⟨(some 4), none, .call 71 [(.t 3), (.c (.int .i64 1)), (.c (.int .i64 3))]⟩])
 (.cond (.t 4) (.seq (.ops [⟨(some 2), none, .mv (.c (.int .i64 4))⟩])
 (.ret)) (.skip)))
 (.seq (.ops [⟨(some 2), none, .mv (.c (.int .i64 0))⟩])
 (.ret)))⟩
theorem c42 : compF Go.Proofs.Tryz.prog 42 = some a42 := by kernel_rfl
def a43 : AFn := ⟨38, [.t 4], .seq (.ops [⟨(some 4), none, .mv (.c (.lit true 0 []))⟩])
 (.seq (.ops [⟨(some 5), none, .mv (.c (.lit true 0 []))⟩])
 (.seq (.seq (.ops [⟨(some 10), none, .mv (.t 1)⟩, ⟨(some 11), none, .mv (.c (.int .i64 0))⟩])
 (.block 0 (.loop (.seq (.ops [⟨(some 12), none, .bin 0 .lss (.t 11) (.t 10)⟩])
 (.seq (.cond (.t 12) (.skip) (.exit 0))
 (.seq (.block 1 (.seq (.ops [⟨(some 13), none, .mv (.t 11)⟩, ⟨(some 6), none, .mv (.t 13)⟩])
 (.seq (.ops [⟨(some 14), none, .mv (.t 0)⟩, ⟨(some 15), none, .len false (.t 14)⟩, ⟨(some 16), none, .mks 5 1 1 [(.int .u8 0)] (.t 15)⟩, ⟨(some 7), none, .mv (.t 16)⟩])
 (.seq (.seq (.ops [⟨(some 17), none, .mv (.t 0)⟩, ⟨(some 18), none, .len false (.t 17)⟩, ⟨(some 19), none, .mv (.c (.int .i64 0))⟩])
 (.block 2 (.loop (.seq (.ops [⟨(some 20), none, .bin 0 .lss (.t 19) (.t 18)⟩])
 (.seq (.cond (.t 20) (.skip) (.exit 2))
 (.seq (.block 3 (.seq (.ops [⟨(some 21), none, .mv (.t 19)⟩, ⟨(some 22), none, .iadr 1 (.t 17) (.t 19)⟩, ⟨(some 23), none, .load none (.t 22)⟩, ⟨(some 8), none, .mv (.t 21)⟩, ⟨(some 9), none, .mv (.t 23)⟩])
 (.ops [⟨(some 24), none, .mv (.t 7)⟩, ⟨(some 25), none, .mv (.t 8)⟩, ⟨(some 26), none, .mv (.t 9)⟩, ⟨(some 27), none, .mv (.t 6)⟩, ⟨(some 28), none, .idxs (.t 26) (.t 27)⟩, ⟨(some 29), none, .iadr 1 (.t 24) (.t 25)⟩, ⟨none, none, .store 1 (.t 29) (.t 28)⟩])))
 (.ops [⟨(some 30), none, .bin 0 .add (.t 19) (.c (.int .i64 1))⟩, ⟨(some 19), none, .mv (.t 30)⟩])))))))
 (.ops [⟨(some 31), none, .mv (.t 5)⟩, ⟨(some 32), none, .mv (.t 7)⟩, ⟨(some 33), none, .b2s (.t 32)⟩, ⟨(some 34), none, .bslice 9 1 1 [(.str [])] [(0, 1, (.t 33))]⟩, ⟨(some 35), none, .app 9 1 16 (.t 31) (.t 34)⟩, ⟨(some 5), none, .mv (.t 35)⟩])))))
 (.ops [⟨(some 36), none, .bin 0 .add (.t 11) (.c (.int .i64 1))⟩, ⟨(some 11), none, .mv (.t 36)⟩])))))))
 (.seq (.ops [⟨(some 37), none, .mv (.t 5)⟩, ⟨(some 4), none, .mv (.t 37)⟩])
 (.ret))))⟩
theorem c43 : compF Go.Proofs.Tryz.prog 43 = some a43 := by kernel_rfl
def a44 : AFn := ⟨31, [.t 2], .seq (.ops [⟨(some 2), none, .mv (.c (.bool false))⟩])
 (.seq (.seq (.ops [⟨(some 7), none, .mv (.t 0)⟩, ⟨(some 8), none, .len false (.t 7)⟩, ⟨(some 9), none, .mv (.c (.int .i64 0))⟩])
 (.block 0 (.loop (.seq (.ops [⟨(some 10), none, .bin 0 .lss (.t 9) (.t 8)⟩])
 (.seq (.cond (.t 10) (.skip) (.exit 0))
 (.seq (.block 1 (.seq (.ops [⟨(some 11), none, .mv (.t 9)⟩, ⟨(some 12), none, .iadr 1 (.t 7) (.t 9)⟩, ⟨(some 13), none, .load none (.t 12)⟩, ⟨(some 3), none, .mv (.t 11)⟩, ⟨(some 4), none, .mv (.t 13)⟩])
 (.seq (.ops [⟨(some 14), none, .mv (.t 0)⟩, ⟨(some 15), none, .len false (.t 14)⟩, ⟨(some 16), none, .mv (.c (.int .i64 0))⟩])
 (.block 2 (.loop (.seq (.ops [⟨(some 17), none, .bin 0 .lss (.t 16) (.t 15)⟩])
 (.seq (.cond (.t 17) (.skip) (.exit 2))
 (.seq (.block 3 (.seq (.ops [⟨(some 18), none, .mv (.t 16)⟩, ⟨(some 19), none, .iadr 1 (.t 14) (.t 16)⟩, ⟨(some 20), none, .load none (.t 19)⟩, ⟨(some 5), none, .mv (.t 18)⟩, ⟨(some 6), none, .mv (.t 20)⟩])
 (.seq (.ops [⟨(some 21), none, .mv (.t 3)⟩, ⟨(some 22), none, .mv (.t 5)⟩, ⟨(some 23), none, .bin 0 .neq (.t 21) (.t 22)⟩, ⟨(some 24), none, .mv (.t 23)⟩, ⟨(some 25), (some (24, true)), .mv (.t 4)⟩, ⟨(some 26), (some (24, true)), .mv (.t 6)⟩, ⟨(some 27), (some (24, true)), .call 73 [(.t 25), (.t 26)]⟩, ⟨(some 28), none, .pick (.t 24) (.t 27) (.c (.bool false))⟩])
 (.cond (.t 28) (.seq (.ops [⟨(some 2), none, .mv (.c (.bool false))⟩])
 (.ret)) (.skip)))))
 (.ops [⟨(some 29), none, .bin 0 .add (.t 16) (.c (.int .i64 1))⟩, ⟨(some 16), none, .mv (.t 29)⟩])))))))))
 (.ops [⟨(some 30), none, .bin 0 .add (.t 9) (.c (.int .i64 1))⟩, ⟨(some 9), none, .mv (.t 30)⟩])))))))
 (.seq (.ops [⟨(some 2), none, .mv (.c (.bool true))⟩])
 (.ret)))⟩
theorem c44 : compF Go.Proofs.Tryz.prog 44 = some a44 := by kernel_rfl
def a45 : AFn := ⟨14, [.t 2], .seq (.ops [⟨(some 2), none, .mv (.c (.bool false))⟩])
 (.seq (.ops [⟨(some 4), none, .mv (.t 0)⟩, ⟨(some 5), none, .call 74 [(.t 4)]⟩, ⟨(some 3), none, .mv (.t 5)⟩])
 (.seq (.ops [⟨(some 6), none, .mv (.t 3)⟩, ⟨(some 7), none, .call 75 [(.t 6)]⟩])
 (.seq (.ops [⟨(some 8), none, .mv (.t 3)⟩, ⟨(some 9), none, .call 76 [(.t 8)]⟩, ⟨(some 10), none, .len false (.t 9)⟩, ⟨(some 11), none, .mv (.t 0)⟩, ⟨(some 12), none, .len false (.t 11)⟩, ⟨(some 13), none, .bin 0 .eql (.t 10) (.t 12)⟩, ⟨(some 2), none, .mv (.t 13)⟩])
 (.ret))))⟩
theorem c45 : compF Go.Proofs.Tryz.prog 45 = some a45 := by kernel_rfl
def a46 : AFn := ⟨9, [.t 4], .seq (.ops [⟨(some 4), none, .mv (.c (.bool false))⟩])
 (.seq (.ops [⟨(some 5), none, .mv (.t 0)⟩, ⟨(some 6), none, .mv (.t 1)⟩, ⟨(some 7), none, .call 77 [(.t 5), (.t 6)]⟩, ⟨(some 8), none, .bin 0 .geq (.t 7) (.c (.int .i64 0))⟩, ⟨(some 4), none, .mv (.t 8)⟩])
 (.ret))⟩
theorem c46 : compF Go.Proofs.Tryz.prog 46 = some a46 := by kernel_rfl
def a47 : AFn := ⟨6, [.t 2], .seq (.ops [⟨(some 2), none, .mv (.c (.bool false))⟩])
 (.seq (.ops [⟨(some 3), none, .mv (.t 0)⟩, ⟨(some 4), none, .call 48 [(.t 3)]⟩, ⟨(some 5), none, .un .not (.t 4)⟩, ⟨(some 2), none, .mv (.t 5)⟩])
 (.ret))⟩
theorem c47 : compF Go.Proofs.Tryz.prog 47 = some a47 := by kernel_rfl
def a48 : AFn := ⟨9, [.t 2], .seq (.ops [⟨(some 2), none, .mv (.c (.bool false))⟩])
 (.seq (.ops [⟨(some 3), none, .mv (.t 0)⟩, ⟨(some 4), none, .call 55 [(.t 3), (.c (.str [48]))]⟩, ⟨(some 5), none, .mv (.t 4)⟩, ⟨(some 6), (some (5, true)), .mv (.t 0)⟩, ⟨(some 7), (some (5, true)), .call 55 [(.t 6), (.c (.str [49]))]⟩, ⟨(some 8), none, .pick (.t 5) (.t 7) (.c (.bool false))⟩, ⟨(some 2), none, .mv (.t 8)⟩])
 (.ret))⟩
theorem c48 : compF Go.Proofs.Tryz.prog 48 = some a48 := by kernel_rfl
def a50 : AFn := ⟨28, [.t 4], .seq (.ops [⟨(some 4), none, .mv (.c (.str []))⟩])
 (.seq (.ops [⟨(some 7), none, .mv (.t 0)⟩, ⟨(some 8), none, .s2bo (.t 7)⟩, ⟨(some 5), none, .mv (.t 8)⟩])
 (.seq (.seq (.ops [⟨(some 9), none, .mv (.t 5)⟩, ⟨(some 10), none, .len false (.t 9)⟩, ⟨(some 11), none, .mv (.c (.int .i64 0))⟩])
 (.block 0 (.loop (.seq (.ops [⟨(some 12), none, .bin 0 .lss (.t 11) (.t 10)⟩])
 (.seq (.cond (.t 12) (.skip) (.exit 0))
 (.seq (.block 1 (.seq (.ops [⟨(some 13), none, .mv (.t 11)⟩, ⟨(some 6), none, .mv (.t 13)⟩])
 (.any [(⟨(some 14), none, .mv (.t 5)⟩, []), (⟨(some 15), none, .mv (.t 6)⟩, [0]), (⟨(some 16), none, .mv (.t 5)⟩, [0, 1]), (⟨(some 17), none, .mv (.t 6)⟩, [0, 1, 2]), (⟨(some 18), none, .iadr 1 (.t 16) (.t 17)⟩, [0, 1]), (⟨(some 19), none, .load none (.t 18)⟩, [0, 1]), (⟨(some 20), none, .mv (.t 1)⟩, [0, 1, 2, 3, 4, 5]), (⟨(some 21), none, .mv (.t 6)⟩, [0, 1, 2, 3, 4, 5, 6]), (⟨(some 22), none, .idxs (.t 20) (.t 21)⟩, [0, 1, 2, 3, 4, 5]), (⟨(some 23), none, .mm false (.t 19) [(.t 22)]⟩, [0, 1]), (⟨(some 24), none, .iadr 1 (.t 14) (.t 15)⟩, []), (⟨none, none, .store 1 (.t 24) (.t 23)⟩, [])])))
 (.ops [⟨(some 25), none, .bin 0 .add (.t 11) (.c (.int .i64 1))⟩, ⟨(some 11), none, .mv (.t 25)⟩])))))))
 (.seq (.ops [⟨(some 26), none, .mv (.t 5)⟩, ⟨(some 27), none, .b2s (.t 26)⟩, ⟨(some 4), none, .mv (.t 27)⟩])
 (.ret))))⟩
theorem c50 : compF Go.Proofs.Tryz.prog 50 = some a50 := by kernel_rfl
def a51 : AFn := ⟨23, [.t 4], .seq (.ops [⟨(some 4), none, .mv (.c (.int .i64 0))⟩])
 (.seq (.ops [⟨(some 5), none, .mv (.c (.int .i64 0))⟩])
 (.seq (.seq (.ops [⟨(some 7), none, .mv (.t 0)⟩, ⟨(some 8), none, .len true (.t 7)⟩, ⟨(some 9), none, .mv (.c (.int .i64 0))⟩])
 (.block 0 (.loop (.seq (.ops [⟨(some 10), none, .bin 0 .lss (.t 9) (.t 8)⟩])
 (.seq (.cond (.t 10) (.skip) (.exit 0))
 (.seq (.block 1 (.seq (.ops [⟨(some 11), none, .mv (.t 9)⟩, ⟨(some 6), none, .mv (.t 11)⟩])
 (.seq (.any [(⟨(some 12), none, .mv (.t 0)⟩, []), (⟨(some 13), none, .mv (.t 6)⟩, [0]), (⟨(some 14), none, .idxs (.t 12) (.t 13)⟩, []), (⟨(some 15), none, .mv (.t 1)⟩, [0, 1, 2]), (⟨(some 16), none, .mv (.t 6)⟩, [0, 1, 2, 3]), (⟨(some 17), none, .idxs (.t 15) (.t 16)⟩, [0, 1, 2]), (⟨(some 18), none, .bin 0 .neq (.t 14) (.t 17)⟩, [])])
 (.cond (.t 18) (.ops [⟨(some 19), none, .mv (.t 5)⟩, ⟨(some 20), none, .bin 0 .add (.t 19) (.c (.int .i64 1))⟩, ⟨(some 5), none, .mv (.t 20)⟩]) (.skip)))))
 (.ops [⟨(some 21), none, .bin 0 .add (.t 9) (.c (.int .i64 1))⟩, ⟨(some 9), none, .mv (.t 21)⟩])))))))
 (.seq (.ops [⟨(some 22), none, .mv (.t 5)⟩, ⟨(some 4), none, .mv (.t 22)⟩])
 (.ret))))⟩
theorem c51 : compF Go.Proofs.Tryz.prog 51 = some a51 := by kernel_rfl
def a52 : AFn := ⟨35, [.t 4], .seq (.ops [⟨(some 4), none, .mv (.c (.lit true 0 []))⟩])
 (.seq (.ops [⟨(some 9), none, .mv (.t 0)⟩, ⟨(some 10), none, .mks 9 1 16 [(.str [])] (.t 9)⟩, ⟨(some 5), none, .mv (.t 10)⟩])
 (.seq (.seq (.ops [⟨(some 11), none, .mv (.t 1)⟩, ⟨(some 12), none, .len false (.t 11)⟩, ⟨(some 13), none, .mv (.c (.int .i64 0))⟩])
 (.block 0 (.loop (.seq (.ops [⟨(some 14), none, .bin 0 .lss (.t 13) (.t 12)⟩])
 (.seq (.cond (.t 14) (.skip) (.exit 0))
 (.seq (.block 1 (.seq (.ops [⟨(some 15), none, .iadr 1 (.t 11) (.t 13)⟩, ⟨(some 16), none, .load none (.t 15)⟩, ⟨(some 7), none, .mv (.t 16)⟩])
 (.seq (.ops [⟨(some 17), none, .mv (.t 0)⟩, ⟨(some 18), none, .mv (.c (.int .i64 0))⟩])
 (.block 2 (.loop (.seq (.ops [⟨(some 19), none, .bin 0 .lss (.t 18) (.t 17)⟩])
 (.seq (.cond (.t 19) (.skip) (.exit 2))
 (.seq (.block 3 (.seq (.ops [⟨(some 20), none, .mv (.t 18)⟩, ⟨(some 8), none, .mv (.t 20)⟩])
 (.any [(⟨(some 21), none, .mv (.t 5)⟩, []), (⟨(some 22), none, .mv (.t 8)⟩, [0]), (⟨(some 23), none, .iadr 1 (.t 21) (.t 22)⟩, []), (⟨(some 24), none, .load none (.t 23)⟩, []), (⟨(some 25), none, .mv (.t 7)⟩, [0, 1, 2, 3]), (⟨(some 26), none, .mv (.t 8)⟩, [0, 1, 2, 3, 4]), (⟨(some 27), none, .mv (.t 8)⟩, [0, 1, 2, 3, 4, 5]), (⟨(some 28), none, .bin 0 .add (.t 27) (.c (.int .i64 1))⟩, [0, 1, 2, 3, 4, 5]), (⟨(some 29), none, .sls (.t 25) (some (.t 26)) (some (.t 28))⟩, [0, 1, 2, 3]), (⟨(some 30), none, .bin 1 .add (.t 24) (.t 29)⟩, []), (⟨(some 31), none, .iadr 1 (.t 21) (.t 22)⟩, []), (⟨none, none, .store 1 (.t 31) (.t 30)⟩, [])])))
 (.ops [⟨(some 32), none, .bin 0 .add (.t 18) (.c (.int .i64 1))⟩, ⟨(some 18), none, .mv (.t 32)⟩])))))))))
 (.ops [⟨(some 33), none, .bin 0 .add (.t 13) (.c (.int .i64 1))⟩, ⟨(some 13), none, .mv (.t 33)⟩])))))))
 (.seq (.ops [⟨(some 34), none, .mv (.t 5)⟩, ⟨(some 4), none, .mv (.t 34)⟩])
 (.ret))))⟩
theorem c52 : compF Go.Proofs.Tryz.prog 52 = some a52 := by kernel_rfl
def a53 : AFn := ⟨22, [.t 4], .seq (.ops [⟨(some 4), none, .mv (.c (.bool false))⟩])
 (.seq (.seq (.ops [⟨(some 6), none, .mv (.t 0)⟩, ⟨(some 7), none, .len true (.t 6)⟩, ⟨(some 8), none, .mv (.c (.int .i64 0))⟩])
 (.block 0 (.loop (.seq (.ops [⟨(some 9), none, .bin 0 .lss (.t 8) (.t 7)⟩])
 (.seq (.cond (.t 9) (.skip) (.exit 0))
 (.seq (.block 1 (.seq (.ops [⟨(some 10), none, .mv (.t 8)⟩, ⟨(some 5), none, .mv (.t 10)⟩])
 (.seq (.ops [⟨(some 11), none, .mv (.t 0)⟩, ⟨(some 12), none, .mv (.t 5)⟩, ⟨(some 13), none, .idxs (.t 11) (.t 12)⟩, ⟨(some 14), none, .bin 0 .eql (.t 13) (.c (.int .u8 49))⟩, ⟨(some 15), none, .mv (.t 14)⟩, ⟨(some 16), (some (15, true)), .mv (.t 1)⟩, ⟨(some 17), (some (15, true)), .mv (.t 5)⟩, ⟨(some 18), (some (15, true)), .idxs (.t 16) (.t 17)⟩, ⟨(some 19), (some (15, true)), .bin 0 .eql (.t 18) (.c (.int .u8 48))⟩, ⟨(some 20), none, .pick (.t 15) (.t 19) (.c (.bool false))⟩])
 (.cond (.t 20) (.seq (.ops [⟨(some 4), none, .mv (.c (.bool false))⟩])
 (.ret)) (.skip)))))
 (.ops [⟨(some 21), none, .bin 0 .add (.t 8) (.c (.int .i64 1))⟩, ⟨(some 8), none, .mv (.t 21)⟩])))))))
 (.seq (.ops [⟨(some 4), none, .mv (.c (.bool true))⟩])
 (.ret)))⟩
theorem c53 : compF Go.Proofs.Tryz.prog 53 = some a53 := by kernel_rfl
def a54 : AFn := ⟨26, [.t 4], .seq (.ops [⟨(some 4), none, .mv (.c (.bool false))⟩])
 (.seq (.seq (.ops [⟨(some 6), none, .mv (.t 0)⟩, ⟨(some 7), none, .len false (.t 6)⟩, ⟨(some 8), none, .mv (.t 1)⟩, ⟨(some 9), none, .len false (.t 8)⟩, ⟨(some 10), none, .bin 0 .neq (.t 7) (.t 9)⟩])
 (.cond (.t 10) (.seq (.ops [⟨(some 4), none, .mv (.c (.bool false))⟩])
 (.ret)) (.skip)))
 (.seq (.seq (.ops [⟨(some 11), none, .mv (.t 0)⟩, ⟨(some 12), none, .len false (.t 11)⟩, ⟨(some 13), none, .mv (.c (.int .i64 0))⟩])
 (.block 0 (.loop (.seq (.ops [⟨(some 14), none, .bin 0 .lss (.t 13) (.t 12)⟩])
 (.seq (.cond (.t 14) (.skip) (.exit 0))
 (.seq (.block 1 (.seq (.ops [⟨(some 15), none, .mv (.t 13)⟩, ⟨(some 5), none, .mv (.t 15)⟩])
 (.seq (.any [(⟨(some 16), none, .mv (.t 0)⟩, []), (⟨(some 17), none, .mv (.t 5)⟩, [0]), (⟨(some 18), none, .iadr 1 (.t 16) (.t 17)⟩, []), (⟨(some 19), none, .load none (.t 18)⟩, []), (⟨(some 20), none, .mv (.t 1)⟩, [0, 1, 2, 3]), (⟨(some 21), none, .mv (.t 5)⟩, [0, 1, 2, 3, 4]), (⟨(some 22), none, .iadr 1 (.t 20) (.t 21)⟩, [0, 1, 2, 3]), (⟨(some 23), none, .load none (.t 22)⟩, [0, 1, 2, 3]), (⟨(some 24), none, .bin 1 .neq (.t 19) (.t 23)⟩, [])])
 (.cond (.t 24) (.seq (.ops [⟨(some 4), none, .mv (.c (.bool false))⟩])
 (.ret)) (.skip)))))
 (.ops [⟨(some 25), none, .bin 0 .add (.t 13) (.c (.int .i64 1))⟩, ⟨(some 13), none, .mv (.t 25)⟩])))))))
 (.seq (.ops [⟨(some 4), none, .mv (.c (.bool true))⟩])
 (.ret))))⟩
theorem c54 : compF Go.Proofs.Tryz.prog 54 = some a54 := by kernel_rfl
def a56 : AFn := ⟨9, [.t 4], .seq (.ops [⟨(some 4), none, .mv (.c (.bool false))⟩])
 (.seq (.ops [⟨(some 5), none, .mv (.t 0)⟩, ⟨(some 6), none, .mv (.t 1)⟩, ⟨(some 7), none, .call 79 [(.t 5), (.t 6)]⟩, ⟨(some 8), none, .bin 0 .geq (.t 7) (.c (.int .i64 0))⟩, ⟨(some 4), none, .mv (.t 8)⟩])
 (.ret))⟩
theorem c56 : compF Go.Proofs.Tryz.prog 56 = some a56 := by kernel_rfl
def a57 : AFn := ⟨24, [.t 4], .seq (.ops [⟨(some 4), none, .mv (.c (.str []))⟩])
 (.seq (.ops [⟨(some 7), none, .mv (.t 0)⟩, ⟨(some 8), none, .s2bo (.t 7)⟩, ⟨(some 5), none, .mv (.t 8)⟩])
 (.seq (.seq (.ops [⟨(some 9), none, .mv (.t 5)⟩, ⟨(some 10), none, .len false (.t 9)⟩, ⟨(some 11), none, .mv (.c (.int .i64 0))⟩])
 (.block 0 (.loop (.seq (.ops [⟨(some 12), none, .bin 0 .lss (.t 11) (.t 10)⟩])
 (.seq (.cond (.t 12) (.skip) (.exit 0))
 (.seq (.block 1 (.seq (.ops [⟨(some 13), none, .mv (.t 11)⟩, ⟨(some 6), none, .mv (.t 13)⟩])
 (.seq (.ops [⟨(some 14), none, .mv (.t 1)⟩, ⟨(some 15), none, .mv (.t 6)⟩, ⟨(some 16), none, .idxs (.t 14) (.t 15)⟩, ⟨(some 17), none, .bin 0 .eql (.t 16) (.c (.int .u8 48))⟩])
 (.cond (.t 17) (.ops [⟨(some 18), none, .mv (.t 5)⟩, ⟨(some 19), none, .mv (.t 6)⟩, ⟨(some 20), none, .iadr 1 (.t 18) (.t 19)⟩, ⟨none, none, .store 1 (.t 20) (.c (.int .u8 48))⟩]) (.skip)))))
 (.ops [⟨(some 21), none, .bin 0 .add (.t 11) (.c (.int .i64 1))⟩, ⟨(some 11), none, .mv (.t 21)⟩])))))))
 (.seq (.ops [⟨(some 22), none, .mv (.t 5)⟩, ⟨(some 23), none, .b2s (.t 22)⟩, ⟨(some 4), none, .mv (.t 23)⟩])
 (.ret))))⟩
theorem c57 : compF Go.Proofs.Tryz.prog 57 = some a57 := by kernel_rfl
def a58 : AFn := ⟨24, [.t 4], .seq (.ops [⟨(some 4), none, .mv (.c (.int .i64 0))⟩])
 (.seq (.ops [⟨(some 5), none, .mv (.c (.int .i64 0))⟩])
 (.seq (.seq (.ops [⟨(some 7), none, .mv (.t 0)⟩, ⟨(some 8), none, .len true (.t 7)⟩, ⟨(some 9), none, .mv (.c (.int .i64 0))⟩])
 (.block 0 (.loop (.seq (.ops [⟨(some 10), none, .bin 0 .lss (.t 9) (.t 8)⟩])
 (.seq (.cond (.t 10) (.skip) (.exit 0))
 (.seq (.block 1 (.seq (.ops [⟨(some 11), none, .mv (.t 9)⟩, ⟨(some 6), none, .mv (.t 11)⟩])
 (.any [(⟨(some 12), none, .mv (.t 5)⟩, []), (⟨(some 13), none, .mv (.t 0)⟩, [0]), (⟨(some 14), none, .mv (.t 6)⟩, [0, 1]), (⟨(some 15), none, .idxs (.t 13) (.t 14)⟩, [0]), (⟨(some 16), none, .mv (.t 1)⟩, [0, 1, 2, 3]), (⟨(some 17), none, .mv (.t 6)⟩, [0, 1, 2, 3, 4]), (⟨(some 18), none, .idxs (.t 16) (.t 17)⟩, [0, 1, 2, 3]), (⟨(some 19), none, .bin 0 .neq (.t 15) (.t 18)⟩, [0]), (⟨(some 20), none, .call 80 [(.t 19)]⟩, [0]), (⟨(some 21), none, .bin 0 .add (.t 12) (.t 20)⟩, []), (⟨(some 5), none, .mv (.t 21)⟩, [])])))
 (.ops [⟨(some 22), none, .bin 0 .add (.t 9) (.c (.int .i64 1))⟩, ⟨(some 9), none, .mv (.t 22)⟩])))))))
 (.seq (.ops [⟨(some 23), none, .mv (.t 5)⟩, ⟨(some 4), none, .mv (.t 23)⟩])
 (.ret))))⟩
theorem c58 : compF Go.Proofs.Tryz.prog 58 = some a58 := by kernel_rfl
def a59 : AFn := ⟨5, [.t 2], .seq (.ops [⟨(some 2), none, .mv (.c (.int .i64 0))⟩])
 (.seq (.seq (.ops [⟨(some 3), none, .mv (.t 0)⟩, ⟨(some 4), none, .call 71 [(.t 3), (.c (.int .i64 1)), (.c (.int .i64 100))]⟩])
 (.cond (.t 4) (.seq (.ops [⟨(some 2), none, .mv (.c (.int .i64 1))⟩])
 (.ret)) (.skip)))
 (.seq (.ops [⟨(some 2), none, .mv (.c (.int .i64 0))⟩])
 (.ret)))⟩
theorem c59 : compF Go.Proofs.Tryz.prog 59 = some a59 := by kernel_rfl
def a63 : AFn := ⟨12, [.t 4], .seq (.ops [⟨(some 4), none, .mv (.c (.int .i64 0))⟩])
 (.seq (.block 0 (.loop (.seq (.seq (.ops [⟨(some 5), none, .mv (.t 1)⟩, ⟨(some 6), none, .mv (.t 0)⟩, ⟨(some 7), none, .callv (.t 5) [(.t 6)]⟩, ⟨(some 8), none, .un .not (.t 7)⟩])
 (.cond (.t 8) (.skip) (.exit 0)))
 (.block 1 (.ops [⟨(some 9), none, .mv (.t 0)⟩, ⟨(some 10), none, .bin 0 .add (.t 9) (.c (.int .i64 1))⟩, ⟨(some 0), none, .mv (.t 10)⟩])))))
 (.seq (.ops [⟨(some 11), none, .mv (.t 0)⟩, ⟨(some 4), none, .mv (.t 11)⟩])
 (.ret)))⟩
theorem c63 : compF Go.Proofs.Tryz.prog 63 = some a63 := by kernel_rfl
def a64 : AFn := ⟨9, [.t 3], .seq (.ops [⟨(some 3), none, .mv (.c (.bool false))⟩])
 (.seq (.any [(⟨(some 4), none, .mv (.t 0)⟩, []), (⟨(some 5), none, .bin 0 .shl (.c (.int .i64 1)) (.t 4)⟩, []), (⟨(some 6), none, .bin 0 .sub (.t 5) (.c (.int .i64 2))⟩, []), (⟨(some 7), none, .load none (.t 1)⟩, [0, 1, 2]), (⟨(some 8), none, .bin 0 .geq (.t 6) (.t 7)⟩, []), (⟨(some 3), none, .mv (.t 8)⟩, [])])
 (.ret))⟩
theorem c64 : compF Go.Proofs.Tryz.prog 64 = some a64 := by kernel_rfl
def a65 : AFn := ⟨24, [.t 4], .seq (.ops [⟨(some 4), none, .mv (.c (.str []))⟩])
 (.seq (.ops [⟨(some 5), none, .mv (.c (.lit true 0 []))⟩])
 (.seq (.seq (.ops [⟨(some 7), none, .mv (.t 1)⟩, ⟨(some 8), none, .bin 0 .sub (.t 7) (.c (.int .i64 1))⟩, ⟨(some 6), none, .mv (.t 8)⟩])
 (.block 0 (.loop (.seq (.seq (.ops [⟨(some 9), none, .mv (.t 6)⟩, ⟨(some 10), none, .bin 0 .geq (.t 9) (.c (.int .i64 0))⟩])
 (.cond (.t 10) (.skip) (.exit 0)))
 (.seq (.block 1 (.ops [⟨(some 13), none, .mv (.t 5)⟩, ⟨(some 14), none, .mv (.t 0)⟩, ⟨(some 15), none, .mv (.t 6)⟩, ⟨(some 16), none, .bin 0 .shr (.t 14) (.t 15)⟩, ⟨(some 17), none, .bin 0 .and (.t 16) (.c (.int .i64 1))⟩, ⟨(some 18), none, .bin 0 .add (.c (.int .i64 48)) (.t 17)⟩, ⟨(some 19), none, .conv .u8 (.t 18)⟩, ⟨(some 20), none, .bslice 5 1 1 [(.int .u8 0)] [(0, 1, (.t 19))]⟩, ⟨(some 21), none, .app 5 1 1 (.t 13) (.t 20)⟩, ⟨(some 5), none, .mv (.t 21)⟩]))
 (.ops [⟨(some 11), none, .mv (.t 6)⟩, ⟨(some 12), none, .bin 0 .sub (.t 11) (.c (.int .i64 1))⟩, ⟨(some 6), none, .mv (.t 12)⟩]))))))
 (.seq (.ops [⟨(some 22), none, .mv (.t 5)⟩, ⟨(some 23), none, .b2s (.t 22)⟩, ⟨(some 4), none, .mv (.t 23)⟩])
 (.ret))))⟩
theorem c65 : compF Go.Proofs.Tryz.prog 65 = some a65 := by kernel_rfl
def a69 : AFn := ⟨16, [.t 4], .seq (.ops [⟨(some 4), none, .mv (.c (.int .i64 0))⟩])
 (.seq (.seq (.ops [⟨(some 5), none, .mv (.t 1)⟩, ⟨(some 6), none, .bin 0 .lss (.t 5) (.c (.int .i64 1))⟩])
 (.cond (.t 6) (.seq (.ops [⟨(some 4), none, .mv (.c (.int .i64 0))⟩])
 (.ret)) (.skip)))
 (.seq (.ops [⟨(some 7), none, .mv (.t 0)⟩, ⟨(some 8), none, .mv (.t 1)⟩, ⟨(some 9), none, .bin 0 .rem (.t 7) (.t 8)⟩, ⟨(some 0), none, .mv (.t 9)⟩])
 (.seq (.seq (.ops [⟨(some 10), none, .mv (.t 0)⟩, ⟨(some 11), none, .bin 0 .lss (.t 10) (.c (.int .i64 0))⟩])
 (.cond (.t 11) (.ops [⟨(some 12), none, .mv (.t 0)⟩, ⟨(some 13), none, .mv (.t 1)⟩, ⟨(some 14), none, .bin 0 .add (.t 12) (.t 13)⟩, ⟨(some 0), none, .mv (.t 14)⟩]) (.skip)))
 (.seq (.ops [⟨(some 15), none, .mv (.t 0)⟩, ⟨(some 4), none, .mv (.t 15)⟩])
 (.ret)))))⟩
theorem c69 : compF Go.Proofs.Tryz.prog 69 = some a69 := by kernel_rfl
def a71 : AFn := ⟨15, [.t 6], .seq (.ops [⟨(some 6), none, .mv (.c (.bool false))⟩])
 (.seq (.ops [⟨(some 7), none, .mv (.t 0)⟩, ⟨(some 8), none, .mv (.t 1)⟩, ⟨(some 9), none, .bin 0 .lss (.t 7) (.t 8)⟩, ⟨(some 10), none, .mv (.t 9)⟩, ⟨(some 11), (some (10, false)), .mv (.t 0)⟩, ⟨(some 12), (some (10, false)), .mv (.t 2)⟩, ⟨(some 13), (some (10, false)), .bin 0 .gtr (.t 11) (.t 12)⟩, ⟨(some 14), none, .pick (.t 10) (.c (.bool true)) (.t 13)⟩, ⟨(some 6), none, .mv (.t 14)⟩])
 (.ret))⟩
theorem c71 : compF Go.Proofs.Tryz.prog 71 = some a71 := by kernel_rfl
def a72 : AFn := ⟨6, [.t 2], .seq (.ops [⟨(some 2), none, .mv (.c (.bool false))⟩])
 (.seq (.ops [⟨(some 3), none, .mv (.t 0)⟩, ⟨(some 4), none, .call 70 [(.t 3), (.c (.str [48, 49]))]⟩, ⟨(some 5), none, .bin 1 .eql (.t 4) (.c (.str []))⟩, ⟨(some 2), none, .mv (.t 5)⟩])
 (.ret))⟩
theorem c72 : compF Go.Proofs.Tryz.prog 72 = some a72 := by kernel_rfl
def a73 : AFn := ⟨22, [.t 4], .seq (.ops [⟨(some 4), none, .mv (.c (.bool false))⟩])
 (.seq (.seq (.ops [⟨(some 6), none, .mv (.t 0)⟩, ⟨(some 7), none, .len true (.t 6)⟩, ⟨(some 8), none, .mv (.c (.int .i64 0))⟩])
 (.block 0 (.loop (.seq (.ops [⟨(some 9), none, .bin 0 .lss (.t 8) (.t 7)⟩])
 (.seq (.cond (.t 9) (.skip) (.exit 0))
 (.seq (.block 1 (.seq (.ops [⟨(some 10), none, .mv (.t 8)⟩, ⟨(some 5), none, .mv (.t 10)⟩])
 (.seq (.ops [⟨(some 11), none, .mv (.t 0)⟩, ⟨(some 12), none, .mv (.t 5)⟩, ⟨(some 13), none, .idxs (.t 11) (.t 12)⟩, ⟨(some 14), none, .bin 0 .eql (.t 13) (.c (.int .u8 49))⟩, ⟨(some 15), none, .mv (.t 14)⟩, ⟨(some 16), (some (15, true)), .mv (.t 1)⟩, ⟨(some 17), (some (15, true)), .mv (.t 5)⟩, ⟨(some 18), (some (15, true)), .idxs (.t 16) (.t 17)⟩, ⟨(some 19), (some (15, true)), .bin 0 .eql (.t 18) (.c (.int .u8 48))⟩, ⟨(some 20), none, .pick (.t 15) (.t 19) (.c (.bool false))⟩])
 (.cond (.t 20) (.seq (.ops [⟨(some 4), none, .mv (.c (.bool false))⟩])
 (.ret)) (.skip)))))
 (.ops [⟨(some 21), none, .bin 0 .add (.t 8) (.c (.int .i64 1))⟩, ⟨(some 8), none, .mv (.t 21)⟩])))))))
 (.seq (.ops [⟨(some 4), none, .mv (.c (.bool true))⟩])
 (.ret)))⟩
theorem c73 : compF Go.Proofs.Tryz.prog 73 = some a73 := by kernel_rfl
def a74 : AFn := ⟨8, [.t 2], .seq (.ops [⟨(some 2), none, .mv (.c (.lit true 0 []))⟩])
 (.seq (.seq (.ops [⟨(some 3), none, .mv (.t 0)⟩, ⟨(some 4), none, .bin 3 .eql (.t 3) (.c (.lit true 0 []))⟩])
 (.cond (.t 4) (.seq (.ops [⟨(some 2), none, .mv (.c (.lit true 0 []))⟩])
 (.ret)) (.skip)))
 (.seq (.ops [⟨(some 5), none, .bslice 9 1 0 [(.str [])] []⟩, ⟨(some 6), none, .mv (.t 0)⟩, ⟨(some 7), none, .app 9 1 16 (.t 5) (.t 6)⟩, ⟨(some 2), none, .mv (.t 7)⟩])
 (.ret)))⟩
theorem c74 : compF Go.Proofs.Tryz.prog 74 = some a74 := by kernel_rfl
def a76 : AFn := ⟨61, [.t 2], .seq (.ops [⟨(some 2), none, .mv (.c (.lit true 0 []))⟩])
 (.seq (.seq (.ops [⟨(some 6), none, .mv (.t 0)⟩, ⟨(some 7), none, .len false (.t 6)⟩, ⟨(some 8), none, .bin 0 .lss (.t 7) (.c (.int .i64 2))⟩])
 (.cond (.t 8) (.seq (.ops [⟨(some 9), none, .mv (.t 0)⟩, ⟨(some 2), none, .mv (.t 9)⟩])
 (.ret)) (.skip)))
 (.seq (.seq (.ops [⟨(some 3), none, .mv (.c (.int .i64 1))⟩])
 (.block 0 (.loop (.seq (.seq (.ops [⟨(some 10), none, .mv (.t 3)⟩, ⟨(some 11), none, .mv (.t 0)⟩, ⟨(some 12), none, .len false (.t 11)⟩, ⟨(some 13), none, .bin 0 .lss (.t 10) (.t 12)⟩])
 (.cond (.t 13) (.skip) (.exit 0)))
 (.seq (.block 1 (.seq (.any [(⟨(some 16), none, .mv (.t 0)⟩, []), (⟨(some 17), none, .mv (.t 3)⟩, [0]), (⟨(some 18), none, .iadr 1 (.t 16) (.t 17)⟩, []), (⟨(some 19), none, .load none (.t 18)⟩, []), (⟨(some 20), none, .mv (.t 0)⟩, [0, 1, 2, 3]), (⟨(some 21), none, .mv (.t 3)⟩, [0, 1, 2, 3, 4]), (⟨(some 22), none, .bin 0 .sub (.t 21) (.c (.int .i64 1))⟩, [0, 1, 2, 3, 4]), (⟨(some 23), none, .iadr 1 (.t 20) (.t 22)⟩, [0, 1, 2, 3]), (⟨(some 24), none, .load none (.t 23)⟩, [0, 1, 2, 3]), (⟨(some 25), none, .bin 1 .eql (.t 19) (.t 24)⟩, [])])
 (.cond (.t 25) (.seq (.ops [⟨(some 26), none, .mv (.t 0)⟩, ⟨(some 27), none, .mv (.t 3)⟩, ⟨(some 28), none, .slc 1 (.t 26) (some (.t 27)) none⟩, ⟨(some 4), none, .mv (.t 28)⟩])
 (.seq (.seq (.ops [⟨(some 5), none, .mv (.c (.int .i64 1))⟩])
 (.block 2 (.loop (.seq (.seq (.ops [⟨(some 29), none, .mv (.t 5)⟩, ⟨(some 30), none, .mv (.t 4)⟩, ⟨(some 31), none, .len false (.t 30)⟩, ⟨(some 32), none, .bin 0 .lss (.t 29) (.t 31)⟩])
 (.cond (.t 32) (.skip) (.exit 2)))
 (.seq (.block 3 (.seq (.any [(⟨(some 35), none, .mv (.t 4)⟩, []), (⟨(some 36), none, .mv (.t 5)⟩, [0]), (⟨(some 37), none, .iadr 1 (.t 35) (.t 36)⟩, []), (⟨(some 38), none, .load none (.t 37)⟩, []), (⟨(some 39), none, .mv (.t 4)⟩, [0, 1, 2, 3]), (⟨(some 40), none, .mv (.t 5)⟩, [0, 1, 2, 3, 4]), (⟨(some 41), none, .bin 0 .sub (.t 40) (.c (.int .i64 1))⟩, [0, 1, 2, 3, 4]), (⟨(some 42), none, .iadr 1 (.t 39) (.t 41)⟩, [0, 1, 2, 3]), (⟨(some 43), none, .load none (.t 42)⟩, [0, 1, 2, 3]), (⟨(some 44), none, .bin 1 .neq (.t 38) (.t 43)⟩, [])])
 (.cond (.t 44) (.seq (.ops [⟨(some 45), none, .mv (.t 0)⟩, ⟨(some 46), none, .mv (.t 3)⟩, ⟨(some 47), none, .mv (.t 4)⟩, ⟨(some 48), none, .mv (.t 5)⟩, ⟨(some 49), none, .iadr 1 (.t 47) (.t 48)⟩, ⟨(some 50), none, .load none (.t 49)⟩, ⟨(some 51), none, .iadr 1 (.t 45) (.t 46)⟩, ⟨none, none, .store 1 (.t 51) (.t 50)⟩])
 (.ops [⟨(some 52), none, .mv (.t 3)⟩, ⟨(some 53), none, .bin 0 .add (.t 52) (.c (.int .i64 1))⟩, ⟨(some 3), none, .mv (.t 53)⟩])) (.skip))))
 (.ops [⟨(some 33), none, .mv (.t 5)⟩, ⟨(some 34), none, .bin 0 .add (.t 33) (.c (.int .i64 1))⟩, ⟨(some 5), none, .mv (.t 34)⟩]))))))
 (.seq (.ops [⟨(some 54), none, .mv (.t 0)⟩, ⟨(some 55), none, .mv (.t 3)⟩, ⟨(some 56), none, .slc 1 (.t 54) (some (.t 55)) none⟩, ⟨none, none, .clr [(.str [])] (.t 56)⟩])
 (.seq (.ops [⟨(some 57), none, .mv (.t 0)⟩, ⟨(some 58), none, .mv (.t 3)⟩, ⟨(some 59), none, .slc 1 (.t 57) none (some (.t 58))⟩, ⟨(some 2), none, .mv (.t 59)⟩])
 (.ret))))) (.skip))))
 (.ops [⟨(some 14), none, .mv (.t 3)⟩, ⟨(some 15), none, .bin 0 .add (.t 14) (.c (.int .i64 1))⟩, ⟨(some 3), none, .mv (.t 15)⟩]))))))
 (.seq (.ops [⟨(some 60), none, .mv (.t 0)⟩, ⟨(some 2), none, .mv (.t 60)⟩])
 (.ret))))⟩
theorem c76 : compF Go.Proofs.Tryz.prog 76 = some a76 := by kernel_rfl
def a77 : AFn := ⟨19, [.t 4], .seq (.ops [⟨(some 4), none, .mv (.c (.int .i64 0))⟩])
 (.seq (.seq (.ops [⟨(some 6), none, .mv (.t 0)⟩, ⟨(some 7), none, .len false (.t 6)⟩, ⟨(some 8), none, .mv (.c (.int .i64 0))⟩])
 (.block 0 (.loop (.seq (.ops [⟨(some 9), none, .bin 0 .lss (.t 8) (.t 7)⟩])
 (.seq (.cond (.t 9) (.skip) (.exit 0))
 (.seq (.block 1 (.seq (.ops [⟨(some 10), none, .mv (.t 8)⟩, ⟨(some 5), none, .mv (.t 10)⟩])
 (.seq (.ops [⟨(some 11), none, .mv (.t 1)⟩, ⟨(some 12), none, .mv (.t 0)⟩, ⟨(some 13), none, .mv (.t 5)⟩, ⟨(some 14), none, .iadr 1 (.t 12) (.t 13)⟩, ⟨(some 15), none, .load none (.t 14)⟩, ⟨(some 16), none, .callv (.t 11) [(.t 15)]⟩])
 (.cond (.t 16) (.seq (.ops [⟨(some 17), none, .mv (.t 5)⟩, ⟨(some 4), none, .mv (.t 17)⟩])
 (.ret)) (.skip)))))
 (.ops [⟨(some 18), none, .bin 0 .add (.t 8) (.c (.int .i64 1))⟩, ⟨(some 8), none, .mv (.t 18)⟩])))))))
 (.seq (.ops [⟨(some 4), none, .mv (.c (.int .i64 (-1)))⟩])
 (.ret)))⟩
theorem c77 : compF Go.Proofs.Tryz.prog 77 = some a77 := by kernel_rfl
def a79 : AFn := ⟨19, [.t 4], .seq (.ops [⟨(some 4), none, .mv (.c (.int .i64 0))⟩])
 (.seq (.seq (.ops [⟨(some 6), none, .mv (.t 0)⟩, ⟨(some 7), none, .len false (.t 6)⟩, ⟨(some 8), none, .mv (.c (.int .i64 0))⟩])
 (.block 0 (.loop (.seq (.ops [⟨(some 9), none, .bin 0 .lss (.t 8) (.t 7)⟩])
 (.seq (.cond (.t 9) (.skip) (.exit 0))
 (.seq (.block 1 (.seq (.ops [⟨(some 10), none, .mv (.t 8)⟩, ⟨(some 5), none, .mv (.t 10)⟩])
 (.seq (.ops [⟨(some 11), none, .mv (.t 1)⟩, ⟨(some 12), none, .mv (.t 0)⟩, ⟨(some 13), none, .mv (.t 5)⟩, ⟨(some 14), none, .iadr 1 (.t 12) (.t 13)⟩, ⟨(some 15), none, .load none (.t 14)⟩, ⟨(some 16), none, .bin 1 .eql (.t 11) (.t 15)⟩])
 (.cond (.t 16) (.seq (.ops [⟨(some 17), none, .mv (.t 5)⟩, ⟨(some 4), none, .mv (.t 17)⟩])
 (.ret)) (.skip)))))
 (.ops [⟨(some 18), none, .bin 0 .add (.t 8) (.c (.int .i64 1))⟩, ⟨(some 8), none, .mv (.t 18)⟩])))))))
 (.seq (.ops [⟨(some 4), none, .mv (.c (.int .i64 (-1)))⟩])
 (.ret)))⟩
theorem c79 : compF Go.Proofs.Tryz.prog 79 = some a79 := by kernel_rfl
def a80 : AFn := ⟨4, [.t 2], .seq (.ops [⟨(some 2), none, .mv (.c (.int .i64 0))⟩])
 (.seq (.seq (.ops [⟨(some 3), none, .mv (.t 0)⟩])
 (.cond (.t 3) (.seq (.ops [⟨(some 2), none, .mv (.c (.int .i64 1))⟩])
 (.ret)) (.skip)))
 (.seq (.ops [⟨(some 2), none, .mv (.c (.int .i64 0))⟩])
 (.ret)))⟩
theorem c80 : compF Go.Proofs.Tryz.prog 80 = some a80 := by kernel_rfl
def a105 : AFn := ⟨9, [.t 2], .seq (.ops [⟨(some 2), none, .mv (.c (.bool false))⟩])
 (.seq (.ops [⟨(some 3), none, .mv (.t 0)⟩, ⟨(some 4), none, .call 103 [(.t 3)]⟩, ⟨(some 5), none, .mv (.t 4)⟩, ⟨(some 6), (some (5, false)), .mv (.t 0)⟩, ⟨(some 7), (some (5, false)), .bin 0 .eql (.t 6) (.c (.int .u8 42))⟩, ⟨(some 8), none, .pick (.t 5) (.c (.bool true)) (.t 7)⟩, ⟨(some 2), none, .mv (.t 8)⟩])
 (.ret))⟩
end Go.Proofs.YthcldfmlfjomfaaGreatDoor
namespace Go.Proofs.YthcldfmlfjomfaaGreatDoor
open Go.RowKit
theorem below_c (x n : Int) (nid : Nat) (hn : n ≤ 9223372036854775807) : ACall Tryz.prog 69 [.int .i64 x, .int .i64 n] [] nid (.int .i64 (below x n)) [] := by
  refine acall_run c69 (by simp [a69]) ?_
  simp -dsimp only [a69, aqT, aqU, aqN, ↓seqK, ↓blkK, ↓loopK, step, stepBin, Nat.reduceBEq, Nat.reduceBeqDiff, Nat.add_assoc nid, Nat.reduceAdd, reduceCtorEq, ↓reduceIte, Nat.reduceLeDiff, Nat.reduceBneDiff, Option.toList, ← Int.ofNat_tmod, ← Int.ofNat_tdiv, Nat.reduceLT]
  refine S2.dec (fun h => ?_) (fun h => ?_)
  · simp -dsimp only [aqT, aqU, aqN, ↓seqK, ↓blkK, ↓loopK, step, stepBin, Nat.reduceBEq, Nat.reduceBeqDiff, Nat.add_assoc nid, Nat.reduceAdd, reduceCtorEq, ↓reduceIte, Nat.reduceLeDiff, Nat.reduceBneDiff, Option.toList, ← Int.ofNat_tmod, ← Int.ofNat_tdiv, Nat.reduceLT]
    refine RetOK.pure (.inl rfl) rfl ?_
    simp [retPV, PVCov, getS, below, h]
  simp -dsimp only [aqT, aqU, aqN, ↓seqK, ↓blkK, ↓loopK, step, stepBin, Nat.reduceBEq, Nat.reduceBeqDiff, Nat.add_assoc nid, Nat.reduceAdd, reduceCtorEq, ↓reduceIte, Nat.reduceLeDiff, Nat.reduceBneDiff, Option.toList, ← Int.ofNat_tmod, ← Int.ofNat_tdiv, Nat.reduceLT]
  refine ⟨by omega, S2.dec (fun h2 => ?_) (fun h2 => ?_)⟩
  · simp -dsimp only [aqT, aqU, aqN, ↓seqK, ↓blkK, ↓loopK, step, stepBin, Nat.reduceBEq, Nat.reduceBeqDiff, Nat.add_assoc nid, Nat.reduceAdd, reduceCtorEq, ↓reduceIte, Nat.reduceLeDiff, Nat.reduceBneDiff, Option.toList, ← Int.ofNat_tmod, ← Int.ofNat_tdiv, Nat.reduceLT]
    have := Int.lt_tmod_of_pos x (show 0 < n by omega)
    refine ⟨by unfold inI64; omega, RetOK.pure (.inl rfl) rfl ?_⟩
    have h3 : x.tmod n + n = x % n := by rw [Int.tmod_eq_emod]; split <;> rw [Int.tmod_eq_emod] at h2 <;> rename_i h6 <;> simp only [h6, if_true, if_false, not_false_eq_true] at h2 <;> have := Int.emod_nonneg x (show n ≠ 0 by omega) <;> omega
    simp [cvT, step, res, below, h, h3]
  · simp -dsimp only [aqT, aqU, aqN, ↓seqK, ↓blkK, ↓loopK, step, stepBin, Nat.reduceBEq, Nat.reduceBeqDiff, Nat.add_assoc nid, Nat.reduceAdd, reduceCtorEq, ↓reduceIte, Nat.reduceLeDiff, Nat.reduceBneDiff, Option.toList, ← Int.ofNat_tmod, ← Int.ofNat_tdiv, Nat.reduceLT]
    refine RetOK.pure (.inl rfl) rfl ?_
    have h3 : x.tmod n = x % n := by rw [Int.tmod_eq_emod]; split <;> rw [Int.tmod_eq_emod] at h2 <;> rename_i h6 <;> simp only [h6, if_true, if_false, not_false_eq_true] at h2 <;> have := Int.emod_lt_of_pos x (show 0 < n by omega) <;> omega
    simp [cvT, step, res, below, h, h3]
def strmC (nl : Bool) (A : List Int) (p : Nat) : Option ABlk := some (.box 25 [.lit nl A.length [.i .i64 fun i => A.getD i 0], .int .i64 p])
theorem strmC_low (n : Nat) (nl : Bool) (A : List Int) (p : Nat) : lowBlk n (strmC nl A p) = true := rfl
theorem next_c (s nid : Nat) (nl : Bool) (A : List Int) (p : Nat) (n : Int) (h : s < nid) (hp : p ≤ 1099511627775) (hA : A.length ≤ 17592186044416) (hn : n ≤ 9223372036854775807) :
    ACall Tryz.prog 35 [.ptr s 0, .int .i64 n] [(s, strmC nl A p)] nid (.int .i64 (nextV A p n)) [(s, strmC nl A (p + 1))] := by
  obtain ⟨e1, e2, e3, e4, e5, e6, e7, e8, e9⟩ := id_all h
  refine acall_run c35 (by simp [a35]) ?_
  simp -dsimp only [a35, strmC, aqT, aqU, aqN, ↓seqK, ↓blkK, ↓loopK, step, stepBin, Nat.reduceBEq, Nat.reduceBeqDiff, Nat.add_assoc nid, Nat.reduceAdd, reduceCtorEq, ↓reduceIte, Nat.reduceLeDiff, Nat.reduceBneDiff, Option.toList, ← Int.ofNat_tmod, ← Int.ofNat_tdiv, Nat.reduceLT, e1, e2, e3, e4, e5, e6, e7, e8, e9]
  refine ⟨by unfold inI64; omega, S2.intro (fun h2 => ?_) (fun h2 => ?_)⟩
  · simp -dsimp only [aqT, aqU, aqN, ↓seqK, ↓blkK, ↓loopK, step, stepBin, Nat.reduceBEq, Nat.reduceBeqDiff, Nat.add_assoc nid, Nat.reduceAdd, reduceCtorEq, ↓reduceIte, Nat.reduceLeDiff, Nat.reduceBneDiff, Option.toList, ← Int.ofNat_tmod, ← Int.ofNat_tdiv, Nat.reduceLT, e1, e2, e3, e4, e5, e6, e7, e8, e9]
    refine ⟨by unfold inI64; omega, CallO.pure (below_c _ _ _ hn) ?_⟩
    simp -dsimp only [aqT, aqU, aqN, ↓seqK, ↓blkK, ↓loopK, step, stepBin, Nat.reduceBEq, Nat.reduceBeqDiff, Nat.add_assoc nid, Nat.reduceAdd, reduceCtorEq, ↓reduceIte, Nat.reduceLeDiff, Nat.reduceBneDiff, Option.toList, ← Int.ofNat_tmod, ← Int.ofNat_tdiv, Nat.reduceLT, e1, e2, e3, e4, e5, e6, e7, e8, e9]
    have h3 : A.length = 0 := by simpa using h2
    refine RetOK.same (.inl rfl) rfl (by simp [strmC, liveIds]; omega) ?_ ?_
    · simp [cvT, step, res, strmC]
    · simp [cvT, step, res, nextV, h3]
  · simp -dsimp only [aqT, aqU, aqN, ↓seqK, ↓blkK, ↓loopK, step, stepBin, Nat.reduceBEq, Nat.reduceBeqDiff, Nat.add_assoc nid, Nat.reduceAdd, reduceCtorEq, ↓reduceIte, Nat.reduceLeDiff, Nat.reduceBneDiff, Option.toList, ← Int.ofNat_tmod, ← Int.ofNat_tdiv, Nat.reduceLT, e1, e2, e3, e4, e5, e6, e7, e8, e9]
    have h3 : 0 < A.length := by have : ¬ A.length = 0 := by simpa using h2
                                 omega
    have h4 : ∀ z : Nat, z ≤ 1099511627776 → IntKind.i64.wrap (z : Int) = z := fun z hz => IntWalk.i64_in _ (by omega)
    have h5 : p / A.length ≤ p := Nat.div_le_self _ _
    have h6 : p % A.length < A.length := Nat.mod_lt _ h3
    have h11 := h4 _ (show p / A.length ≤ 1099511627776 by omega)
    refine ⟨by unfold inI64; omega, by omega, by unfold inI64; omega, by omega, by omega, CallO.pure (below_c _ _ _ (by omega)) ?_⟩
    simp -dsimp only [aqT, aqU, aqN, ↓seqK, ↓blkK, ↓loopK, step, stepBin, Nat.reduceBEq, Nat.reduceBeqDiff, Nat.add_assoc nid, Nat.reduceAdd, reduceCtorEq, ↓reduceIte, Nat.reduceLeDiff, Nat.reduceBneDiff, Option.toList, ← Int.ofNat_tmod, ← Int.ofNat_tdiv, Nat.reduceLT, h11, e1, e2, e3, e4, e5, e6, e7, e8, e9]
    have h7 := round_bd p A.length h3 (by omega)
    have h8 := below_bd (A.getD (p % A.length) 0) (n := 1073741824) (by omega)
    rw [← Int.natCast_emod, ← Int.natCast_ediv] at h7
    generalize h9 : ((p / A.length : Nat) : Int) * (7919 + ((p % A.length : Nat) : Int)) = z at h7 ⊢
    refine ⟨by unfold inI64; omega, by unfold inI64; omega, by unfold inI64; omega, CallO.pure (below_c _ _ _ hn) ?_⟩
    simp -dsimp only [aqT, aqU, aqN, ↓seqK, ↓blkK, ↓loopK, step, stepBin, Nat.reduceBEq, Nat.reduceBeqDiff, Nat.add_assoc nid, Nat.reduceAdd, reduceCtorEq, ↓reduceIte, Nat.reduceLeDiff, Nat.reduceBneDiff, Option.toList, ← Int.ofNat_tmod, ← Int.ofNat_tdiv, Nat.reduceLT, e1, e2, e3, e4, e5, e6, e7, e8, e9]
    refine RetOK.same (.inl rfl) rfl (by simp [strmC, liveIds]; omega) ?_ ?_
    · simp [cvT, step, res, strmC]
    · have h10 : A.length ≠ 0 := by omega
      simp [cvT, step, res, nextV, h10, ← h9]
theorem range_c (s nid : Nat) (nl : Bool) (A : List Int) (p : Nat) (lo hi : Int) (h : s < nid) (hp : p ≤ 1099511627775) (hA : A.length ≤ 17592186044416) (h1 : lo ≤ hi) (hl : -1099511627776 ≤ lo) (hh : hi ≤ 1099511627776) :
    ACall Tryz.prog 26 [.ptr s 0, .int .i64 lo, .int .i64 hi] [(s, strmC nl A p)] nid (.int .i64 (rangeV A p lo hi)) [(s, strmC nl A (p + 1))] := by
  obtain ⟨e1, e2, e3, e4, e5, e6, e7, e8, e9⟩ := id_all h
  refine acall_run c26 (by simp [a26]) ?_
  simp -dsimp only [a26, aqT, aqU, aqN, ↓seqK, ↓blkK, ↓loopK, step, stepBin, Nat.reduceBEq, Nat.reduceBeqDiff, Nat.add_assoc nid, Nat.reduceAdd, reduceCtorEq, ↓reduceIte, Nat.reduceLeDiff, Nat.reduceBneDiff, Option.toList, ← Int.ofNat_tmod, ← Int.ofNat_tdiv, Nat.reduceLT, e1, e2, e3, e4, e5, e6, e7, e8, e9]
  refine S2.dec (fun h => absurd h (by omega)) (fun h => ?_)
  simp -dsimp only [aqT, aqU, aqN, ↓seqK, ↓blkK, ↓loopK, step, stepBin, Nat.reduceBEq, Nat.reduceBeqDiff, Nat.add_assoc nid, Nat.reduceAdd, reduceCtorEq, ↓reduceIte, Nat.reduceLeDiff, Nat.reduceBneDiff, Option.toList, ← Int.ofNat_tmod, ← Int.ofNat_tdiv, Nat.reduceLT, e1, e2, e3, e4, e5, e6, e7, e8, e9]
  refine ⟨by unfold inI64; omega, by unfold inI64; omega, CallO.on (next_c _ _ _ _ _ _ (by omega) hp hA (by omega)) (subH_hit _ _ _) ?_⟩
  simp -dsimp only [aqT, aqU, aqN, ↓seqK, ↓blkK, ↓loopK, step, stepBin, Nat.reduceBEq, Nat.reduceBeqDiff, Nat.add_assoc nid, Nat.reduceAdd, reduceCtorEq, ↓reduceIte, Nat.reduceLeDiff, Nat.reduceBneDiff, Option.toList, ← Int.ofNat_tmod, ← Int.ofNat_tdiv, Nat.reduceLT, e1, e2, e3, e4, e5, e6, e7, e8, e9]
  have := nextV_bd A p (n := hi - lo + 1) (by omega)
  refine ⟨by unfold inI64; omega, RetOK.same (.inl rfl) rfl (by simp [strmC, liveIds]; omega) ?_ ?_⟩
  · simp [cvT, step, res, strmC]
  · simp [cvT, step, res, rangeV]
theorem flip_c (s nid : Nat) (nl : Bool) (A : List Int) (p : Nat) (n : Int) (h : s < nid) (hp : p ≤ 1099511627775) (hA : A.length ≤ 17592186044416) (hn : n ≤ 9223372036854775807) :
    ACall Tryz.prog 34 [.ptr s 0, .int .i64 n] [(s, strmC nl A p)] nid (.bool (flipV A p n)) [(s, strmC nl A (p + 1))] := by
  obtain ⟨e1, e2, e3, e4, e5, e6, e7, e8, e9⟩ := id_all h
  refine acall_run c34 (by simp [a34]) ?_
  simp -dsimp only [a34, aqT, aqU, aqN, ↓seqK, ↓blkK, ↓loopK, step, stepBin, Nat.reduceBEq, Nat.reduceBeqDiff, Nat.add_assoc nid, Nat.reduceAdd, reduceCtorEq, ↓reduceIte, Nat.reduceLeDiff, Nat.reduceBneDiff, Option.toList, ← Int.ofNat_tmod, ← Int.ofNat_tdiv, Nat.reduceLT, e1, e2, e3, e4, e5, e6, e7, e8, e9]
  refine CallO.on (next_c _ _ _ _ _ _ (by omega) hp hA hn) (subH_hit _ _ _) ?_
  simp -dsimp only [aqT, aqU, aqN, ↓seqK, ↓blkK, ↓loopK, step, stepBin, Nat.reduceBEq, Nat.reduceBeqDiff, Nat.add_assoc nid, Nat.reduceAdd, reduceCtorEq, ↓reduceIte, Nat.reduceLeDiff, Nat.reduceBneDiff, Option.toList, ← Int.ofNat_tmod, ← Int.ofNat_tdiv, Nat.reduceLT, e1, e2, e3, e4, e5, e6, e7, e8, e9]
  refine RetOK.same (.inl rfl) rfl (by simp [strmC, liveIds]; omega) ?_ ?_
  · simp [cvT, step, res, strmC]
  · simp [cvT, step, res, flipV]
theorem pick_c (s nid : Nat) (nl nl' : Bool) (A : List Int) (p : Nat) (n : Nat) (g : Nat → Int) (h : s < nid) (hp : p ≤ 1099511627775) (hA : A.length ≤ 17592186044416) (h1 : 0 < n) (hn : n ≤ 1099511627776) :
    ACall Tryz.prog 29 [.ptr s 0, .lit nl' n [.i .i64 g]] [(s, strmC nl A p)] nid (.int .i64 (g (pickI A p n))) [(s, strmC nl A (p + 1))] := by
  obtain ⟨e1, e2, e3, e4, e5, e6, e7, e8, e9⟩ := id_all h
  refine acall_run c29 (by simp [a29]) ?_
  simp -dsimp only [a29, aqT, aqU, aqN, ↓seqK, ↓blkK, ↓loopK, step, stepBin, Nat.reduceBEq, Nat.reduceBeqDiff, Nat.add_assoc nid, Nat.reduceAdd, reduceCtorEq, ↓reduceIte, Nat.reduceLeDiff, Nat.reduceBneDiff, Option.toList, ← Int.ofNat_tmod, ← Int.ofNat_tdiv, Nat.reduceLT, e1, e2, e3, e4, e5, e6, e7, e8, e9]
  refine CallO.on (next_c _ _ _ _ _ _ (by omega) hp hA (by omega)) (subH_hit _ _ _) ?_
  simp -dsimp only [aqT, aqU, aqN, ↓seqK, ↓blkK, ↓loopK, step, stepBin, Nat.reduceBEq, Nat.reduceBeqDiff, Nat.add_assoc nid, Nat.reduceAdd, reduceCtorEq, ↓reduceIte, Nat.reduceLeDiff, Nat.reduceBneDiff, Option.toList, ← Int.ofNat_tmod, ← Int.ofNat_tdiv, Nat.reduceLT, e1, e2, e3, e4, e5, e6, e7, e8, e9]
  have := nextV_bd A p (n := (n : Int)) (by omega)
  refine ⟨this, RetOK.same (.inl rfl) rfl (by simp [strmC, liveIds]; omega) ?_ ?_⟩
  · simp [cvT, step, res, strmC]
  · simp [cvT, step, res, pickI]
theorem CallX.pick_go {s id nid : Nat} {nl : Bool} {A : List Int} {p : Nat} {n T : Nat} {g : Nat → Int} {H : Heap} {K : PV → Heap → List Nat → Prop} (hs : getH H s = strmC nl A p) (hid : getH H id = some (.arr T n [.i .i64 g])) (hne : (s == id) = false) (h : s < nid) (hp : p ≤ 1099511627775) (hA : A.length ≤ 17592186044416) (h1 : 0 < n) (hn : n ≤ 1099511627776)
    (hK : K (.int .i64 (g (pickI A p n))) [(s, strmC nl A (p + 1)), (id, none)] [s, id]) : CallX Tryz.prog 29 [.ptr s 0, .sl id 0 n] H nid K := by
  refine CallX.given [id] (u := [(s, strmC nl A (p + 1))]) (fun nl' => ?_) (subH_get hs) (by simp [getH, hne]) hK
  have e : lends H [id] nl' [.ptr s 0, .sl id 0 n] = [.ptr s 0, .lit (nl' id) n [.i .i64 g]] := by simp [lends, lend, hid, noOs]
  rw [e]
  exact pick_c s _ nl _ A p n _ h hp hA h1 hn
theorem CallO.pick_go {s id nid : Nat} {nl : Bool} {A : List Int} {p : Nat} {n T : Nat} {g : Nat → Int} {H : Heap} {K : PV → Heap → Prop} (hs : getH H s = strmC nl A p) (hid : getH H id = some (.arr T n [.i .i64 g])) (hne : (s == id) = false) (h : s < nid) (hp : p ≤ 1099511627775) (hA : A.length ≤ 17592186044416) (h1 : 0 < n) (hn : n ≤ 1099511627776)
    (hK : K (.int .i64 (g (pickI A p n))) [(s, strmC nl A (p + 1)), (id, none)]) : CallOK Tryz.prog 29 [.ptr s 0, .sl id 0 n] H nid K :=
  CallO.x (CallX.pick_go hs hid hne h hp hA h1 hn hK)
end Go.Proofs.YthcldfmlfjomfaaGreatDoor
namespace Go.Proofs.YthcldfmlfjomfaaGreatDoor
open Go.RowKit
def arrI (l : List Int) : Option ABlk := some (.arr 3 l.length [.i .i64 fun i => l.getD i 0])
def litI (nl : Bool) (l : List Int) : PV := .lit nl l.length [.i .i64 fun i => l.getD i 0]
theorem out_c (x lo hi : Int) (nid : Nat) : ACall Tryz.prog 71 [.int .i64 x, .int .i64 lo, .int .i64 hi] [] nid (.bool (outB x lo hi)) [] := by
  refine acall_run c71 (by simp [a71]) ?_
  simp -dsimp only [a71, aqT, aqU, aqN, ↓seqK, ↓blkK, ↓loopK, step, stepBin, Nat.reduceBEq, Nat.reduceBeqDiff, Nat.add_assoc nid, Nat.reduceAdd, reduceCtorEq, ↓reduceIte, Nat.reduceLeDiff, Nat.reduceBneDiff, Option.toList, ← Int.ofNat_tmod, ← Int.ofNat_tdiv, Nat.reduceLT]
  refine S2.dec (fun h => ?_) (fun h => ?_) <;> simp -dsimp only [aqT, aqU, aqN, ↓seqK, ↓blkK, ↓loopK, step, stepBin, Nat.reduceBEq, Nat.reduceBeqDiff, Nat.add_assoc nid, Nat.reduceAdd, reduceCtorEq, ↓reduceIte, Nat.reduceLeDiff, Nat.reduceBneDiff, Option.toList, ← Int.ofNat_tmod, ← Int.ofNat_tdiv, Nat.reduceLT] <;> refine RetOK.pure (.inl rfl) rfl ?_ <;> simp [cvT, step, res, outB] <;> omega
theorem in_c (x lo hi : Int) (nid : Nat) : ACall Tryz.prog 38 [.int .i64 x, .int .i64 lo, .int .i64 hi] [] nid (.bool (!outB x lo hi)) [] := by
  refine acall_run c38 (by simp [a38]) ?_
  simp -dsimp only [a38, aqT, aqU, aqN, ↓seqK, ↓blkK, ↓loopK, step, stepBin, Nat.reduceBEq, Nat.reduceBeqDiff, Nat.add_assoc nid, Nat.reduceAdd, reduceCtorEq, ↓reduceIte, Nat.reduceLeDiff, Nat.reduceBneDiff, Option.toList, ← Int.ofNat_tmod, ← Int.ofNat_tdiv, Nat.reduceLT]
  refine S2.dec (fun h => ?_) (fun h => ?_) <;> simp -dsimp only [aqT, aqU, aqN, ↓seqK, ↓blkK, ↓loopK, step, stepBin, Nat.reduceBEq, Nat.reduceBeqDiff, Nat.add_assoc nid, Nat.reduceAdd, reduceCtorEq, ↓reduceIte, Nat.reduceLeDiff, Nat.reduceBneDiff, Option.toList, ← Int.ofNat_tmod, ← Int.ofNat_tdiv, Nat.reduceLT] <;> refine RetOK.pure (.inl rfl) rfl ?_ <;> simp [cvT, step, res, outB] <;> first | omega | (rw [Bool.eq_iff_iff]; simp; omega)
theorem take_eqS {l m : List Int} {k : Nat} (hl : k < l.length) (hm : k < m.length) (h : l.take k = m.take k) (hx : l.getD k 0 = m.getD k 0) : l.take (k + 1) = m.take (k + 1) := by
  rw [take_snoc (x := l.getD k 0) (by rw [List.getD_eq_getElem?_getD, List.getElem?_eq_getElem hl]; rfl), take_snoc (x := m.getD k 0) (by rw [List.getD_eq_getElem?_getD, List.getElem?_eq_getElem hm]; rfl), h, hx]
theorem equalI_c (nl nl' : Bool) (l m : List Int) (nid : Nat) (hl : l.length ≤ 1000000000000) (hm : m.length ≤ 1000000000000) : ACall Tryz.prog 18 [litI nl l, litI nl' m] [] nid (.bool (l == m)) [] := by
  refine acall_run c18 (by simp [a18]) ?_
  unfold litI
  simp -dsimp only [a18, aqT, aqU, aqN, ↓seqK, ↓blkK, ↓loopK, step, stepBin, Nat.reduceBEq, Nat.reduceBeqDiff, Nat.add_assoc nid, Nat.reduceAdd, reduceCtorEq, ↓reduceIte, Nat.reduceLeDiff, Nat.reduceBneDiff, Option.toList, ← Int.ofNat_tmod, ← Int.ofNat_tdiv, Nat.reduceLT]
  refine S2.intro (fun h => ?_) (fun h => ?_) <;> simp -dsimp only [aqT, aqU, aqN, ↓seqK, ↓blkK, ↓loopK, step, stepBin, Nat.reduceBEq, Nat.reduceBeqDiff, Nat.add_assoc nid, Nat.reduceAdd, reduceCtorEq, ↓reduceIte, Nat.reduceLeDiff, Nat.reduceBneDiff, Option.toList, ← Int.ofNat_tmod, ← Int.ofNat_tdiv, Nat.reduceLT]
  · refine RetOK.pure (.inl rfl) rfl ?_
    have h1 : l ≠ m := fun e => by subst e; simp at h
    have h2 : (l == m) = false := by simpa using h1
    simp [cvT, step, res, h1]
  have hlm : l.length = m.length := by have : (l.length : Int) = m.length := by simpa using h
                                       omega
  refine LP.mkP (fun k : Nat => k ≤ l.length ∧ l.take k = m.take k) (fun k : Nat => ⟨[(13, .int .i64 k), (12, .int .i64 l.length), (0, litI nl l), (1, litI nl' m)], [], nid + 36, nid⟩) (fun k => l.length + 1 - k) 0 ⟨by omega, rfl⟩ (Cov.go [] [] ?_) (fun k hk => ?_)
  · simp [cvT, step, res, litI]
  unfold litI
  obtain ⟨hk, ht⟩ := hk
  simp -dsimp only [aqT, aqU, aqN, ↓seqK, ↓blkK, ↓loopK, step, stepBin, Nat.reduceBEq, Nat.reduceBeqDiff, Nat.add_assoc nid, Nat.reduceAdd, reduceCtorEq, ↓reduceIte, Nat.reduceLeDiff, Nat.reduceBneDiff, Option.toList, ← Int.ofNat_tmod, ← Int.ofNat_tdiv, Nat.reduceLT]
  refine S2.dec (fun h3 => ?_) (fun h3 => ?_) <;> simp -dsimp only [aqT, aqU, aqN, ↓seqK, ↓blkK, ↓loopK, step, stepBin, Nat.reduceBEq, Nat.reduceBeqDiff, Nat.add_assoc nid, Nat.reduceAdd, reduceCtorEq, ↓reduceIte, Nat.reduceLeDiff, Nat.reduceBneDiff, Option.toList, ← Int.ofNat_tmod, ← Int.ofNat_tdiv, Nat.reduceLT]
  · refine ⟨by omega, by omega, S2.intro (fun h4 => ?_) (fun h4 => ?_)⟩ <;> simp -dsimp only [aqT, aqU, aqN, ↓seqK, ↓blkK, ↓loopK, step, stepBin, Nat.reduceBEq, Nat.reduceBeqDiff, Nat.add_assoc nid, Nat.reduceAdd, reduceCtorEq, ↓reduceIte, Nat.reduceLeDiff, Nat.reduceBneDiff, Option.toList, ← Int.ofNat_tmod, ← Int.ofNat_tdiv, Nat.reduceLT]
    · refine RetOK.pure (.inl rfl) rfl ?_
      have h1 : l ≠ m := fun e => by subst e; simp at h4
      simp [cvT, step, res, h1]
    · have h5 : l.getD k 0 = m.getD k 0 := by simpa using h4
      refine ⟨by unfold inI64; omega, k + 1, ⟨⟨by omega, take_eqS (by omega) (by omega) ht h5⟩, by omega⟩, Cov.go [] [] ?_⟩
      simp [cvT, step, res, litI]
  · have hkl : k = l.length := by omega
    have h1 : l = m := by rw [hkl] at ht; rw [List.take_length, hlm, List.take_length] at ht; exact ht
    refine RetOK.pure (.inl rfl) rfl ?_
    simp [cvT, step, res, h1]
end Go.Proofs.YthcldfmlfjomfaaGreatDoor
namespace Go.Proofs.YthcldfmlfjomfaaGreatDoor
open Go.RowKit
theorem bits_c (s : List UInt8) (nid : Nat) (hs : s.length ≤ 1099511627776) : ACall Tryz.prog 72 [.str s] [] nid (.bool (bitsOk s)) [] := by
  refine acall_run c72 (by simp [a72]) ?_
  simp -dsimp only [aqT, aqU, aqN, ↓seqK, ↓blkK, ↓loopK, step, stepBin, Nat.reduceBEq, Nat.reduceBeqDiff, Nat.add_assoc nid, Nat.reduceAdd, reduceCtorEq, ↓reduceIte, Nat.reduceLeDiff, Nat.reduceBneDiff, Option.toList, ← Int.ofNat_tmod, ← Int.ofNat_tdiv, Nat.reduceLT, a72]
  refine CallO.pure (trim_cc s [48, 49] _ (by omega) (by decide) (by decide)) ?_
  simp -dsimp only [aqT, aqU, aqN, ↓seqK, ↓blkK, ↓loopK, step, stepBin, Nat.reduceBEq, Nat.reduceBeqDiff, Nat.add_assoc nid, Nat.reduceAdd, reduceCtorEq, ↓reduceIte, Nat.reduceLeDiff, Nat.reduceBneDiff, Option.toList, ← Int.ofNat_tmod, ← Int.ofNat_tdiv, Nat.reduceLT]
  rw [trim_bits]
  refine RetOK.pure (.inl rfl) rfl ?_
  simp [cvT, step, res]
theorem bitsFaultR_c (s : List UInt8) (nid : Nat) (hs : s.length ≤ 1099511627776) : ACall Tryz.prog 39 [.str s] [] nid (.int .i64 (if bitsOk s = true then 0 else 9)) [] := by
  refine acall_run c39 (by simp [a39]) ?_
  simp -dsimp only [aqT, aqU, aqN, ↓seqK, ↓blkK, ↓loopK, step, stepBin, Nat.reduceBEq, Nat.reduceBeqDiff, Nat.add_assoc nid, Nat.reduceAdd, reduceCtorEq, ↓reduceIte, Nat.reduceLeDiff, Nat.reduceBneDiff, Option.toList, ← Int.ofNat_tmod, ← Int.ofNat_tdiv, Nat.reduceLT, a39]
  refine CallO.pure (trim_cc s [48, 49] _ (by omega) (by decide) (by decide)) ?_
  simp -dsimp only [aqT, aqU, aqN, ↓seqK, ↓blkK, ↓loopK, step, stepBin, Nat.reduceBEq, Nat.reduceBeqDiff, Nat.add_assoc nid, Nat.reduceAdd, reduceCtorEq, ↓reduceIte, Nat.reduceLeDiff, Nat.reduceBneDiff, Option.toList, ← Int.ofNat_tmod, ← Int.ofNat_tdiv, Nat.reduceLT]
  rw [trim_bits]
  cases h : bitsOk s <;> simp -dsimp only [aqT, aqU, aqN, ↓seqK, ↓blkK, ↓loopK, step, stepBin, Nat.reduceBEq, Nat.reduceBeqDiff, Nat.add_assoc nid, Nat.reduceAdd, reduceCtorEq, ↓reduceIte, Nat.reduceLeDiff, Nat.reduceBneDiff, Option.toList, ← Int.ofNat_tmod, ← Int.ofNat_tdiv, Nat.reduceLT]
  · refine RetOK.pure (.inl rfl) rfl ?_
    simp [cvT, step, res]
  · refine RetOK.pure (.inl rfl) rfl ?_
    simp [cvT, step, res]
theorem or_c (nl : Bool) (l : List Int) (nid : Nat) (hl : l.length ≤ 1000000000) : ACall Tryz.prog 14 [litI nl l] [] nid (.int .i64 (firstBad (fun x : Int => x) l)) [] := by
  refine acall_run c14 (by simp [a14]) ?_
  unfold litI
  simp -dsimp only [aqT, aqU, aqN, ↓seqK, ↓blkK, ↓loopK, step, stepBin, Nat.reduceBEq, Nat.reduceBeqDiff, Nat.add_assoc nid, Nat.reduceAdd, reduceCtorEq, ↓reduceIte, Nat.reduceLeDiff, Nat.reduceBneDiff, Option.toList, ← Int.ofNat_tmod, ← Int.ofNat_tdiv, Nat.reduceLT, a14]
  refine LP.mkP (fun k : Nat => k ≤ l.length ∧ firstBad (fun x : Int => x) (l.take k) = 0) (fun k : Nat => ⟨[(8, .int .i64 k), (7, .int .i64 l.length), (6, litI nl l), (3, .int .i64 0)], [], nid + 100, nid⟩) (fun k => l.length + 1 - k) 0 ⟨by omega, rfl⟩ (Cov.go [] [] ?_) (fun k hk => ?_)
  · simp [cvT, step, res, litI]
  unfold litI
  obtain ⟨hk, hb⟩ := hk
  simp -dsimp only [aqT, aqU, aqN, aqS, ↓seqK, ↓blkK, ↓loopK, step, stepBin, Nat.add_assoc nid, ↓reduceIte, Option.toList, ← Int.ofNat_tmod, ← Int.ofNat_tdiv, simprocAttr, BEq.rfl, LN_succ]
  refine S2.dec (fun h3 => ?_) (fun h3 => ?_) <;> simp -dsimp only [aqT, aqU, aqN, aqS, ↓seqK, ↓blkK, ↓loopK, step, stepBin, Nat.add_assoc nid, ↓reduceIte, Option.toList, ← Int.ofNat_tmod, ← Int.ofNat_tdiv, simprocAttr, BEq.rfl, LN_succ]
  · have hkl : k < l.length := by omega
    have bad : l.getD k 0 ≠ 0 → firstBad (fun x : Int => x) l = l.getD k 0 := fun h => firstBad_hit (x := l.getD k 0) (by rw [List.getD_eq_getElem?_getD, List.getElem?_eq_getElem hkl]; rfl) hb h
    have good : l.getD k 0 = 0 → firstBad (fun x : Int => x) (l.take (k + 1)) = 0 := fun h => firstBad_step (x := l.getD k 0) (by rw [List.getD_eq_getElem?_getD, List.getElem?_eq_getElem hkl]; rfl) hb h
    refine ⟨by omega, S2.intro (fun h4 => ?_) (fun h4 => ?_)⟩ <;> simp -dsimp only [aqT, aqU, aqN, aqS, ↓seqK, ↓blkK, ↓loopK, step, stepBin, Nat.add_assoc nid, ↓reduceIte, Option.toList, ← Int.ofNat_tmod, ← Int.ofNat_tdiv, simprocAttr, BEq.rfl, LN_succ]
    · rw [bad (by simpa using h4)]
      refine RetOK.pure (.inl rfl) rfl ?_
      simp [cvT, step, res]
    · refine ⟨by unfold inI64; omega, k + 1, ⟨⟨by omega, good (by simpa using h4)⟩, by omega⟩, Cov.go [] [] ?_⟩
      simp [cvT, step, res, litI]
  · have hkn : k = l.length := by omega
    subst hkn
    rw [List.take_length] at hb
    rw [hb]
    refine RetOK.pure (.inl rfl) rfl ?_
    simp [cvT, step, res]
end Go.Proofs.YthcldfmlfjomfaaGreatDoor
namespace Go.Proofs.YthcldfmlfjomfaaGreatDoor
open Go.RowKit
theorem oddI_c (s nid : Nat) (nl : Bool) (A : List Int) (p : Nat) (lo hi : Int) (h : s < nid) (hp : p ≤ 1099511627000) (hA : A.length ≤ 17592186044416) (h1 : lo ≤ hi) (hl : -1000000 ≤ lo) (hh : hi ≤ 1000000) :
    ∃ x : Int, (-1099511627776 ≤ x ∧ x ≤ 1099511627776) ∧ ACall Tryz.prog 7 [.ptr s 0, .int .i64 lo, .int .i64 hi] [(s, strmC nl A p)] nid (.int .i64 x) [(s, strmC nl A (p + 2))] := by
  obtain ⟨e1, e2, e3, e4, e5, e6, e7, e8, e9⟩ := id_all h
  refine acall_ex c7 (by simp [a7]) ?_
  simp -dsimp only [aqT0, ROp0, aqT, aqU, aqN, aqS, ↓seqK, ↓blkK, ↓loopK, step, stepBin, Nat.add_assoc nid, ↓reduceIte, Option.toList, ← Int.ofNat_tmod, ← Int.ofNat_tdiv, simprocAttr, BEq.rfl, LN_succ, e1, e2, e3, e4, e5, e6, e7, e8, e9, a7, strmC_low]
  refine CallX.on (flip_c s _ nl A p _ (by omega) (by omega) hA (by omega)) (subH_get (by simp only [aqT, aqU, aqN, ↓seqK, ↓blkK, ↓loopK, step, stepBin, Nat.reduceBEq, Nat.reduceBeqDiff, Nat.add_assoc nid, Nat.reduceAdd, reduceCtorEq, ↓reduceIte, Nat.reduceLeDiff, Nat.reduceBneDiff, Option.toList, ← Int.ofNat_tmod, ← Int.ofNat_tdiv, Nat.reduceLT, e1, e2, e3, e4, e5, e6, e7, e8, e9])) ?_
  simp -dsimp only [aqT0, ROp0, aqT, aqU, aqN, aqS, ↓seqK, ↓blkK, ↓loopK, step, stepBin, Nat.add_assoc nid, ↓reduceIte, Option.toList, ← Int.ofNat_tmod, ← Int.ofNat_tdiv, simprocAttr, BEq.rfl, LN_succ, e1, e2, e3, e4, e5, e6, e7, e8, e9, strmC_low]
  refine S2.intro (fun h2 => ?_) (fun h2 => ?_) <;> simp -dsimp only [aqT0, ROp0, aqT, aqU, aqN, aqS, ↓seqK, ↓blkK, ↓loopK, step, stepBin, Nat.add_assoc nid, ↓reduceIte, Option.toList, ← Int.ofNat_tmod, ← Int.ofNat_tdiv, simprocAttr, BEq.rfl, LN_succ, e1, e2, e3, e4, e5, e6, e7, e8, e9, strmC_low]
  · refine ⟨by unfold inI64; omega, by unfold inI64; omega, CallX.pick_go (T := 3) (nl := nl) (A := A) (p := p + 1) (g := fun i => [lo - 1, hi + 1, lo, hi, -1099511627776, 1099511627776].getD i 0) (by simp only [aqT, aqU, aqN, ↓seqK, ↓blkK, ↓loopK, step, stepBin, Nat.reduceBEq, Nat.reduceBeqDiff, Nat.add_assoc nid, Nat.reduceAdd, reduceCtorEq, ↓reduceIte, Nat.reduceLeDiff, Nat.reduceBneDiff, Option.toList, ← Int.ofNat_tmod, ← Int.ofNat_tdiv, Nat.reduceLT, e1, e2, e3, e4, e5, e6, e7, e8, e9]) (by simp only [aqT, aqU, aqN, ↓seqK, ↓blkK, ↓loopK, step, stepBin, Nat.reduceBEq, Nat.reduceBeqDiff, Nat.add_assoc nid, Nat.reduceAdd, reduceCtorEq, ↓reduceIte, Nat.reduceLeDiff, Nat.reduceBneDiff, Option.toList, ← Int.ofNat_tmod, ← Int.ofNat_tdiv, Nat.reduceLT, e1, e2, e3, e4, e5, e6, e7, e8, e9]) (by simp only [aqT, aqU, aqN, ↓seqK, ↓blkK, ↓loopK, step, stepBin, Nat.reduceBEq, Nat.reduceBeqDiff, Nat.add_assoc nid, Nat.reduceAdd, reduceCtorEq, ↓reduceIte, Nat.reduceLeDiff, Nat.reduceBneDiff, Option.toList, ← Int.ofNat_tmod, ← Int.ofNat_tdiv, Nat.reduceLT, e1, e2, e3, e4, e5, e6, e7, e8, e9]) (by omega) (by omega) hA (by omega) (by omega) ?_⟩
    simp -dsimp only [aqT0, ROp0, aqT, aqU, aqN, aqS, ↓seqK, ↓blkK, ↓loopK, step, stepBin, Nat.add_assoc nid, ↓reduceIte, Option.toList, ← Int.ofNat_tmod, ← Int.ofNat_tdiv, simprocAttr, BEq.rfl, LN_succ, e1, e2, e3, e4, e5, e6, e7, e8, e9, strmC_low]
    have hb := pickV_bd A (p + 1) (l := [lo - 1, hi + 1, lo, hi, -1099511627776, 1099511627776]) (lo := -1099511627776) (hi := 1099511627776) (by simp) (by simp; omega)
    refine EndOK.mk _ hb ?_
    refine RetOK.go [] [] (.inl rfl) ?_
    simp [a7, cvT, step, res, e1, e2, e3, e4, e5, e6, e7, e8, e9, strmC, pickV]
    omega
  · refine CallX.on (range_c s _ nl A (p + 1) _ _ (by omega) (by omega) hA h1 (by omega) (by omega)) (subH_get (by simp only [aqT, aqU, aqN, ↓seqK, ↓blkK, ↓loopK, step, stepBin, Nat.reduceBEq, Nat.reduceBeqDiff, Nat.add_assoc nid, Nat.reduceAdd, reduceCtorEq, ↓reduceIte, Nat.reduceLeDiff, Nat.reduceBneDiff, Option.toList, ← Int.ofNat_tmod, ← Int.ofNat_tdiv, Nat.reduceLT, e1, e2, e3, e4, e5, e6, e7, e8, e9])) ?_
    simp -dsimp only [aqT0, ROp0, aqT, aqU, aqN, aqS, ↓seqK, ↓blkK, ↓loopK, step, stepBin, Nat.add_assoc nid, ↓reduceIte, Option.toList, ← Int.ofNat_tmod, ← Int.ofNat_tdiv, simprocAttr, BEq.rfl, LN_succ, e1, e2, e3, e4, e5, e6, e7, e8, e9, strmC_low]
    have hb := rangeV_bd A (p + 1) h1
    refine EndOK.mk (rangeV A (p + 1) lo hi) (by omega) ?_
    refine RetOK.go [] [] (.inl rfl) ?_
    simp [a7, cvT, step, res, e1, e2, e3, e4, e5, e6, e7, e8, e9, strmC]
    omega
theorem some_c (s nid : Nat) (nl nl' : Bool) (A : List Int) (p : Nat) (n : Nat) (g : Nat → List UInt8) (h : s < nid) (hp : p ≤ 1099511627775) (hA : A.length ≤ 17592186044416) (h1 : 0 < n) (hn : n ≤ 1099511627776) :
    ACall Tryz.prog 36 [.ptr s 0, .lit nl' n [.s g]] [(s, strmC nl A p)] nid (.str (g (pickI A p n))) [(s, strmC nl A (p + 1))] := by
  obtain ⟨e1, e2, e3, e4, e5, e6, e7, e8, e9⟩ := id_all h
  refine acall_run c36 (by simp [a36]) ?_
  simp -dsimp only [aqT, aqU, aqN, ↓seqK, ↓blkK, ↓loopK, step, stepBin, Nat.reduceBEq, Nat.reduceBeqDiff, Nat.add_assoc nid, Nat.reduceAdd, reduceCtorEq, ↓reduceIte, Nat.reduceLeDiff, Nat.reduceBneDiff, Option.toList, ← Int.ofNat_tmod, ← Int.ofNat_tdiv, Nat.reduceLT, e1, e2, e3, e4, e5, e6, e7, e8, e9, a36]
  refine CallO.on (next_c _ _ _ _ _ _ (by omega) hp hA (by omega)) (subH_hit _ _ _) ?_
  simp -dsimp only [aqT, aqU, aqN, ↓seqK, ↓blkK, ↓loopK, step, stepBin, Nat.reduceBEq, Nat.reduceBeqDiff, Nat.add_assoc nid, Nat.reduceAdd, reduceCtorEq, ↓reduceIte, Nat.reduceLeDiff, Nat.reduceBneDiff, Option.toList, ← Int.ofNat_tmod, ← Int.ofNat_tdiv, Nat.reduceLT, e1, e2, e3, e4, e5, e6, e7, e8, e9]
  have := nextV_bd A p (n := (n : Int)) (by omega)
  refine ⟨this, RetOK.same (.inl rfl) rfl (by simp [strmC, liveIds]; omega) ?_ ?_⟩
  · simp [cvT, step, res, strmC]
  · simp [cvT, step, res, pickI]
theorem CallX.some_go {s id nid : Nat} {nl : Bool} {A : List Int} {p : Nat} {n T : Nat} {g : Nat → List UInt8} {H : Heap} {K : PV → Heap → List Nat → Prop} (hs : getH H s = strmC nl A p) (hid : getH H id = some (.arr T n [.s g])) (hne : (s == id) = false) (h : s < nid) (hp : p ≤ 1099511627775) (hA : A.length ≤ 17592186044416) (h1 : 0 < n) (hn : n ≤ 1099511627776)
    (hK : K (.str (g (pickI A p n))) [(s, strmC nl A (p + 1)), (id, none)] [s, id]) : CallX Tryz.prog 36 [.ptr s 0, .sl id 0 n] H nid K := by
  refine CallX.given [id] (u := [(s, strmC nl A (p + 1))]) (fun nl' => ?_) (subH_get hs) (by simp [getH, hne]) hK
  have e : lends H [id] nl' [.ptr s 0, .sl id 0 n] = [.ptr s 0, .lit (nl' id) n [.s g]] := by simp [lends, lend, hid, noOs]
  rw [e]
  exact some_c s _ nl _ A p n _ h hp hA h1 hn
theorem CallO.some_go {s id nid : Nat} {nl : Bool} {A : List Int} {p : Nat} {n T : Nat} {g : Nat → List UInt8} {H : Heap} {K : PV → Heap → Prop} (hs : getH H s = strmC nl A p) (hid : getH H id = some (.arr T n [.s g])) (hne : (s == id) = false) (h : s < nid) (hp : p ≤ 1099511627775) (hA : A.length ≤ 17592186044416) (h1 : 0 < n) (hn : n ≤ 1099511627776)
    (hK : K (.str (g (pickI A p n))) [(s, strmC nl A (p + 1)), (id, none)]) : CallOK Tryz.prog 36 [.ptr s 0, .sl id 0 n] H nid K :=
  CallO.x (CallX.some_go hs hid hne h hp hA h1 hn hK)
theorem getD_all {α : Type} {P : α → Prop} {l : List α} {d : α} (h : ∀ x ∈ l, P x) {i : Nat} (hi : i < l.length) : P (l.getD i d) := by
  rw [List.getD_eq_getElem?_getD, List.getElem?_eq_getElem hi]
  exact h _ (List.getElem_mem _)
def bit01 (b : UInt8) : Bool := b == 48 || b == 49
theorem bitsX (s nid : Nat) (nl : Bool) (A : List Int) (p n : Nat) (h : s < nid) (hn : n ≤ 1000000) (hp : p ≤ 1099510000000) (hA : A.length ≤ 17592186044416) :
    ∃ t : List UInt8, (t.length = n ∧ t.all bit01 = true) ∧ ACall Tryz.prog 33 [.ptr s 0, .int .i64 n] [(s, strmC nl A p)] nid (.str t) [(s, strmC nl A (p + n))] := by
  obtain ⟨e1, e2, e3, e4, e5, e6, e7, e8, e9⟩ := id_all h
  refine acall_ex c33 (by simp [a33]) ?_
  simp -dsimp only [aqT0, ROp0, aqT, aqU, aqN, aqS, ↓seqK, ↓blkK, ↓loopK, step, stepBin, Nat.add_assoc nid, ↓reduceIte, Option.toList, ← Int.ofNat_tmod, ← Int.ofNat_tdiv, simprocAttr, BEq.rfl, LN_succ, e1, e2, e3, e4, e5, e6, e7, e8, e9, a33, strmC_low]
  refine LP0.mkP (fun x : List UInt8 => x.length ≤ n ∧ x.all bit01 = true) (fun x => ⟨[(7, .int .i64 x.length), (6, .int .i64 n), (5, .str x), (0, .ptr s 0)], [(s, strmC nl A (p + x.length))], nid + 100, nid⟩) (fun x => n - x.length) [] (by simp) (Cov.go [] [] ?_) (fun x hx => ?_)
  · simp [cvT, step, res, e1, e2, e3, e4, e5, e6, e7, e8, e9, strmC]
  obtain ⟨hx1, hx2⟩ := hx
  simp -dsimp only [aqT0, ROp0, aqT, aqU, aqN, aqS, ↓seqK, ↓blkK, ↓loopK, step, stepBin, Nat.add_assoc nid, ↓reduceIte, Option.toList, ← Int.ofNat_tmod, ← Int.ofNat_tdiv, simprocAttr, BEq.rfl, LN_succ, e1, e2, e3, e4, e5, e6, e7, e8, e9, strmC_low]
  refine S2.dec (fun h2 => ?_) (fun h2 => ?_) <;> simp -dsimp only [aqT0, ROp0, aqT, aqU, aqN, aqS, ↓seqK, ↓blkK, ↓loopK, step, stepBin, Nat.add_assoc nid, ↓reduceIte, Option.toList, ← Int.ofNat_tmod, ← Int.ofNat_tdiv, simprocAttr, BEq.rfl, LN_succ, e1, e2, e3, e4, e5, e6, e7, e8, e9, strmC_low]
  · refine CallX.some_go (T := 9) (nl := nl) (A := A) (p := p + x.length) (g := fun i => [[48], [49]].getD i []) (by simp only [aqT, aqU, aqN, ↓seqK, ↓blkK, ↓loopK, step, stepBin, Nat.reduceBEq, Nat.reduceBeqDiff, Nat.add_assoc nid, Nat.reduceAdd, reduceCtorEq, ↓reduceIte, Nat.reduceLeDiff, Nat.reduceBneDiff, Option.toList, ← Int.ofNat_tmod, ← Int.ofNat_tdiv, Nat.reduceLT, e1, e2, e3, e4, e5, e6, e7, e8, e9]) (by simp only [aqT, aqU, aqN, ↓seqK, ↓blkK, ↓loopK, step, stepBin, Nat.reduceBEq, Nat.reduceBeqDiff, Nat.add_assoc nid, Nat.reduceAdd, reduceCtorEq, ↓reduceIte, Nat.reduceLeDiff, Nat.reduceBneDiff, Option.toList, ← Int.ofNat_tmod, ← Int.ofNat_tdiv, Nat.reduceLT, e1, e2, e3, e4, e5, e6, e7, e8, e9]) (by simp only [aqT, aqU, aqN, ↓seqK, ↓blkK, ↓loopK, step, stepBin, Nat.reduceBEq, Nat.reduceBeqDiff, Nat.add_assoc nid, Nat.reduceAdd, reduceCtorEq, ↓reduceIte, Nat.reduceLeDiff, Nat.reduceBneDiff, Option.toList, ← Int.ofNat_tmod, ← Int.ofNat_tdiv, Nat.reduceLT, e1, e2, e3, e4, e5, e6, e7, e8, e9]) (by omega) (by omega) hA (by omega) (by omega) ?_
    simp -dsimp only [aqT0, ROp0, aqT, aqU, aqN, aqS, ↓seqK, ↓blkK, ↓loopK, step, stepBin, Nat.add_assoc nid, ↓reduceIte, Option.toList, ← Int.ofNat_tmod, ← Int.ofNat_tdiv, simprocAttr, BEq.rfl, LN_succ, e1, e2, e3, e4, e5, e6, e7, e8, e9, strmC_low]
    have hb : ([[48], [49]].getD (pickI A (p + x.length) 2) [] : List UInt8) = [48] ∨ ([[48], [49]].getD (pickI A (p + x.length) 2) [] : List UInt8) = [49] := by
      have := pickI_lt A (p + x.length) (n := 2) (by omega)
      rcases (by omega : pickI A (p + x.length) 2 = 0 ∨ pickI A (p + x.length) 2 = 1) with e | e <;> rw [e] <;> simp
    generalize ([[48], [49]].getD (pickI A (p + x.length) 2) [] : List UInt8) = b at hb ⊢
    have hbl : b.length = 1 ∧ b.all bit01 = true := by rcases hb with rfl | rfl <;> exact ⟨rfl, rfl⟩
    refine ⟨by omega, by unfold inI64; omega, x ++ b, ⟨⟨by rw [List.length_append]; omega, by rw [List.all_append, hx2, hbl.2]; rfl⟩, by rw [List.length_append]; omega⟩, Cov.go [] [] ?_⟩
    have e : (x ++ b).length = x.length + 1 := by rw [List.length_append, hbl.1]
    have e2 : ((x ++ b).length : Int) = (x.length : Int) + 1 := by omega
    simp [cvT, step, res, e1, e2, e3, e4, e5, e6, e7, e8, e9, strmC, e, e2, -List.length_append]
    omega
  · have e : x.length = n := by omega
    refine EndOK.mk x ⟨e, hx2⟩ ?_
    refine RetOK.go [] [] (.inl rfl) ?_
    simp [a33, cvT, step, res, e1, e2, e3, e4, e5, e6, e7, e8, e9, strmC, e]
theorem enc_all : ((List.range 256).all fun n => decide ((Utf8.encode (IntKind.i32.wrap (n : Int))).data.toList.length ≤ 2)) = true := by kernel_rfl
theorem enc_len (b : UInt8) : (Utf8.encode (IntKind.i32.wrap ((b.toNat : Nat) : Int))).data.toList.length ≤ 2 := by
  have := List.all_eq_true.1 enc_all b.toNat (List.mem_range.2 (UInt8.toNat_lt b))
  simpa using this
theorem changedX (s nid : Nat) (nl : Bool) (A : List Int) (p : Nat) (t w : List UInt8) (h : s < nid) (ht : t.length ≤ 1000000000) (hw : w.length ≤ 1000) (hp : p ≤ 1099511627000) (hA : A.length ≤ 17592186044416) :
    ∃ x : List UInt8 × Nat, (x.1.length ≤ t.length + w.length + 2 ∧ x.2 ≤ p + 3) ∧ ACall Tryz.prog 37 [.ptr s 0, .str t, .str w] [(s, strmC nl A p)] nid (.str x.1) [(s, strmC nl A x.2)] := by
  obtain ⟨e1, e2, e3, e4, e5, e6, e7, e8, e9⟩ := id_all h
  refine acall_ex c37 (by simp [a37]) ?_
  simp -dsimp only [aqT0, ROp0, aqT, aqU, aqN, aqS, ↓seqK, ↓blkK, ↓loopK, step, stepBin, Nat.add_assoc nid, ↓reduceIte, Option.toList, ← Int.ofNat_tmod, ← Int.ofNat_tdiv, simprocAttr, BEq.rfl, LN_succ, e1, e2, e3, e4, e5, e6, e7, e8, e9, a37, strmC_low]
  have fin : ∀ st : ST, getS st.slots 6 = .str w → st.heap = [(s, strmC nl A p)] → EndOK (fun x : List UInt8 × Nat => x.1.length ≤ t.length + w.length + 2 ∧ x.2 ≤ p + 3) (a37).res [(s, strmC nl A p)] nid (fun x => .str x.1) (fun x => [(s, strmC nl A x.2)]) .ret st := fun st hs hh => by
    refine EndOK.mk (w, p) ⟨by show w.length ≤ _; omega, by show p ≤ _; omega⟩ ?_
    refine RetOK.go [] [] (.inl rfl) ?_
    rw [hh]
    simp [a37, cvT, step, res, e1, e2, e3, e4, e5, e6, e7, e8, e9, strmC, hs]
  refine S2.intro (fun h1 => ?_) (fun h1 => ?_) <;> simp -dsimp only [aqT0, ROp0, aqT, aqU, aqN, aqS, ↓seqK, ↓blkK, ↓loopK, step, stepBin, Nat.add_assoc nid, ↓reduceIte, Option.toList, ← Int.ofNat_tmod, ← Int.ofNat_tdiv, simprocAttr, BEq.rfl, LN_succ, e1, e2, e3, e4, e5, e6, e7, e8, e9, strmC_low]
  · exact fin _ rfl rfl
  refine S2.intro (fun h2 => ?_) (fun h2 => ?_) <;> simp -dsimp only [aqT0, ROp0, aqT, aqU, aqN, aqS, ↓seqK, ↓blkK, ↓loopK, step, stepBin, Nat.add_assoc nid, ↓reduceIte, Option.toList, ← Int.ofNat_tmod, ← Int.ofNat_tdiv, simprocAttr, BEq.rfl, LN_succ, e1, e2, e3, e4, e5, e6, e7, e8, e9, strmC_low]
  · exact fin _ rfl rfl
  clear fin
  have ht0 : 0 < t.length := by
    cases t with
    | nil => simp at h1
    | cons b t => simp
  have hw0 : 0 < w.length := by
    cases w with
    | nil => simp at h2
    | cons b w => simp
  refine CallX.on (next_c s _ nl A p _ (by omega) (by omega) hA (by omega)) (subH_get (by simp only [aqT, aqU, aqN, ↓seqK, ↓blkK, ↓loopK, step, stepBin, Nat.reduceBEq, Nat.reduceBeqDiff, Nat.add_assoc nid, Nat.reduceAdd, reduceCtorEq, ↓reduceIte, Nat.reduceLeDiff, Nat.reduceBneDiff, Option.toList, ← Int.ofNat_tmod, ← Int.ofNat_tdiv, Nat.reduceLT, e1, e2, e3, e4, e5, e6, e7, e8, e9])) ?_
  simp -dsimp only [aqT0, ROp0, aqT, aqU, aqN, aqS, ↓seqK, ↓blkK, ↓loopK, step, stepBin, Nat.add_assoc nid, ↓reduceIte, Option.toList, ← Int.ofNat_tmod, ← Int.ofNat_tdiv, simprocAttr, BEq.rfl, LN_succ, e1, e2, e3, e4, e5, e6, e7, e8, e9, strmC_low]
  have hb := nextV_bd A p (n := (t.length : Int)) (by omega)
  obtain ⟨I, hI⟩ : ∃ I : Nat, nextV A p (t.length : Int) = I := ⟨_, (Int.toNat_of_nonneg hb.1).symm⟩
  rw [hI] at hb ⊢
  refine CallX.on (next_c s _ nl A (p + 1) _ (by omega) (by omega) hA (by omega)) (subH_get (by simp only [aqT, aqU, aqN, ↓seqK, ↓blkK, ↓loopK, step, stepBin, Nat.reduceBEq, Nat.reduceBeqDiff, Nat.add_assoc nid, Nat.reduceAdd, reduceCtorEq, ↓reduceIte, Nat.reduceLeDiff, Nat.reduceBneDiff, Option.toList, ← Int.ofNat_tmod, ← Int.ofNat_tdiv, Nat.reduceLT, e1, e2, e3, e4, e5, e6, e7, e8, e9])) ?_
  simp -dsimp only [aqT0, ROp0, aqT, aqU, aqN, aqS, ↓seqK, ↓blkK, ↓loopK, step, stepBin, Nat.add_assoc nid, ↓reduceIte, Option.toList, ← Int.ofNat_tmod, ← Int.ofNat_tdiv, simprocAttr, BEq.rfl, LN_succ, e1, e2, e3, e4, e5, e6, e7, e8, e9, strmC_low]
  have hb2 := nextV_bd A (p + 1) (n := (w.length : Int)) (by omega)
  obtain ⟨J, hJ⟩ : ∃ J : Nat, nextV A (p + 1) (w.length : Int) = J := ⟨_, (Int.toNat_of_nonneg hb2.1).symm⟩
  rw [hJ] at hb2 ⊢
  refine ⟨by omega, ?_⟩
  refine CallX.on (next_c s _ nl A (p + 1 + 1) _ (by omega) (by omega) hA (by omega)) (subH_get (by simp only [aqT, aqU, aqN, ↓seqK, ↓blkK, ↓loopK, step, stepBin, Nat.reduceBEq, Nat.reduceBeqDiff, Nat.add_assoc nid, Nat.reduceAdd, reduceCtorEq, ↓reduceIte, Nat.reduceLeDiff, Nat.reduceBneDiff, Option.toList, ← Int.ofNat_tmod, ← Int.ofNat_tdiv, Nat.reduceLT, e1, e2, e3, e4, e5, e6, e7, e8, e9])) ?_
  simp -dsimp only [aqT0, ROp0, aqT, aqU, aqN, aqS, ↓seqK, ↓blkK, ↓loopK, step, stepBin, Nat.add_assoc nid, ↓reduceIte, Option.toList, ← Int.ofNat_tmod, ← Int.ofNat_tdiv, simprocAttr, BEq.rfl, LN_succ, e1, e2, e3, e4, e5, e6, e7, e8, e9, strmC_low]
  have henc := enc_len (w.getD J 0)
  have fin : ∀ (x : List UInt8) (st : ST), x.length ≤ t.length + w.length + 2 → getS st.slots 6 = .str x → st.heap = [(s, strmC nl A (p + 1 + 1 + 1)), (s, strmC nl A (p + 1 + 1)), (s, strmC nl A (p + 1)), (s, strmC nl A p)] → EndOK (fun x : List UInt8 × Nat => x.1.length ≤ t.length + w.length + 2 ∧ x.2 ≤ p + 3) (a37).res [(s, strmC nl A p)] nid (fun x => .str x.1) (fun x => [(s, strmC nl A x.2)]) .ret st := fun x st hx hs hh => by
    refine EndOK.mk (x, p + 3) ⟨hx, Nat.le_refl _⟩ ?_
    refine RetOK.go [] [] (.inl rfl) ?_
    rw [hh]
    simp [a37, cvT, step, res, e1, e2, e3, e4, e5, e6, e7, e8, e9, strmC, hs]
    omega
  refine S2.intro (fun h3 => ?_) (fun h3 => ?_) <;> simp -dsimp only [aqT0, ROp0, aqT, aqU, aqN, aqS, ↓seqK, ↓blkK, ↓loopK, step, stepBin, Nat.add_assoc nid, ↓reduceIte, Option.toList, ← Int.ofNat_tmod, ← Int.ofNat_tdiv, simprocAttr, BEq.rfl, LN_succ, e1, e2, e3, e4, e5, e6, e7, e8, e9, strmC_low]
  · refine ⟨⟨by omega, by omega⟩, by simp only [List.length_take]; omega, by unfold inI64; omega, ⟨by omega, by omega⟩, by simp only [List.length_append, List.length_take, List.length_drop]; omega, ?_⟩
    exact fin _ _ (by simp only [List.length_append, List.length_take, List.length_drop]; omega) rfl rfl
  refine S2.intro (fun h4 => ?_) (fun h4 => ?_) <;> simp -dsimp only [aqT0, ROp0, aqT, aqU, aqN, aqS, ↓seqK, ↓blkK, ↓loopK, step, stepBin, Nat.add_assoc nid, ↓reduceIte, Option.toList, ← Int.ofNat_tmod, ← Int.ofNat_tdiv, simprocAttr, BEq.rfl, LN_succ, e1, e2, e3, e4, e5, e6, e7, e8, e9, strmC_low]
  · refine ⟨⟨by omega, by omega⟩, by simp only [List.length_take]; omega, ⟨by omega, by omega⟩, by simp only [List.length_append, List.length_take, List.length_drop]; omega, ?_⟩
    exact fin _ _ (by simp only [List.length_append, List.length_take, List.length_drop]; omega) rfl rfl
  · refine ⟨⟨by omega, by omega⟩, by unfold inI64; omega, ⟨by omega, by omega⟩, by simp only [List.length_take, List.length_drop]; omega, ?_⟩
    exact fin _ _ (by simp only [List.length_append, List.length_take, List.length_drop]; omega) rfl rfl
end Go.Proofs.YthcldfmlfjomfaaGreatDoor
namespace Go.Proofs.YthcldfmlfjomfaaGreatDoor
open Go.RowKit
def arrS (l : List (List UInt8)) : Option ABlk := some (.arr 9 l.length [.s fun i => l.getD i []])
theorem getD_app1 (l : List (List UInt8)) (x : List UInt8) {n : Nat} (hn : l.length = n) : (fun i => if i < n then l.getD i [] else [x].getD (i - n) []) = fun i => (l ++ [x]).getD i [] := by
  subst hn
  funext i
  simp only [List.getD_eq_getElem?_getD, List.getElem?_append]
  split <;> rfl
theorem getD_setS (l : List (List UInt8)) (x : List UInt8) {I : Nat} (hI : I < l.length) : (fun j => if j = I then x else l.getD j []) = fun j => (l.set I x).getD j [] := by
  funext j
  simp only [List.getD_eq_getElem?_getD, List.getElem?_set]
  by_cases h : j = I
  · subst h; simp [hI]
  · rw [if_neg h, if_neg (fun e => h e.symm)]
def ShortRows (m : Nat) (l : List (List UInt8)) : Prop := ∀ r ∈ l, r.length ≤ m
theorem ShortRows.at {m : Nat} {l : List (List UInt8)} (h : ShortRows m l) (i : Nat) : (l.getD i []).length ≤ m := by
  rw [List.getD_eq_getElem?_getD]
  cases hg : l[i]? with
  | none => simp
  | some x => exact h x (List.mem_of_getElem? hg)
theorem ShortRows.set {m : Nat} {l : List (List UInt8)} (h : ShortRows m l) (i : Nat) {x : List UInt8} (hx : x.length ≤ m) : ShortRows m (l.set i x) := fun r hr => by
  rcases List.mem_or_eq_of_mem_set hr with h1 | h1
  · exact h r h1
  · rw [h1]; exact hx
theorem ShortRows.snoc {m : Nat} {l : List (List UInt8)} (h : ShortRows m l) {x : List UInt8} (hx : x.length ≤ m) : ShortRows m (l ++ [x]) := fun r hr => by
  rcases List.mem_append.1 hr with h1 | h1
  · exact h r h1
  · rw [List.mem_singleton.1 h1]; exact hx
theorem ShortRows.mono {m n : Nat} {l : List (List UInt8)} (h : ShortRows m l) (hn : m ≤ n) : ShortRows n l := fun r hr => Nat.le_trans (h r hr) hn
def litS (nl : Bool) (l : List (List UInt8)) : PV := .lit nl l.length [.s fun i => l.getD i []]
theorem take_eqL {l m : List (List UInt8)} {k : Nat} (hl : k < l.length) (hm : k < m.length) (h : l.take k = m.take k) (hx : l.getD k [] = m.getD k []) : l.take (k + 1) = m.take (k + 1) := by
  rw [take_snoc (x := l.getD k []) (by rw [List.getD_eq_getElem?_getD, List.getElem?_eq_getElem hl]; rfl), take_snoc (x := m.getD k []) (by rw [List.getD_eq_getElem?_getD, List.getElem?_eq_getElem hm]; rfl), h, hx]
theorem equalS_c (nl nl' : Bool) (l m : List (List UInt8)) (nid : Nat) (hl : l.length ≤ 1000000000000) (hm : m.length ≤ 1000000000000) : ACall Tryz.prog 54 [litS nl l, litS nl' m] [] nid (.bool (l == m)) [] := by
  refine acall_run c54 (by simp [a54]) ?_
  unfold litS
  simp -dsimp only [aqT, aqU, aqN, ↓seqK, ↓blkK, ↓loopK, step, stepBin, Nat.reduceBEq, Nat.reduceBeqDiff, Nat.add_assoc nid, Nat.reduceAdd, reduceCtorEq, ↓reduceIte, Nat.reduceLeDiff, Nat.reduceBneDiff, Option.toList, ← Int.ofNat_tmod, ← Int.ofNat_tdiv, Nat.reduceLT, a54]
  refine S2.intro (fun h => ?_) (fun h => ?_) <;> simp -dsimp only [aqT, aqU, aqN, ↓seqK, ↓blkK, ↓loopK, step, stepBin, Nat.reduceBEq, Nat.reduceBeqDiff, Nat.add_assoc nid, Nat.reduceAdd, reduceCtorEq, ↓reduceIte, Nat.reduceLeDiff, Nat.reduceBneDiff, Option.toList, ← Int.ofNat_tmod, ← Int.ofNat_tdiv, Nat.reduceLT]
  · refine RetOK.pure (.inl rfl) rfl ?_
    have h1 : l ≠ m := fun e => by subst e; simp at h
    have h2 : (l == m) = false := by simpa using h1
    simp [cvT, step, res, h1]
  have hlm : l.length = m.length := by have : (l.length : Int) = m.length := by simpa using h
                                       omega
  refine LP.mkP (fun k : Nat => k ≤ l.length ∧ l.take k = m.take k) (fun k : Nat => ⟨[(13, .int .i64 k), (12, .int .i64 l.length), (0, litS nl l), (1, litS nl' m)], [], nid + 36, nid⟩) (fun k => l.length + 1 - k) 0 ⟨by omega, rfl⟩ (Cov.go [] [] ?_) (fun k hk => ?_)
  · simp [cvT, step, res, litS]
  unfold litS
  obtain ⟨hk, ht⟩ := hk
  simp -dsimp only [aqT, aqU, aqN, ↓seqK, ↓blkK, ↓loopK, step, stepBin, Nat.reduceBEq, Nat.reduceBeqDiff, Nat.add_assoc nid, Nat.reduceAdd, reduceCtorEq, ↓reduceIte, Nat.reduceLeDiff, Nat.reduceBneDiff, Option.toList, ← Int.ofNat_tmod, ← Int.ofNat_tdiv, Nat.reduceLT]
  refine S2.dec (fun h3 => ?_) (fun h3 => ?_) <;> simp -dsimp only [aqT, aqU, aqN, ↓seqK, ↓blkK, ↓loopK, step, stepBin, Nat.reduceBEq, Nat.reduceBeqDiff, Nat.add_assoc nid, Nat.reduceAdd, reduceCtorEq, ↓reduceIte, Nat.reduceLeDiff, Nat.reduceBneDiff, Option.toList, ← Int.ofNat_tmod, ← Int.ofNat_tdiv, Nat.reduceLT]
  · refine ⟨by omega, by omega, S2.intro (fun h4 => ?_) (fun h4 => ?_)⟩ <;> simp -dsimp only [aqT, aqU, aqN, ↓seqK, ↓blkK, ↓loopK, step, stepBin, Nat.reduceBEq, Nat.reduceBeqDiff, Nat.add_assoc nid, Nat.reduceAdd, reduceCtorEq, ↓reduceIte, Nat.reduceLeDiff, Nat.reduceBneDiff, Option.toList, ← Int.ofNat_tmod, ← Int.ofNat_tdiv, Nat.reduceLT]
    · refine RetOK.pure (.inl rfl) rfl ?_
      have h1 : l ≠ m := fun e => by subst e; simp at h4
      simp [cvT, step, res, h1]
    · have h5 : l.getD k [] = m.getD k [] := by simpa only [Bool.not_eq_false', beq_iff_eq] using h4
      refine ⟨by unfold inI64; omega, k + 1, ⟨⟨by omega, take_eqL (by omega) (by omega) ht h5⟩, by omega⟩, Cov.go [] [] ?_⟩
      simp [cvT, step, res, litS]
  · have hkl : k = l.length := by omega
    have h1 : l = m := by rw [hkl] at ht; rw [List.take_length, hlm, List.take_length] at ht; exact ht
    refine RetOK.pure (.inl rfl) rfl ?_
    simp [cvT, step, res, h1]
end Go.Proofs.YthcldfmlfjomfaaGreatDoor
namespace Go.Proofs.YthcldfmlfjomfaaGreatDoor
open Go.RowKit
theorem len_ne {a b : Int} (h : (a != b) = true) : a ≠ b := by simpa using h
set_option maxHeartbeats 4000000 in
theorem checkVectors_all (nl : Bool) (n : Int) (v : List (List UInt8)) (nid : Nat) (hv : v.length ≤ 1000000000) (hr : ShortRows 1000000000 v) : ACall Tryz.prog 41 [.int .i64 n, litS nl v] [] nid (.int .i64 (patV n v)) [] := by
  refine acall_run c41 (by simp [a41]) ?_
  unfold litS
  simp -dsimp only [aqT, aqU, aqN, ↓seqK, ↓blkK, ↓loopK, step, stepBin, Nat.reduceBEq, Nat.reduceBeqDiff, Nat.add_assoc nid, Nat.reduceAdd, reduceCtorEq, ↓reduceIte, Nat.reduceLeDiff, Nat.reduceBneDiff, Option.toList, ← Int.ofNat_tmod, ← Int.ofNat_tdiv, Nat.reduceLT, a41]
  refine CallO.pure (out_c _ _ _ _) ?_
  cases h0 : outB n 1 100 <;> simp -dsimp only [aqT, aqU, aqN, aqS, ↓seqK, ↓blkK, ↓loopK, step, stepBin, Nat.add_assoc nid, ↓reduceIte, Option.toList, ← Int.ofNat_tmod, ← Int.ofNat_tdiv, simprocAttr, BEq.rfl, LN_succ]
  case true =>
    have e : patV n v = 1 := by unfold patV; rw [if_pos h0]
    rw [e]
    refine RetOK.pure (.inl rfl) rfl ?_
    simp [cvT, step, res]
  refine S2.dec (fun h1 => ?_) (fun h1 => ?_) <;> simp -dsimp only [aqT, aqU, aqN, aqS, ↓seqK, ↓blkK, ↓loopK, step, stepBin, Nat.add_assoc nid, ↓reduceIte, Option.toList, ← Int.ofNat_tmod, ← Int.ofNat_tdiv, simprocAttr, BEq.rfl, LN_succ]
  · have e : patV n v = 2 := by unfold patV; rw [if_neg (by simp [h0]), if_pos (by omega)]
    rw [e]
    refine RetOK.pure (.inl rfl) rfl ?_
    simp [cvT, step, res]
  have eV : patV n v = firstBad (patRow n) v := by unfold patV; rw [if_neg (by simp [h0]), if_neg (by omega)]
  rw [eV]
  refine LP.mkP (fun k : Nat => k ≤ v.length ∧ firstBad (patRow n) (v.take k) = 0) (fun k : Nat => ⟨[(16, .int .i64 k), (15, .int .i64 v.length), (14, .lit nl v.length [.s fun i => v.getD i []]), (0, .int .i64 n)], [], nid + 100, nid⟩) (fun k => v.length + 1 - k) 0 ⟨by omega, rfl⟩ (Cov.go [] [] ?_) (fun k hk => ?_)
  · simp [cvT, step, res]
  obtain ⟨hk, hb⟩ := hk
  simp -dsimp only [aqT, aqU, aqN, aqS, ↓seqK, ↓blkK, ↓loopK, step, stepBin, Nat.add_assoc nid, ↓reduceIte, Option.toList, ← Int.ofNat_tmod, ← Int.ofNat_tdiv, simprocAttr, BEq.rfl, LN_succ]
  refine S2.dec (fun h2 => ?_) (fun h2 => ?_) <;> simp -dsimp only [aqT, aqU, aqN, aqS, ↓seqK, ↓blkK, ↓loopK, step, stepBin, Nat.add_assoc nid, ↓reduceIte, Option.toList, ← Int.ofNat_tmod, ← Int.ofNat_tdiv, simprocAttr, BEq.rfl, LN_succ]
  · have hkl : k < v.length := by omega
    obtain ⟨bad, good⟩ := rowsFB (d := []) hkl hb
    have hrl := hr.at k
    generalize hrr : v.getD k [] = r at *
    refine ⟨by omega, S2.intro (fun h3 => ?_) (fun h3 => ?_)⟩ <;> simp -dsimp only [aqT, aqU, aqN, aqS, ↓seqK, ↓blkK, ↓loopK, step, stepBin, Nat.add_assoc nid, ↓reduceIte, Option.toList, ← Int.ofNat_tmod, ← Int.ofNat_tdiv, simprocAttr, BEq.rfl, LN_succ]
    · have e : patRow n r = 3 := by unfold patRow; rw [if_neg (len_ne h3)]
      rw [bad (by rw [e]; decide), e]
      refine RetOK.pure (.inl rfl) rfl ?_
      simp [cvT, step, res]
    have h3' : (r.length : Int) = n := by simpa using h3
    refine CallO.pure (bits_c r _ (by omega)) ?_
    cases h4 : bitsOk r <;> simp -dsimp only [aqT, aqU, aqN, aqS, ↓seqK, ↓blkK, ↓loopK, step, stepBin, Nat.add_assoc nid, ↓reduceIte, Option.toList, ← Int.ofNat_tmod, ← Int.ofNat_tdiv, simprocAttr, BEq.rfl, LN_succ, Bool.not_true, Bool.not_false]
    · have e : patRow n r = 9 := by unfold patRow; rw [if_pos h3', if_neg (by simp [h4])]
      rw [bad (by rw [e]; decide), e]
      refine RetOK.pure (.inl rfl) rfl ?_
      simp [cvT, step, res]
    · have e : patRow n r = 0 := by unfold patRow; rw [if_pos h3', if_pos h4]
      refine ⟨by unfold inI64; omega, k + 1, ⟨⟨by omega, good e⟩, by omega⟩, Cov.go [] [] ?_⟩
      simp [cvT, step, res]
  · have hkn : k = v.length := by omega
    rw [hkn, List.take_length] at hb
    rw [hb]
    refine RetOK.pure (.inl rfl) rfl ?_
    simp [cvT, step, res]
set_option maxHeartbeats 4000000 in
theorem patternsFault_all (nl : Bool) (n : Int) (v : List (List UInt8)) (nid : Nat) (hv : v.length ≤ 1000000000) (hr : ShortRows 1000000000 v) : ACall Tryz.prog 8 [.int .i64 n, litS nl v] [] nid (.int .i64 (patV n v)) [] := by
  refine acall_run c8 (by simp [a8]) ?_
  unfold litS
  simp -dsimp only [aqT, aqU, aqN, ↓seqK, ↓blkK, ↓loopK, step, stepBin, Nat.reduceBEq, Nat.reduceBeqDiff, Nat.add_assoc nid, Nat.reduceAdd, reduceCtorEq, ↓reduceIte, Nat.reduceLeDiff, Nat.reduceBneDiff, Option.toList, ← Int.ofNat_tmod, ← Int.ofNat_tdiv, Nat.reduceLT, a8]
  refine CallO.pure (in_c _ _ _ _) ?_
  cases h0 : outB n 1 100 <;> simp -dsimp only [aqT, aqU, aqN, aqS, ↓seqK, ↓blkK, ↓loopK, step, stepBin, Nat.add_assoc nid, ↓reduceIte, Option.toList, ← Int.ofNat_tmod, ← Int.ofNat_tdiv, simprocAttr, BEq.rfl, LN_succ, Bool.not_true, Bool.not_false]
  case true =>
    have e : patV n v = 1 := by unfold patV; rw [if_pos h0]
    rw [e]
    refine RetOK.pure (.inl rfl) rfl ?_
    simp [cvT, step, res]
  refine S2.dec (fun h1 => ?_) (fun h1 => ?_) <;> simp -dsimp only [aqT, aqU, aqN, aqS, ↓seqK, ↓blkK, ↓loopK, step, stepBin, Nat.add_assoc nid, ↓reduceIte, Option.toList, ← Int.ofNat_tmod, ← Int.ofNat_tdiv, simprocAttr, BEq.rfl, LN_succ]
  · have e : patV n v = 2 := by unfold patV; rw [if_neg (by simp [h0]), if_pos (by omega)]
    rw [e]
    refine RetOK.pure (.inl rfl) rfl ?_
    simp [cvT, step, res]
  have eV : patV n v = firstBad (patRow n) v := by unfold patV; rw [if_neg (by simp [h0]), if_neg (by omega)]
  rw [eV]
  refine LP.mkP (fun k : Nat => k ≤ v.length ∧ firstBad (patRow n) (v.take k) = 0) (fun k : Nat => ⟨[(18, .int .i64 k), (17, .int .i64 v.length), (16, .lit nl v.length [.s fun i => v.getD i []]), (0, .int .i64 n)], [], nid + 100, nid⟩) (fun k => v.length + 1 - k) 0 ⟨by omega, rfl⟩ (Cov.go [] [] ?_) (fun k hk => ?_)
  · simp [cvT, step, res]
  obtain ⟨hk, hb⟩ := hk
  simp -dsimp only [aqT, aqU, aqN, aqS, ↓seqK, ↓blkK, ↓loopK, step, stepBin, Nat.add_assoc nid, ↓reduceIte, Option.toList, ← Int.ofNat_tmod, ← Int.ofNat_tdiv, simprocAttr, BEq.rfl, LN_succ]
  refine S2.dec (fun h2 => ?_) (fun h2 => ?_) <;> simp -dsimp only [aqT, aqU, aqN, aqS, ↓seqK, ↓blkK, ↓loopK, step, stepBin, Nat.add_assoc nid, ↓reduceIte, Option.toList, ← Int.ofNat_tmod, ← Int.ofNat_tdiv, simprocAttr, BEq.rfl, LN_succ]
  · have hkl : k < v.length := by omega
    obtain ⟨bad, good⟩ := rowsFB (d := []) hkl hb
    have hrl := hr.at k
    generalize hrr : v.getD k [] = r at *
    refine ⟨by omega, S2.intro (fun h3 => ?_) (fun h3 => ?_)⟩ <;> simp -dsimp only [aqT, aqU, aqN, aqS, ↓seqK, ↓blkK, ↓loopK, step, stepBin, Nat.add_assoc nid, ↓reduceIte, Option.toList, ← Int.ofNat_tmod, ← Int.ofNat_tdiv, simprocAttr, BEq.rfl, LN_succ]
    · have e : patRow n r = 3 := by unfold patRow; rw [if_neg (len_ne h3)]
      rw [bad (by rw [e]; decide), e]
      refine RetOK.pure (.inl rfl) rfl ?_
      simp [cvT, step, res]
    have h3' : (r.length : Int) = n := by simpa using h3
    refine CallO.pure (bitsFaultR_c r _ (by omega)) ?_
    cases h4 : bitsOk r <;> simp -dsimp only [aqT, aqU, aqN, aqS, ↓seqK, ↓blkK, ↓loopK, step, stepBin, Nat.add_assoc nid, ↓reduceIte, Option.toList, ← Int.ofNat_tmod, ← Int.ofNat_tdiv, simprocAttr, BEq.rfl, LN_succ]
    · have e : patRow n r = 9 := by unfold patRow; rw [if_pos h3', if_neg (by simp [h4])]
      rw [bad (by rw [e]; decide), e]
      refine RetOK.pure (.inl rfl) rfl ?_
      simp [cvT, step, res]
    · have e : patRow n r = 0 := by unfold patRow; rw [if_pos h3', if_pos h4]
      refine ⟨by unfold inI64; omega, k + 1, ⟨⟨by omega, good e⟩, by omega⟩, Cov.go [] [] ?_⟩
      simp [cvT, step, res]
  · have hkn : k = v.length := by omega
    rw [hkn, List.take_length] at hb
    rw [hb]
    refine RetOK.pure (.inl rfl) rfl ?_
    simp [cvT, step, res]
end Go.Proofs.YthcldfmlfjomfaaGreatDoor
namespace Go.Proofs.YthcldfmlfjomfaaGreatDoor
open Go.RowKit
theorem fill_step (f : Nat → Int) (y : Nat) : (fun j => if j = y then f y else if j < y then f j else 0) = fun j => if j < y + 1 then f j else 0 := by
  funext j
  by_cases h : j = y
  · subst h; simp
  · rw [if_neg h]
    by_cases h2 : j < y
    · rw [if_pos h2, if_pos (by omega)]
    · rw [if_neg h2, if_neg (by omega)]
theorem fill_bytes {l : List UInt8} {n : Nat} (h : l.length = n) : (List.range n).map (fun i => UInt8.ofNat (if i < n then (((l.getD i 0).toNat : Nat) : Int) else 0).toNat) = l := by
  subst h
  apply List.ext_getElem
  · simp
  · intro i h1 h2
    rw [List.getElem_map, List.getElem_range, if_pos h2]
    simp [List.getD_eq_getElem?_getD, List.getElem?_eq_getElem h2]
theorem turnL_take (v : List (List UInt8)) {c x : Nat} (h : x < c) : (turnL v c).take (x + 1) = (turnL v c).take x ++ [colB v x] := by
  refine take_snoc ?_
  unfold turnL
  rw [List.getElem?_map, List.getElem?_range h]
  rfl
set_option maxHeartbeats 8000000 in
theorem turned_all (nl : Bool) (v : List (List UInt8)) (c : Nat) (nid : Nat) (hv : v.length ≤ 1000000000) (hc : c ≤ 1000000000) (hw : ∀ s ∈ v, c ≤ s.length) : ACall Tryz.prog 43 [litS nl v, .int .i64 (c : Nat)] [] nid (.sl nid 0 c) [(nid, arrS (turnL v c))] := by
  have hrl := turnL_len v c
  refine acall_run c43 (by simp [a43]) ?_
  unfold litS
  simp -dsimp only [aqT, aqU, aqN, ↓seqK, ↓blkK, ↓loopK, step, stepBin, Nat.reduceBEq, Nat.reduceBeqDiff, Nat.add_assoc nid, Nat.reduceAdd, reduceCtorEq, ↓reduceIte, Nat.reduceLeDiff, Nat.reduceBneDiff, Option.toList, ← Int.ofNat_tmod, ← Int.ofNat_tdiv, Nat.reduceLT, a43]
  refine LP.mkP (fun x : Nat => x ≤ c) (fun x : Nat => ⟨[(11, .int .i64 x), (10, .int .i64 (c : Nat)), (5, .sl (nid + 4) 0 x), (0, litS nl v)], [(nid + 4, arrS ((turnL v c).take x))], nid + 100, nid⟩) (fun x => c + 1 - x) 0 (by omega) (Cov.go [] [(nid + 4, 1)] ?_) (fun x hx => ?_)
  · simp [cvT, step, res, arrS, litS]
  have hxl : ((turnL v c).take x).length = x := by rw [List.length_take]; omega
  unfold arrS litS
  rw [hxl]
  simp -dsimp only [aqT, aqU, aqN, aqS, ↓seqK, ↓blkK, ↓loopK, step, stepBin, Nat.add_assoc nid, ↓reduceIte, Option.toList, ← Int.ofNat_tmod, ← Int.ofNat_tdiv, simprocAttr, BEq.rfl, LN_succ]
  refine S2.dec (fun h1 => ?_) (fun h1 => ?_) <;> simp -dsimp only [aqT, aqU, aqN, aqS, ↓seqK, ↓blkK, ↓loopK, step, stepBin, Nat.add_assoc nid, ↓reduceIte, Option.toList, ← Int.ofNat_tmod, ← Int.ofNat_tdiv, simprocAttr, BEq.rfl, LN_succ]
  · have hxw : x < c := by omega
    have htk := turnL_take v hxw
    have hRl := colB_len v x
    have hRt := fun y hy => colB_at v x (i := y) hy
    generalize colB v x = R at *
    generalize (turnL v c).take x = T at *
    refine ⟨by omega, ?_⟩
    refine LP.mkP (fun y : Nat => y ≤ v.length) (fun y : Nat => ⟨[(19, .int .i64 y), (18, .int .i64 v.length), (17, litS nl v), (7, .sl (nid + 8) 0 v.length), (6, .int .i64 x), (11, .int .i64 x), (10, .int .i64 (c : Nat)), (5, .sl (nid + 4) 0 x), (0, litS nl v)], [(nid + 4, arrS T), (nid + 8, some (.arr 5 v.length [.i .u8 fun i => if i < y then (((R.getD i 0).toNat : Nat) : Int) else 0]))], nid + 2000, nid⟩) (fun y => v.length + 1 - y) 0 (by omega) (Cov.go [(nid + 8, nid + 120)] [] ?_) (fun y hy => ?_)
    · simp [cvT, step, res, arrS, litS, hxl, Col.const]
    unfold arrS litS
    simp -dsimp only [aqT, aqU, aqN, aqS, ↓seqK, ↓blkK, ↓loopK, step, stepBin, Nat.add_assoc nid, ↓reduceIte, Option.toList, ← Int.ofNat_tmod, ← Int.ofNat_tdiv, simprocAttr, BEq.rfl, LN_succ]
    refine S2.dec (fun h2 => ?_) (fun h2 => ?_) <;> simp -dsimp only [aqT, aqU, aqN, aqS, ↓seqK, ↓blkK, ↓loopK, step, stepBin, Nat.add_assoc nid, ↓reduceIte, Option.toList, ← Int.ofNat_tmod, ← Int.ofNat_tdiv, simprocAttr, BEq.rfl, LN_succ]
    · have hyv : y < v.length := by omega
      have hcv := hRt y hyv
      have hlen := getD_all (P := fun s : List UInt8 => c ≤ s.length) (d := []) hw hyv
      have e : (fun j => if j = y then (((R.getD y 0).toNat : Nat) : Int) else if j < y then (((R.getD j 0).toNat : Nat) : Int) else 0) = fun j => if j < y + 1 then (((R.getD j 0).toNat : Nat) : Int) else 0 := fill_step (fun j => (((R.getD j 0).toNat : Nat) : Int)) y
      rw [← hcv, e]
      refine ⟨by omega, by omega, by omega, by unfold inI64; omega, y + 1, ⟨by omega, by omega⟩, Cov.go [] [] ?_⟩
      simp [cvT, step, res, arrS, litS, hxl, -List.getD_eq_getElem?_getD]
    · have hyn : y = v.length := by omega
      subst hyn
      rw [fill_bytes hRl, getD_app1 T R hxl]
      refine ⟨by omega, by unfold inI64; omega, x + 1, ⟨by omega, by omega⟩, Cov.go [(nid + 4, nid + 2020)] [] ?_⟩
      simp [cvT, step, res, arrS, litS, hxl, htk, -List.getD_eq_getElem?_getD]
  · have hxn : x = c := by omega
    subst hxn
    have hT : (turnL v x).take x = turnL v x := List.take_of_length_le (by omega)
    rw [hT]
    refine RetOK.go [(nid, nid + 4)] [] (.inl rfl) ?_
    simp [a43, cvT, step, res, arrS, hrl, -List.getD_eq_getElem?_getD]
end Go.Proofs.YthcldfmlfjomfaaGreatDoor
namespace Go.Proofs.YthcldfmlfjomfaaGreatDoor
open Go.RowKit
end Go.Proofs.YthcldfmlfjomfaaGreatDoor
namespace Go.Proofs.YthcldfmlfjomfaaGreatDoor
open Go.RowKit
theorem fill_step2 (f g : Nat → Int) (y : Nat) : (fun j => if j = y then f y else if j < y then f j else g j) = fun j => if j < y + 1 then f j else g j := by
  funext j
  by_cases h : j = y
  · subst h; simp
  · rw [if_neg h]
    by_cases h2 : j < y
    · rw [if_pos h2, if_pos (by omega)]
    · rw [if_neg h2, if_neg (by omega)]
theorem full_bytes {l : List UInt8} {n : Nat} (h : l.length = n) (g : Nat → Int) : (List.range n).map (fun i => UInt8.ofNat (if i < n then (((l.getD i 0).toNat : Nat) : Int) else g i).toNat) = l := by
  subst h
  apply List.ext_getElem
  · simp
  · intro i h1 h2
    rw [List.getElem_map, List.getElem_range, if_pos h2]
    simp [List.getD_eq_getElem?_getD, List.getElem?_eq_getElem h2]
end Go.Proofs.YthcldfmlfjomfaaGreatDoor
namespace Go.Proofs.YthcldfmlfjomfaaGreatDoor
open Go.RowKit
theorem goalFault_all (g : Int) (nid : Nat) : ACall Tryz.prog 42 [.int .i64 g] [] nid (.int .i64 (if outB g 1 3 = true then 4 else 0)) [] := by
  refine acall_run c42 (by simp [a42]) ?_
  simp -dsimp only [aqT, aqU, aqN, ↓seqK, ↓blkK, ↓loopK, step, stepBin, Nat.reduceBEq, Nat.reduceBeqDiff, Nat.add_assoc nid, Nat.reduceAdd, reduceCtorEq, ↓reduceIte, Nat.reduceLeDiff, Nat.reduceBneDiff, Option.toList, ← Int.ofNat_tmod, ← Int.ofNat_tdiv, Nat.reduceLT, a42]
  refine CallO.pure (out_c _ _ _ _) ?_
  cases h : outB g 1 3 <;> simp -dsimp only [aqT, aqU, aqN, ↓seqK, ↓blkK, ↓loopK, step, stepBin, Nat.reduceBEq, Nat.reduceBeqDiff, Nat.add_assoc nid, Nat.reduceAdd, reduceCtorEq, ↓reduceIte, Nat.reduceLeDiff, Nat.reduceBneDiff, Option.toList, ← Int.ofNat_tmod, ← Int.ofNat_tdiv, Nat.reduceLT]
  · refine RetOK.pure (.inl rfl) rfl ?_
    simp [cvT, step, res]
  · refine RetOK.pure (.inl rfl) rfl ?_
    simp [cvT, step, res]
end Go.Proofs.YthcldfmlfjomfaaGreatDoor
namespace Go.Proofs.YthcldfmlfjomfaaGreatDoor
open Go.RowKit
def withinB (a b : List UInt8) : Bool := (List.range a.length).all fun i => !(a.getD i 0 == 49 && b.getD i 0 == 48)
def clearB (s : List (List UInt8)) : Bool := (List.range s.length).all fun i => (List.range s.length).all fun k => i == k || !withinB (s.getD i []) (s.getD k [])
def bothB (s : List UInt8) : Bool := s.contains 48 && s.contains 49
def meetsV (g : Nat) (s : List (List UInt8)) : Bool := if g = 3 then clearB s else decide s.Nodup && (decide (g ≠ 2) || s.all bothB)
theorem getD_lt {s : List (List UInt8)} {i : Nat} (h : i < s.length) : s.getD i [] = s[i] := by
  rw [List.getD_eq_getElem?_getD, List.getElem?_eq_getElem h]; rfl
end Go.Proofs.YthcldfmlfjomfaaGreatDoor
namespace Go.Proofs.YthcldfmlfjomfaaGreatDoor
open Go.RowKit Go.Shelf Go.Lib
theorem contains_cc (s : List UInt8) (c : UInt8) (nid : Nat) : ACall Tryz.prog 55 [.str s, .str [c]] [] nid (.bool (decide (0 ≤ Lib.indexByte s c))) [] :=
  acall_below (us := [.string ⟨s.toArray⟩, .string ⟨[c].toArray⟩]) nid Tryz.func55 (by kernel_rfl) (by kernel_rfl) rfl rfl (fun w => by
    have h := Any.strings_Contains_one Tryz.lays144 ⟨s.toArray⟩ c w
    have hf : Tryz.lays144_ren.f 144 = 55 := by kernel_rfl
    rw [hf] at h
    exact h.mono fun e w' ⟨he, hw⟩ => ⟨by simpa using he, hw ▸ Below.refl _ _⟩)
end Go.Proofs.YthcldfmlfjomfaaGreatDoor
namespace Go.Proofs.YthcldfmlfjomfaaGreatDoor
open Go.RowKit
theorem indexByte_posM {l : List UInt8} {c : UInt8} : 0 ≤ Lib.indexByte l c ↔ c ∈ l := by
  induction l with
  | nil => simp [Lib.indexByte]
  | cons b l ih =>
    have hg := Lib.indexByte_ge l c
    simp only [Lib.indexByte, List.mem_cons]
    by_cases h : b = c
    · simp [h]
    · have h1 : (b == c) = false := by simpa using h
      have h2 : ¬ c = b := fun e => h e.symm
      simp only [h1, Bool.false_eq_true, if_false, h2, false_or]
      split
      · rename_i h3
        have : Lib.indexByte l c = -1 := by simpa using h3
        rw [← ih]
        omega
      · rename_i h3
        have : Lib.indexByte l c ≠ -1 := by simpa using h3
        rw [← ih]
        omega
theorem indexByte_has (s : List UInt8) (c : UInt8) : decide (0 ≤ Lib.indexByte s c) = s.contains c := by
  rw [Bool.eq_iff_iff, decide_eq_true_eq, indexByte_posM]
  simp
theorem both_c (s : List UInt8) (nid : Nat) : ACall Tryz.prog 48 [.str s] [] nid (.bool (bothB s)) [] := by
  refine acall_run c48 (by simp [a48]) ?_
  simp -dsimp only [aqT, aqU, aqN, aqS, ↓seqK, ↓blkK, ↓loopK, step, stepBin, Nat.add_assoc nid, ↓reduceIte, Option.toList, ← Int.ofNat_tmod, ← Int.ofNat_tdiv, simprocAttr, BEq.rfl, LN_succ, a48]
  refine CallO.pure (contains_cc s 48 _) ?_
  rw [indexByte_has]
  simp -dsimp only [aqT, aqU, aqN, aqS, ↓seqK, ↓blkK, ↓loopK, step, stepBin, Nat.add_assoc nid, ↓reduceIte, Option.toList, ← Int.ofNat_tmod, ← Int.ofNat_tdiv, simprocAttr, BEq.rfl, LN_succ]
  cases h : s.contains 48 <;> simp -dsimp only [aqT, aqU, aqN, aqS, ↓seqK, ↓blkK, ↓loopK, step, stepBin, Nat.add_assoc nid, ↓reduceIte, Option.toList, ← Int.ofNat_tmod, ← Int.ofNat_tdiv, simprocAttr, BEq.rfl, LN_succ]
  · have e : bothB s = false := by unfold bothB; rw [h]; rfl
    rw [e]
    refine RetOK.pure (.inl rfl) rfl ?_
    simp [cvT, step, res]
  · refine CallO.pure (contains_cc s 49 _) ?_
    rw [indexByte_has]
    simp -dsimp only [aqT, aqU, aqN, aqS, ↓seqK, ↓blkK, ↓loopK, step, stepBin, Nat.add_assoc nid, ↓reduceIte, Option.toList, ← Int.ofNat_tmod, ← Int.ofNat_tdiv, simprocAttr, BEq.rfl, LN_succ]
    have e : bothB s = s.contains 49 := by unfold bothB; rw [h]; rfl
    rw [e]
    refine RetOK.pure (.inl rfl) rfl ?_
    simp [cvT, step, res]
end Go.Proofs.YthcldfmlfjomfaaGreatDoor
namespace Go.Proofs.YthcldfmlfjomfaaGreatDoor
open Go.RowKit
def wOk (a b : List UInt8) (i : Nat) : Bool := !(a.getD i 0 == 49 && b.getD i 0 == 48)
theorem all_snoc {f : Nat → Bool} {k : Nat} (h : (List.range k).all f = true) (hk : f k = true) : (List.range (k + 1)).all f = true := by
  rw [List.range_succ, List.all_append, h, Bool.true_and]; simpa using hk
theorem all_bad {f : Nat → Bool} {k n : Nat} (hk : k < n) (hf : f k = false) : (List.range n).all f = false := by
  cases h : (List.range n).all f
  · rfl
  · rw [List.all_eq_true.1 h k (List.mem_range.2 hk)] at hf; cases hf
theorem byte49 (x : UInt8) : (((x.toNat : Nat) : Int) == 49) = (x == 49) := by
  rw [Bool.eq_iff_iff, beq_iff_eq, beq_iff_eq]
  exact ⟨fun h => UInt8.toNat_inj.1 (by have : x.toNat = 49 := by omega
                                        rw [this]; rfl), fun h => by subst h; rfl⟩
theorem byte48 (x : UInt8) : (((x.toNat : Nat) : Int) == 48) = (x == 48) := by
  rw [Bool.eq_iff_iff, beq_iff_eq, beq_iff_eq]
  exact ⟨fun h => UInt8.toNat_inj.1 (by have : x.toNat = 48 := by omega
                                        rw [this]; rfl), fun h => by subst h; rfl⟩
theorem within_c (a b : List UInt8) (nid : Nat) (hl : a.length = b.length) (ha : a.length ≤ 1000000) : ACall Tryz.prog 73 [.str a, .str b] [] nid (.bool (withinB a b)) [] := by
  refine acall_run c73 (by simp [a73]) ?_
  simp -dsimp only [aqT, aqU, aqN, aqS, ↓seqK, ↓blkK, ↓loopK, step, stepBin, Nat.add_assoc nid, ↓reduceIte, Option.toList, ← Int.ofNat_tmod, ← Int.ofNat_tdiv, simprocAttr, BEq.rfl, LN_succ, a73]
  refine LP.mkP (fun k : Nat => k ≤ a.length ∧ (List.range k).all (wOk a b) = true) (fun k : Nat => ⟨[(8, .int .i64 k), (7, .int .i64 a.length), (0, .str a), (1, .str b)], [], nid + 100, nid⟩) (fun k => a.length + 1 - k) 0 ⟨by omega, rfl⟩ (Cov.go [] [] ?_) (fun k hk => ?_)
  · simp [cvT, step, res]
  obtain ⟨hk, hb⟩ := hk
  simp -dsimp only [aqT, aqU, aqN, aqS, ↓seqK, ↓blkK, ↓loopK, step, stepBin, Nat.add_assoc nid, ↓reduceIte, Option.toList, ← Int.ofNat_tmod, ← Int.ofNat_tdiv, simprocAttr, BEq.rfl, LN_succ]
  refine S2.dec (fun h3 => ?_) (fun h3 => ?_) <;> simp -dsimp only [aqT, aqU, aqN, aqS, ↓seqK, ↓blkK, ↓loopK, step, stepBin, Nat.add_assoc nid, ↓reduceIte, Option.toList, ← Int.ofNat_tmod, ← Int.ofNat_tdiv, simprocAttr, BEq.rfl, LN_succ]
  · have hkl : k < a.length := by omega
    have e1 := byte49 (a.getD k 0)
    have e2 := byte48 (b.getD k 0)
    rw [e1]
    refine ⟨by omega, ?_⟩
    have hw : wOk a b k = !(a.getD k 0 == 49 && b.getD k 0 == 48) := rfl
    have hbad := fun h => all_bad (f := wOk a b) hkl h
    have hsn := fun h => all_snoc (f := wOk a b) hb h
    change _ → withinB a b = false at hbad
    cases hx : (a.getD k 0 == 49) <;> simp -dsimp only [aqT, aqU, aqN, aqS, ↓seqK, ↓blkK, ↓loopK, step, stepBin, Nat.add_assoc nid, ↓reduceIte, Option.toList, ← Int.ofNat_tmod, ← Int.ofNat_tdiv, simprocAttr, BEq.rfl, LN_succ]
    · refine ⟨by unfold inI64; omega, k + 1, ⟨⟨by omega, hsn (by rw [hw, hx]; rfl)⟩, by omega⟩, Cov.go [] [] ?_⟩
      simp [cvT, step, res]
    · rw [e2]
      refine ⟨by omega, ?_⟩
      cases hy : (b.getD k 0 == 48) <;> simp -dsimp only [aqT, aqU, aqN, aqS, ↓seqK, ↓blkK, ↓loopK, step, stepBin, Nat.add_assoc nid, ↓reduceIte, Option.toList, ← Int.ofNat_tmod, ← Int.ofNat_tdiv, simprocAttr, BEq.rfl, LN_succ]
      · refine ⟨by unfold inI64; omega, k + 1, ⟨⟨by omega, hsn (by rw [hw, hx, hy]; rfl)⟩, by omega⟩, Cov.go [] [] ?_⟩
        simp [cvT, step, res]
      · rw [hbad (by rw [hw, hx, hy]; rfl)]
        refine RetOK.pure (.inl rfl) rfl ?_
        simp [cvT, step, res]
  · have hkn : k = a.length := by omega
    have e : withinB a b = true := by rw [hkn] at hb; exact hb
    rw [e]
    refine RetOK.pure (.inl rfl) rfl ?_
    simp [cvT, step, res]
def cOk (s : List (List UInt8)) (i k : Nat) : Bool := i == k || !withinB (s.getD i []) (s.getD k [])
def rowOk (s : List (List UInt8)) (i : Nat) : Bool := (List.range s.length).all (cOk s i)
theorem clear_c (nl : Bool) (s : List (List UInt8)) (w nid : Nat) (hs : s.length ≤ 1000000) (hw : ∀ x ∈ s, x.length = w) (hk : w ≤ 1000000) : ACall Tryz.prog 44 [litS nl s] [] nid (.bool (clearB s)) [] := by
  refine acall_run c44 (by simp [a44]) ?_
  unfold litS
  simp -dsimp only [aqT, aqU, aqN, aqS, ↓seqK, ↓blkK, ↓loopK, step, stepBin, Nat.add_assoc nid, ↓reduceIte, Option.toList, ← Int.ofNat_tmod, ← Int.ofNat_tdiv, simprocAttr, BEq.rfl, LN_succ, a44]
  refine LP.mkP (fun i : Nat => i ≤ s.length ∧ (List.range i).all (rowOk s) = true) (fun i : Nat => ⟨[(9, .int .i64 i), (8, .int .i64 s.length), (7, litS nl s), (0, litS nl s)], [], nid + 100, nid⟩) (fun i => s.length + 1 - i) 0 ⟨by omega, rfl⟩ (Cov.go [] [] ?_) (fun i hi => ?_)
  · simp [cvT, step, res, litS]
  obtain ⟨hi, hb⟩ := hi
  unfold litS
  simp -dsimp only [aqT, aqU, aqN, aqS, ↓seqK, ↓blkK, ↓loopK, step, stepBin, Nat.add_assoc nid, ↓reduceIte, Option.toList, ← Int.ofNat_tmod, ← Int.ofNat_tdiv, simprocAttr, BEq.rfl, LN_succ]
  refine S2.dec (fun h3 => ?_) (fun h3 => ?_) <;> simp -dsimp only [aqT, aqU, aqN, aqS, ↓seqK, ↓blkK, ↓loopK, step, stepBin, Nat.add_assoc nid, ↓reduceIte, Option.toList, ← Int.ofNat_tmod, ← Int.ofNat_tdiv, simprocAttr, BEq.rfl, LN_succ]
  · have hil : i < s.length := by omega
    have hwi := getD_all (P := fun s : List UInt8 => s.length = w) (d := []) hw hil
    have hbad1 := fun h => all_bad (f := rowOk s) hil h
    have hsn1 := fun h => all_snoc (f := rowOk s) hb h
    change _ → clearB s = false at hbad1
    refine ⟨by omega, ?_⟩
    refine LP.mkP (fun k : Nat => k ≤ s.length ∧ (List.range k).all (cOk s i) = true) (fun k : Nat => ⟨[(16, .int .i64 k), (15, .int .i64 s.length), (14, litS nl s), (3, .int .i64 i), (4, .str (s.getD i [])), (9, .int .i64 i), (8, .int .i64 s.length), (7, litS nl s), (0, litS nl s)], [], nid + 1000, nid⟩) (fun k => s.length + 1 - k) 0 ⟨by omega, rfl⟩ (Cov.go [] [] ?_) (fun k hk2 => ?_)
    · simp [cvT, step, res, litS, -List.getD_eq_getElem?_getD]
    obtain ⟨hk2, hb2⟩ := hk2
    unfold litS
    simp -dsimp only [aqT, aqU, aqN, aqS, ↓seqK, ↓blkK, ↓loopK, step, stepBin, Nat.add_assoc nid, ↓reduceIte, Option.toList, ← Int.ofNat_tmod, ← Int.ofNat_tdiv, simprocAttr, BEq.rfl, LN_succ]
    refine S2.dec (fun h4 => ?_) (fun h4 => ?_) <;> simp -dsimp only [aqT, aqU, aqN, aqS, ↓seqK, ↓blkK, ↓loopK, step, stepBin, Nat.add_assoc nid, ↓reduceIte, Option.toList, ← Int.ofNat_tmod, ← Int.ofNat_tdiv, simprocAttr, BEq.rfl, LN_succ]
    · have hkl : k < s.length := by omega
      have hwk := getD_all (P := fun s : List UInt8 => s.length = w) (d := []) hw hkl
      have hbad2 := fun h => all_bad (f := cOk s i) hkl h
      have hsn2 := fun h => all_snoc (f := cOk s i) hb2 h
      change _ → rowOk s i = false at hbad2
      have hc : cOk s i k = (i == k || !withinB (s.getD i []) (s.getD k [])) := rfl
      generalize s.getD i [] = A at *
      generalize s.getD k [] = B at *
      refine ⟨by omega, S2.intro (fun h5 => ?_) (fun h5 => ?_)⟩ <;> simp -dsimp only [aqT, aqU, aqN, aqS, ↓seqK, ↓blkK, ↓loopK, step, stepBin, Nat.add_assoc nid, ↓reduceIte, Option.toList, ← Int.ofNat_tmod, ← Int.ofNat_tdiv, simprocAttr, BEq.rfl, LN_succ, h5]
      · have hne : (i == k) = false := by
          have : ¬ ((i : Nat) : Int) = ((k : Nat) : Int) := by simpa using h5
          rw [beq_eq_false_iff_ne]; omega
        refine CallO.pure (within_c A B _ (by omega) (by omega)) ?_
        simp -dsimp only [aqT, aqU, aqN, aqS, ↓seqK, ↓blkK, ↓loopK, step, stepBin, Nat.add_assoc nid, ↓reduceIte, Option.toList, ← Int.ofNat_tmod, ← Int.ofNat_tdiv, simprocAttr, BEq.rfl, LN_succ, h5]
        cases hx : withinB A B <;> simp -dsimp only [aqT, aqU, aqN, aqS, ↓seqK, ↓blkK, ↓loopK, step, stepBin, Nat.add_assoc nid, ↓reduceIte, Option.toList, ← Int.ofNat_tmod, ← Int.ofNat_tdiv, simprocAttr, BEq.rfl, LN_succ]
        · refine ⟨by unfold inI64; omega, k + 1, ⟨⟨by omega, hsn2 (by rw [hc, hx, hne]; rfl)⟩, by omega⟩, Cov.go [] [] ?_⟩
          simp [cvT, step, res, litS]
        · rw [hbad1 (hbad2 (by rw [hc, hx, hne]; rfl))]
          refine RetOK.pure (.inl rfl) rfl ?_
          simp [cvT, step, res]
      · have heq : (i == k) = true := by
          have : ((i : Nat) : Int) = ((k : Nat) : Int) := by simpa using h5
          rw [beq_iff_eq]; omega
        refine ⟨by unfold inI64; omega, k + 1, ⟨⟨by omega, hsn2 (by rw [hc, heq]; rfl)⟩, by omega⟩, Cov.go [] [] ?_⟩
        simp [cvT, step, res, litS]
    · have hkn : k = s.length := by omega
      have e : rowOk s i = true := by rw [hkn] at hb2; exact hb2
      refine ⟨by unfold inI64; omega, i + 1, ⟨⟨by omega, hsn1 e⟩, by omega⟩, Cov.go [] [] ?_⟩
      simp [cvT, step, res, litS]
  · have hin : i = s.length := by omega
    have e : clearB s = true := by rw [hin] at hb; exact hb
    rw [e]
    refine RetOK.pure (.inl rfl) rfl ?_
    simp [cvT, step, res]
end Go.Proofs.YthcldfmlfjomfaaGreatDoor
namespace Go.Proofs.YthcldfmlfjomfaaGreatDoor
open Go.RowKit Go.Shelf Go.Sort
def sortS (l : List (List UInt8)) : List (List UInt8) := l.mergeSort fun x y => decide (x ≤ y)
theorem sortS_perm (l : List (List UInt8)) : (sortS l).Perm l := List.mergeSort_perm _ _
theorem sortS_len (l : List (List UInt8)) : (sortS l).length = l.length := (sortS_perm l).length_eq
theorem sortS_c (ix : Nat) (l : List (List UInt8)) (nid : Nat) (hpos : 0 < l.length) (hl : l.length < 4611686018427387904) :
    ACall Tryz.prog 75 [.sl ix 0 l.length] [(ix, arrS l)] nid (.tup []) [(ix, arrS (sortS l))] :=
  acall_sortedS (T := 9) ix nid Tryz.func75 (by kernel_rfl) (by kernel_rfl) (by decide) hpos (sortS_len l) (fun w blk off cap hH hblk => by
    have h := Any.slices_Sort_string Tryz.lays190 blk off cap l w hH hblk hl
    have hf : Tryz.lays190_ren.f 190 = 75 := by kernel_rfl
    rw [hf] at h
    exact h)
theorem getD_ltS {s : List (List UInt8)} {i : Nat} (h : i < s.length) : s.getD i [] = s[i] := by
  simp [List.getD_eq_getElem?_getD, h]
def adjOk (s : List (List UInt8)) : Prop := ∀ i, i + 1 < s.length → s.getD (i + 1) [] ≠ s.getD i []
theorem sortS_le (l : List (List UInt8)) : (sortS l).Pairwise fun a b => a ≤ b := by
  have h := List.pairwise_mergeSort (le := fun x y : List UInt8 => decide (x ≤ y)) (fun a b c h1 h2 => by
      simp only [decide_eq_true_eq] at *
      exact List.le_trans h1 h2) (fun a b => by
      simp only [Bool.or_eq_true, decide_eq_true_eq]
      exact List.le_total a b) l
  exact h.imp fun h => by simpa using h
theorem sortS_nodup (l : List (List UInt8)) : adjOk (sortS l) ↔ l.Nodup := by
  rw [← (sortS_perm l).nodup_iff]
  constructor
  · intro h
    have hs := List.pairwise_iff_getElem.1 (sortS_le l)
    rw [List.nodup_iff_pairwise_ne, List.pairwise_iff_getElem]
    intro i j hi hj hij e
    have h1 := h i (by omega)
    rw [getD_ltS (by omega), getD_ltS hi] at h1
    apply h1
    have a1 := hs i (i + 1) hi (by omega) (by omega)
    by_cases hji : j = i + 1
    · subst hji; exact e.symm
    · have a2 := hs (i + 1) j (by omega) hj (by omega)
      rw [← e] at a2
      exact List.le_antisymm a2 a1
  · intro h i hi
    rw [List.nodup_iff_pairwise_ne, List.pairwise_iff_getElem] at h
    rw [getD_ltS hi, getD_ltS (by omega)]
    exact fun e => h i (i + 1) (by omega) hi (by omega) e.symm
set_option maxHeartbeats 4000000 in
theorem compact_no (ix : Nat) (l : List (List UInt8)) (nid : Nat) (h : ix < nid) (hl : l.length ≤ 1000000) (ha : adjOk l) : ACall Tryz.prog 76 [.sl ix 0 l.length] [(ix, arrS l)] nid (.sl ix 0 l.length) [(ix, arrS l)] := by
  obtain ⟨e1, e2, e3, e4, e5, e6, e7, e8, e9⟩ := id_all h
  refine acall_run c76 (by simp [a76]) ?_
  unfold arrS
  simp -dsimp only [a76, aqT, aqU, aqN, aqS, ↓seqK, ↓blkK, ↓loopK, step, stepBin, Nat.add_assoc nid, ↓reduceIte, Option.toList, ← Int.ofNat_tmod, ← Int.ofNat_tdiv, simprocAttr, BEq.rfl, LN_succ, e1, e2, e3, e4, e5, e6, e7, e8, e9]
  refine S2.dec (fun h3 => ?_) (fun h3 => ?_) <;> simp -dsimp only [aqT, aqU, aqN, aqS, ↓seqK, ↓blkK, ↓loopK, step, stepBin, Nat.add_assoc nid, ↓reduceIte, Option.toList, ← Int.ofNat_tmod, ← Int.ofNat_tdiv, simprocAttr, BEq.rfl, LN_succ, e1, e2, e3, e4, e5, e6, e7, e8, e9]
  · refine RetOK.go [] [] (.inl rfl) ?_
    simp [a76, cvT, step, res, e1, e2, e3, e4, e5, e6, e7, e8, e9, arrS, -List.getD_eq_getElem?_getD]
  refine LP.mkP (fun k : Nat => 1 ≤ k ∧ k ≤ l.length) (fun k : Nat => ⟨[(3, .int .i64 k), (0, .sl ix 0 l.length)], [(ix, arrS l)], nid + 100, nid⟩) (fun k => l.length + 1 - k) 1 ⟨by omega, by omega⟩ (Cov.go [] [] ?_) (fun k hk => ?_)
  · simp [cvT, step, res, e1, e2, e3, e4, e5, e6, e7, e8, e9, arrS]
  obtain ⟨hk0, hk⟩ := hk
  unfold arrS
  simp -dsimp only [aqT, aqU, aqN, aqS, ↓seqK, ↓blkK, ↓loopK, step, stepBin, Nat.add_assoc nid, ↓reduceIte, Option.toList, ← Int.ofNat_tmod, ← Int.ofNat_tdiv, simprocAttr, BEq.rfl, LN_succ, e1, e2, e3, e4, e5, e6, e7, e8, e9]
  refine S2.dec (fun h4 => ?_) (fun h4 => ?_) <;> simp -dsimp only [aqT, aqU, aqN, aqS, ↓seqK, ↓blkK, ↓loopK, step, stepBin, Nat.add_assoc nid, ↓reduceIte, Option.toList, ← Int.ofNat_tmod, ← Int.ofNat_tdiv, simprocAttr, BEq.rfl, LN_succ, e1, e2, e3, e4, e5, e6, e7, e8, e9]
  · have hkl : k < l.length := by omega
    have e : ((k : Nat) : Int) - 1 = ((k - 1 : Nat) : Int) := by omega
    have hne := ha (k - 1) (by omega)
    rw [show k - 1 + 1 = k by omega] at hne
    have hf : (l.getD k [] == l.getD (k - 1) []) = false := by simpa using hne
    rw [e]
    refine ⟨by omega, by unfold inI64; omega, by omega, ?_⟩
    rw [Int.toNat_natCast, hf]
    simp -dsimp only [aqT, aqU, aqN, aqS, ↓seqK, ↓blkK, ↓loopK, step, stepBin, Nat.add_assoc nid, ↓reduceIte, Option.toList, ← Int.ofNat_tmod, ← Int.ofNat_tdiv, simprocAttr, BEq.rfl, LN_succ, e1, e2, e3, e4, e5, e6, e7, e8, e9]
    refine ⟨by unfold inI64; omega, k + 1, ⟨⟨by omega, by omega⟩, by omega⟩, Cov.go [] [] ?_⟩
    simp [cvT, step, res, e1, e2, e3, e4, e5, e6, e7, e8, e9, arrS, -List.getD_eq_getElem?_getD]
  · refine RetOK.go [] [] (.inl rfl) ?_
    simp [a76, cvT, step, res, e1, e2, e3, e4, e5, e6, e7, e8, e9, arrS, -List.getD_eq_getElem?_getD]
end Go.Proofs.YthcldfmlfjomfaaGreatDoor

namespace Go.Proofs.YthcldfmlfjomfaaGreatDoor
open Go.RowKit
def idxF (F : List UInt8 → Bool) (l : List (List UInt8)) : Int := if l.any F = true then ((l.findIdx F : Nat) : Int) else -1
theorem idxF_at {F : List UInt8 → Bool} {l : List (List UInt8)} {k : Nat} (hk : k < l.length) (h : F (l.getD k []) = true) (h0 : ∀ j, j < k → F (l.getD j []) = false) : idxF F l = (k : Nat) := by
  have e : l.findIdx F = k := (List.findIdx_eq hk).2 ⟨by rw [getD_lt hk] at h; exact h, fun j hj => by have := h0 j hj; rw [getD_lt (by omega)] at this; exact this⟩
  unfold idxF
  rw [if_pos, e]
  refine List.any_eq_true.2 ⟨l[k], List.getElem_mem hk, ?_⟩
  rw [getD_lt hk] at h; exact h
theorem idxF_no {F : List UInt8 → Bool} {l : List (List UInt8)} (h0 : ∀ j, j < l.length → F (l.getD j []) = false) : idxF F l = -1 := by
  unfold idxF
  rw [if_neg]
  intro h
  obtain ⟨x, hx, hf⟩ := List.any_eq_true.1 h
  obtain ⟨j, hj, rfl⟩ := List.getElem_of_mem hx
  have := h0 j hj
  rw [getD_lt hj, hf] at this; cases this
theorem indexM_c (f : Nat) (F : List UInt8 → Bool) (nl : Bool) (l : List (List UInt8)) (nid : Nat) (hl : l.length ≤ 1000000) (hf : ∀ x m, ACall Tryz.prog f [.str x] [] m (.bool (F x)) []) :
    ACall Tryz.prog 77 [litS nl l, .fn f []] [] nid (.int .i64 (idxF F l)) [] := by
  refine acall_run c77 (by simp [a77]) ?_
  unfold litS
  simp -dsimp only [aqT, aqU, aqN, aqS, ↓seqK, ↓blkK, ↓loopK, step, stepBin, Nat.add_assoc nid, ↓reduceIte, Option.toList, ← Int.ofNat_tmod, ← Int.ofNat_tdiv, simprocAttr, BEq.rfl, LN_succ, a77]
  refine LP.mkP (fun k : Nat => k ≤ l.length ∧ ∀ j, j < k → F (l.getD j []) = false) (fun k : Nat => ⟨[(8, .int .i64 k), (7, .int .i64 l.length), (0, litS nl l), (1, .fn f [])], [], nid + 100, nid⟩) (fun k => l.length + 1 - k) 0 ⟨by omega, fun j hj => by omega⟩ (Cov.go [] [] ?_) (fun k hk => ?_)
  · simp [cvT, step, res, litS]
  obtain ⟨hk, hb⟩ := hk
  unfold litS
  simp -dsimp only [aqT, aqU, aqN, aqS, ↓seqK, ↓blkK, ↓loopK, step, stepBin, Nat.add_assoc nid, ↓reduceIte, Option.toList, ← Int.ofNat_tmod, ← Int.ofNat_tdiv, simprocAttr, BEq.rfl, LN_succ]
  refine S2.dec (fun h3 => ?_) (fun h3 => ?_) <;> simp -dsimp only [aqT, aqU, aqN, aqS, ↓seqK, ↓blkK, ↓loopK, step, stepBin, Nat.add_assoc nid, ↓reduceIte, Option.toList, ← Int.ofNat_tmod, ← Int.ofNat_tdiv, simprocAttr, BEq.rfl, LN_succ]
  · have hkl : k < l.length := by omega
    have hat := fun h => idxF_at (F := F) hkl h hb
    have hnx : F (l.getD k []) = false → ∀ j, j < k + 1 → F (l.getD j []) = false := fun h j hj => by
      by_cases e : j = k
      · rw [e]; exact h
      · exact hb j (by omega)
    generalize l.getD k [] = x at *
    refine ⟨by omega, CallO.pure (hf x _) ?_⟩
    simp -dsimp only [aqT, aqU, aqN, aqS, ↓seqK, ↓blkK, ↓loopK, step, stepBin, Nat.add_assoc nid, ↓reduceIte, Option.toList, ← Int.ofNat_tmod, ← Int.ofNat_tdiv, simprocAttr, BEq.rfl, LN_succ]
    cases hx : F x <;> simp -dsimp only [aqT, aqU, aqN, aqS, ↓seqK, ↓blkK, ↓loopK, step, stepBin, Nat.add_assoc nid, ↓reduceIte, Option.toList, ← Int.ofNat_tmod, ← Int.ofNat_tdiv, simprocAttr, BEq.rfl, LN_succ]
    · refine ⟨by unfold inI64; omega, k + 1, ⟨⟨by omega, hnx hx⟩, by omega⟩, Cov.go [] [] ?_⟩
      simp [cvT, step, res, litS]
    · rw [hat hx]
      refine RetOK.pure (.inl rfl) rfl ?_
      simp [cvT, step, res]
  · have hkn : k = l.length := by omega
    subst hkn
    rw [idxF_no hb]
    refine RetOK.pure (.inl rfl) rfl ?_
    simp [cvT, step, res]
theorem containsM_c (f : Nat) (F : List UInt8 → Bool) (nl : Bool) (l : List (List UInt8)) (nid : Nat) (hl : l.length ≤ 1000000) (hf : ∀ x m, ACall Tryz.prog f [.str x] [] m (.bool (F x)) []) :
    ACall Tryz.prog 46 [litS nl l, .fn f []] [] nid (.bool (l.any F)) [] := by
  have e : decide (0 ≤ idxF F l) = l.any F := by
    unfold idxF
    cases h : l.any F <;> simp
  refine acall_run c46 (by simp [a46]) ?_
  simp -dsimp only [aqT, aqU, aqN, aqS, ↓seqK, ↓blkK, ↓loopK, step, stepBin, Nat.add_assoc nid, ↓reduceIte, Option.toList, ← Int.ofNat_tmod, ← Int.ofNat_tdiv, simprocAttr, BEq.rfl, LN_succ, a46]
  refine CallO.pure (indexM_c f F nl l _ hl hf) ?_
  simp -dsimp only [aqT, aqU, aqN, aqS, ↓seqK, ↓blkK, ↓loopK, step, stepBin, Nat.add_assoc nid, ↓reduceIte, Option.toList, ← Int.ofNat_tmod, ← Int.ofNat_tdiv, simprocAttr, BEq.rfl, LN_succ]
  rw [e]
  refine RetOK.pure (.inl rfl) rfl ?_
  simp [cvT, step, res]
theorem notBoth_c (s : List UInt8) (nid : Nat) : ACall Tryz.prog 47 [.str s] [] nid (.bool (!bothB s)) [] := by
  refine acall_run c47 (by simp [a47]) ?_
  simp -dsimp only [aqT, aqU, aqN, aqS, ↓seqK, ↓blkK, ↓loopK, step, stepBin, Nat.add_assoc nid, ↓reduceIte, Option.toList, ← Int.ofNat_tmod, ← Int.ofNat_tdiv, simprocAttr, BEq.rfl, LN_succ, a47]
  refine CallO.pure (both_c s _) ?_
  simp -dsimp only [aqT, aqU, aqN, aqS, ↓seqK, ↓blkK, ↓loopK, step, stepBin, Nat.add_assoc nid, ↓reduceIte, Option.toList, ← Int.ofNat_tmod, ← Int.ofNat_tdiv, simprocAttr, BEq.rfl, LN_succ]
  refine RetOK.pure (.inl rfl) rfl ?_
  simp [cvT, step, res]
theorem cloneM_c (nl : Bool) (l : List (List UInt8)) (nid : Nat) (hl : l.length ≤ 1000000000) (hnl : nl = true → l = []) : ACall Tryz.prog 74 [litS nl l] [] nid (.sl nid 0 l.length) [(nid, arrS l)] := by
  refine acall_run c74 (by simp [a74]) ?_
  unfold litS
  simp -dsimp only [aqT, aqU, aqN, ↓seqK, ↓blkK, ↓loopK, step, stepBin, Nat.reduceBEq, Nat.reduceBeqDiff, Nat.add_assoc nid, Nat.reduceAdd, reduceCtorEq, ↓reduceIte, Nat.reduceLeDiff, Nat.reduceBneDiff, Option.toList, ← Int.ofNat_tmod, ← Int.ofNat_tdiv, Nat.reduceLT, a74]
  refine S2.intro (fun h => ?_) (fun h => ?_) <;> simp -dsimp only [aqT, aqU, aqN, ↓seqK, ↓blkK, ↓loopK, step, stepBin, Nat.reduceBEq, Nat.reduceBeqDiff, Nat.add_assoc nid, Nat.reduceAdd, reduceCtorEq, ↓reduceIte, Nat.reduceLeDiff, Nat.reduceBneDiff, Option.toList, ← Int.ofNat_tmod, ← Int.ofNat_tdiv, Nat.reduceLT]
  · refine RetOK.go [] [(nid, 1)] (.inl rfl) ?_
    have := hnl h
    subst this
    simp [a74, cvT, step, res, arrS]
  · refine ⟨⟨by omega, by omega⟩, RetOK.go [(nid, nid + 20)] [] (.inl rfl) ?_⟩
    simp [a74, cvT, step, res, arrS]
end Go.Proofs.YthcldfmlfjomfaaGreatDoor


namespace Go.Proofs.YthcldfmlfjomfaaGreatDoor
open Go.RowKit
theorem firstP_c (nl : Bool) (l : List Int) (nid : Nat) (hl : l.length ≤ 1000000000) : ACall Tryz.prog 40 [litI nl l] [] nid (.int .i64 (firstBad (fun x : Int => x) l)) [] := by
  refine acall_run c40 (by simp [a40]) ?_
  unfold litI
  simp -dsimp only [aqT, aqU, aqN, ↓seqK, ↓blkK, ↓loopK, step, stepBin, Nat.reduceBEq, Nat.reduceBeqDiff, Nat.add_assoc nid, Nat.reduceAdd, reduceCtorEq, ↓reduceIte, Nat.reduceLeDiff, Nat.reduceBneDiff, Option.toList, ← Int.ofNat_tmod, ← Int.ofNat_tdiv, Nat.reduceLT, a40]
  refine LP.mkP (fun k : Nat => k ≤ l.length ∧ firstBad (fun x : Int => x) (l.take k) = 0) (fun k : Nat => ⟨[(7, .int .i64 k), (6, .int .i64 l.length), (5, litI nl l)], [], nid + 100, nid⟩) (fun k => l.length + 1 - k) 0 ⟨by omega, rfl⟩ (Cov.go [] [] ?_) (fun k hk => ?_)
  · simp [cvT, step, res, litI]
  unfold litI
  obtain ⟨hk, hb⟩ := hk
  simp -dsimp only [aqT, aqU, aqN, aqS, ↓seqK, ↓blkK, ↓loopK, step, stepBin, Nat.add_assoc nid, ↓reduceIte, Option.toList, ← Int.ofNat_tmod, ← Int.ofNat_tdiv, simprocAttr, BEq.rfl, LN_succ]
  refine S2.dec (fun h3 => ?_) (fun h3 => ?_) <;> simp -dsimp only [aqT, aqU, aqN, aqS, ↓seqK, ↓blkK, ↓loopK, step, stepBin, Nat.add_assoc nid, ↓reduceIte, Option.toList, ← Int.ofNat_tmod, ← Int.ofNat_tdiv, simprocAttr, BEq.rfl, LN_succ]
  · have hkl : k < l.length := by omega
    obtain ⟨bad, good⟩ := rowsFB (d := 0) (f := fun x : Int => x) hkl hb
    refine ⟨by omega, S2.intro (fun h4 => ?_) (fun h4 => ?_)⟩ <;> simp -dsimp only [aqT, aqU, aqN, aqS, ↓seqK, ↓blkK, ↓loopK, step, stepBin, Nat.add_assoc nid, ↓reduceIte, Option.toList, ← Int.ofNat_tmod, ← Int.ofNat_tdiv, simprocAttr, BEq.rfl, LN_succ]
    · rw [bad (by simpa using h4)]
      refine RetOK.pure (.inl rfl) rfl ?_
      simp [cvT, step, res]
    · refine ⟨by unfold inI64; omega, k + 1, ⟨⟨by omega, good (by simpa using h4)⟩, by omega⟩, Cov.go [] [] ?_⟩
      simp [cvT, step, res, litI]
  · have hkn : k = l.length := by omega
    subst hkn
    rw [List.take_length] at hb
    rw [hb]
    refine RetOK.pure (.inl rfl) rfl ?_
    simp [cvT, step, res]
def andU (a b : Int) : Int := IntKind.u64.wrap ((BitVec.ofInt IntKind.u64.bits a &&& BitVec.ofInt IntKind.u64.bits b).toNat : Int)
def o1 (x : Int) : Int := IntKind.u64.wrap (andU (x.fdiv (2 ^ min 1 IntKind.u64.bits)) 6148914691236517205 + andU x 6148914691236517205)
def o2 (x : Int) : Int := IntKind.u64.wrap (andU (x.fdiv (2 ^ min 2 IntKind.u64.bits)) 3689348814741910323 + andU x 3689348814741910323)
def kindI (g : Int) : Int := if outB g 1 3 = true then 4 else 0
theorem kind_c (g : Int) (nid : Nat) : ACall Tryz.prog 42 [.int .i64 g] [] nid (.int .i64 (kindI g)) [] := goalFault_all g nid
end Go.Proofs.YthcldfmlfjomfaaGreatDoor
namespace Go.Proofs.YthcldfmlfjomfaaGreatDoor
open Go.RowKit
set_option maxHeartbeats 4000000 in
theorem meets_3 (nl : Bool) (n : Nat) (v : List (List UInt8)) (nid : Nat) (hv : PatOk (n : Nat) v) : ACall Tryz.prog 9 [.int .i64 (n : Nat), litS nl v, .int .i64 3] [] nid (.tup [.bool (meetsV 3 (turnL v n)), .int .i64 0]) [] := by
  have hlen := hv.len
  have hlo := hv.lo
  have hhi := hv.hi
  have hc := patV_ok.2 hv
  have hrow := fun s hs => (hv.row s hs).1
  have hk : kindI 3 = 0 := by decide
  have e : meetsV 3 (turnL v n) = clearB (turnL v n) := by unfold meetsV; rw [if_pos rfl]
  have hwl : ∀ x ∈ turnL v n, x.length = v.length := fun x hx => by
    obtain ⟨k, _, rfl⟩ := turnL_mem hx
    exact colB_len _ _
  have htl := turnL_len v n
  have hcl := fun nl' m => clear_c nl' (turnL v n) v.length m (by omega) hwl (by omega)
  unfold litS at hcl
  rw [htl] at hcl
  refine acall_run c9 (by simp [a9]) ?_
  unfold litS
  simp -dsimp only [aqT, aqU, aqN, aqS, ↓seqK, ↓blkK, ↓loopK, step, stepBin, Nat.add_assoc nid, ↓reduceIte, Option.toList, ← Int.ofNat_tmod, ← Int.ofNat_tdiv, simprocAttr, BEq.rfl, LN_succ, a9]
  refine CallO.pure (checkVectors_all nl n v _ (by omega) (fun s hs => by have := hrow s hs; omega)) ?_
  rw [hc]
  simp -dsimp only [aqT, aqU, aqN, aqS, ↓seqK, ↓blkK, ↓loopK, step, stepBin, Nat.add_assoc nid, ↓reduceIte, Option.toList, ← Int.ofNat_tmod, ← Int.ofNat_tdiv, simprocAttr, BEq.rfl, LN_succ]
  refine CallO.pure (kind_c 3 _) ?_
  rw [hk]
  simp -dsimp only [aqT, aqU, aqN, aqS, ↓seqK, ↓blkK, ↓loopK, step, stepBin, Nat.add_assoc nid, ↓reduceIte, Option.toList, ← Int.ofNat_tmod, ← Int.ofNat_tdiv, simprocAttr, BEq.rfl, LN_succ]
  refine CallO.gave1 (by simp only [aqT, aqU, aqN, aqS, ↓seqK, ↓blkK, ↓loopK, step, stepBin, Nat.add_assoc nid, ↓reduceIte, Option.toList, ← Int.ofNat_tmod, ← Int.ofNat_tdiv, simprocAttr, BEq.rfl, LN_succ]; rfl) (fun nl' => firstP_c nl' [0, 0] _ (by simp)) rfl ?_
  simp -dsimp only [aqT, aqU, aqN, aqS, ↓seqK, ↓blkK, ↓loopK, step, stepBin, Nat.add_assoc nid, ↓reduceIte, Option.toList, ← Int.ofNat_tmod, ← Int.ofNat_tdiv, simprocAttr, BEq.rfl, LN_succ, firstBad]
  refine CallO.pure (turned_all nl v n _ (by omega) (by omega) (fun s hs => by have := hrow s hs; omega)) ?_
  unfold arrS
  simp -dsimp only [aqT, aqU, aqN, aqS, ↓seqK, ↓blkK, ↓loopK, step, stepBin, Nat.add_assoc nid, ↓reduceIte, Option.toList, ← Int.ofNat_tmod, ← Int.ofNat_tdiv, simprocAttr, BEq.rfl, LN_succ]
  rw [e]
  refine CallO.lent [nid + 56] (fun nl' => by
    simp only [lends, lend, aqT, aqU, aqN, aqS, ↓seqK, ↓blkK, ↓loopK, step, stepBin, Nat.add_assoc nid, ↓reduceIte, Option.toList, ← Int.ofNat_tmod, ← Int.ofNat_tdiv, simprocAttr, BEq.rfl, LN_succ]
    exact hcl (nl' _) _) rfl rfl (by simp only [List.mem_singleton, forall_eq, aqT, aqU, aqN, aqS, ↓seqK, ↓blkK, ↓loopK, step, stepBin, Nat.add_assoc nid, ↓reduceIte, Option.toList, ← Int.ofNat_tmod, ← Int.ofNat_tdiv, simprocAttr, BEq.rfl, LN_succ]) ?_
  simp -dsimp only [aqT, aqU, aqN, aqS, ↓seqK, ↓blkK, ↓loopK, step, stepBin, Nat.add_assoc nid, ↓reduceIte, Option.toList, ← Int.ofNat_tmod, ← Int.ofNat_tdiv, simprocAttr, BEq.rfl, LN_succ]
  refine RetOK.pure (.inl rfl) rfl ?_
  simp [cvT, step, res]
end Go.Proofs.YthcldfmlfjomfaaGreatDoor
namespace Go.Proofs.YthcldfmlfjomfaaGreatDoor
open Go.RowKit
def arrG (n : Nat) (g : Nat → List UInt8) : Option ABlk := some (.arr 9 n [.s g])
structure CmpS where
  k2 : Nat
  kk : Nat
  g : Nat → List UInt8
set_option maxHeartbeats 4000000 in
theorem compact_sh (ix : Nat) (l : List (List UInt8)) (nid : Nat) (h : ix < nid) (hl : l.length ≤ 1000000) (ha : ¬ adjOk l) :
    ∃ p : Nat × (Nat → List UInt8), p.1 < l.length ∧ ACall Tryz.prog 76 [.sl ix 0 l.length] [(ix, arrS l)] nid (.sl ix 0 p.1) [(ix, arrG l.length p.2)] := by
  obtain ⟨e1, e2, e3, e4, e5, e6, e7, e8, e9⟩ := id_all h
  refine acall_ex c76 (by simp [a76]) ?_
  unfold arrS
  simp -dsimp only [aqT0, ROp0, aqT, aqU, aqN, aqS, ↓seqK, ↓blkK, ↓loopK, step, stepBin, Nat.add_assoc nid, ↓reduceIte, Option.toList, ← Int.ofNat_tmod, ← Int.ofNat_tdiv, simprocAttr, BEq.rfl, LN_succ, e1, e2, e3, e4, e5, e6, e7, e8, e9, a76]
  refine S2.dec (fun h3 => ?_) (fun h3 => ?_) <;> simp -dsimp only [aqT0, ROp0, aqT, aqU, aqN, aqS, ↓seqK, ↓blkK, ↓loopK, step, stepBin, Nat.add_assoc nid, ↓reduceIte, Option.toList, ← Int.ofNat_tmod, ← Int.ofNat_tdiv, simprocAttr, BEq.rfl, LN_succ, e1, e2, e3, e4, e5, e6, e7, e8, e9]
  · exact absurd (fun i hi => by omega) ha
  refine LP0.mkP (fun k : Nat => 1 ≤ k ∧ k ≤ l.length ∧ ∀ i, i + 1 < k → l.getD (i + 1) [] ≠ l.getD i []) (fun k : Nat => ⟨[(3, .int .i64 k), (0, .sl ix 0 l.length)], [(ix, arrS l)], nid + 100, nid⟩) (fun k => l.length + 1 - k) 1 ⟨by omega, by omega, fun i hi => by omega⟩ (Cov.go [] [] ?_) (fun k hk => ?_)
  · simp [cvT, step, res, e1, e2, e3, e4, e5, e6, e7, e8, e9, arrS]
  obtain ⟨hk0, hk, hadj⟩ := hk
  unfold arrS
  simp -dsimp only [aqT0, ROp0, aqT, aqU, aqN, aqS, ↓seqK, ↓blkK, ↓loopK, step, stepBin, Nat.add_assoc nid, ↓reduceIte, Option.toList, ← Int.ofNat_tmod, ← Int.ofNat_tdiv, simprocAttr, BEq.rfl, LN_succ, e1, e2, e3, e4, e5, e6, e7, e8, e9]
  refine S2.dec (fun h4 => ?_) (fun h4 => ?_) <;> simp -dsimp only [aqT0, ROp0, aqT, aqU, aqN, aqS, ↓seqK, ↓blkK, ↓loopK, step, stepBin, Nat.add_assoc nid, ↓reduceIte, Option.toList, ← Int.ofNat_tmod, ← Int.ofNat_tdiv, simprocAttr, BEq.rfl, LN_succ, e1, e2, e3, e4, e5, e6, e7, e8, e9]
  · have hkl : k < l.length := by omega
    have e : ((k : Nat) : Int) - 1 = ((k - 1 : Nat) : Int) := by omega
    rw [e]
    refine ⟨by omega, by unfold inI64; omega, by omega, ?_⟩
    rw [Int.toNat_natCast]
    cases hf : (l.getD k [] == l.getD (k - 1) []) <;> simp -dsimp only [aqT0, ROp0, aqT, aqU, aqN, aqS, ↓seqK, ↓blkK, ↓loopK, step, stepBin, Nat.add_assoc nid, ↓reduceIte, Option.toList, ← Int.ofNat_tmod, ← Int.ofNat_tdiv, simprocAttr, BEq.rfl, LN_succ, e1, e2, e3, e4, e5, e6, e7, e8, e9]
    · have hne : l.getD k [] ≠ l.getD (k - 1) [] := by simpa using hf
      refine ⟨by unfold inI64; omega, k + 1, ⟨⟨by omega, by omega, fun i hi => ?_⟩, by omega⟩, Cov.go [] [] ?_⟩
      · by_cases hik : i + 1 = k
        · have : i = k - 1 := by omega
          rw [hik, this]; exact hne
        · exact hadj i (by omega)
      · simp [cvT, step, res, e1, e2, e3, e4, e5, e6, e7, e8, e9, arrS, -List.getD_eq_getElem?_getD]
    · refine ⟨by omega, ?_⟩
      refine LP0.mkP (fun x : CmpS => 1 ≤ x.k2 ∧ x.k2 ≤ l.length - k ∧ k ≤ x.kk ∧ x.kk < k + x.k2) (fun x : CmpS => ⟨[(5, .int .i64 x.k2), (4, .sl ix k (l.length - k)), (3, .int .i64 x.kk), (0, .sl ix 0 l.length)], [(ix, arrG l.length x.g)], nid + 200, nid⟩) (fun x => l.length + 1 - x.k2) ⟨1, k, fun i => l.getD i []⟩ ⟨by simp, by simp; omega, by simp, by simp⟩ (Cov.go [] [] ?_) (fun x hx => ?_)
      · simp [cvT, step, res, e1, e2, e3, e4, e5, e6, e7, e8, e9, arrG]
      obtain ⟨k2, kk, g⟩ := x
      obtain ⟨x1, x2, x3, x4⟩ := hx
      simp only at x1 x2 x3 x4
      unfold arrG
      simp -dsimp only [aqT0, ROp0, aqT, aqU, aqN, aqS, ↓seqK, ↓blkK, ↓loopK, step, stepBin, Nat.add_assoc nid, ↓reduceIte, Option.toList, ← Int.ofNat_tmod, ← Int.ofNat_tdiv, simprocAttr, BEq.rfl, LN_succ, e1, e2, e3, e4, e5, e6, e7, e8, e9]
      refine S2.dec (fun h5 => ?_) (fun h5 => ?_) <;> simp -dsimp only [aqT0, ROp0, aqT, aqU, aqN, aqS, ↓seqK, ↓blkK, ↓loopK, step, stepBin, Nat.add_assoc nid, ↓reduceIte, Option.toList, ← Int.ofNat_tmod, ← Int.ofNat_tdiv, simprocAttr, BEq.rfl, LN_succ, e1, e2, e3, e4, e5, e6, e7, e8, e9]
      · have e2 : ((k2 : Nat) : Int) - 1 = ((k2 - 1 : Nat) : Int) := by omega
        rw [e2]
        refine ⟨by omega, by unfold inI64; omega, by omega, ?_⟩
        rw [Int.toNat_natCast]
        generalize (!(g (k + k2) == g (k + (k2 - 1)))) = bb
        cases bb <;> simp -dsimp only [aqT0, ROp0, aqT, aqU, aqN, aqS, ↓seqK, ↓blkK, ↓loopK, step, stepBin, Nat.add_assoc nid, ↓reduceIte, Option.toList, ← Int.ofNat_tmod, ← Int.ofNat_tdiv, simprocAttr, BEq.rfl, LN_succ, e1, e2, e3, e4, e5, e6, e7, e8, e9]
        rotate_left
        · refine ⟨by omega, by omega, by unfold inI64; omega, by unfold inI64; omega, ⟨k2 + 1, kk + 1, fun j => if j = kk then g (k + k2) else g j⟩, ⟨⟨by simp only; omega, by simp only; omega, by simp only; omega, by simp only; omega⟩, by simp only; omega⟩, Cov.go [] [] ?_⟩
          simp [cvT, step, res, e1, e2, e3, e4, e5, e6, e7, e8, e9, arrG]
        · refine ⟨by unfold inI64; omega, ⟨k2 + 1, kk, g⟩, ⟨⟨by simp only; omega, by simp only; omega, by simp only; omega, by simp only; omega⟩, by simp only; omega⟩, Cov.go [] [] ?_⟩
          simp [cvT, step, res, e1, e2, e3, e4, e5, e6, e7, e8, e9, arrG]
      · simp -dsimp only [aqT0, ROp0, aqT, aqU, aqN, aqS, ↓seqK, ↓blkK, ↓loopK, step, stepBin, Nat.add_assoc nid, ↓reduceIte, Option.toList, ← Int.ofNat_tmod, ← Int.ofNat_tdiv, simprocAttr, BEq.rfl, LN_succ, e1, e2, e3, e4, e5, e6, e7, e8, e9, Col.const]
        refine ⟨by omega, by omega, by omega, ?_⟩
        refine EndOK.mk (kk, fun j => if kk ≤ j ∧ j < kk + (l.length - kk) then [] else g j) (by simp only; omega) (RetOK.go [] [] (.inl rfl) ?_)
        simp [a76, cvT, step, res, e1, e2, e3, e4, e5, e6, e7, e8, e9, arrG]
  · exact absurd (fun i hi => hadj i (by omega)) ha
end Go.Proofs.YthcldfmlfjomfaaGreatDoor
namespace Go.Proofs.YthcldfmlfjomfaaGreatDoor
open Go.RowKit
set_option maxHeartbeats 4000000 in
theorem different_c (nl : Bool) (l : List (List UInt8)) (nid : Nat) (hpos : 0 < l.length) (hl : l.length ≤ 1000000) : ACall Tryz.prog 45 [litS nl l] [] nid (.bool (decide l.Nodup)) [] := by
  refine ACall.nonnil 0 rfl (fun hnl => ?_)
  have hnl' : nl = true → l = [] := fun h => absurd (hnl h) (by omega)
  have hsl := sortS_len l
  have hnd := sortS_nodup l
  have hsort := fun m => sortS_c (nid + 8) l m hpos (by omega)
  have hno := fun m hm ha => compact_no (nid + 8) (sortS l) m hm (by omega) ha
  have hsh := fun m hm ha => compact_sh (nid + 8) (sortS l) m hm (by omega) ha
  rw [hsl] at hno hsh
  refine acall_run c45 (by simp [a45]) ?_
  simp -dsimp only [aqT, aqU, aqN, aqS, ↓seqK, ↓blkK, ↓loopK, step, stepBin, Nat.add_assoc nid, ↓reduceIte, Option.toList, ← Int.ofNat_tmod, ← Int.ofNat_tdiv, simprocAttr, BEq.rfl, LN_succ, a45]
  refine CallO.pure (cloneM_c nl l _ (by omega) hnl') ?_
  unfold arrS at *
  rw [hsl] at hsort hno hsh
  simp -dsimp only [aqT, aqU, aqN, aqS, ↓seqK, ↓blkK, ↓loopK, step, stepBin, Nat.add_assoc nid, ↓reduceIte, Option.toList, ← Int.ofNat_tmod, ← Int.ofNat_tdiv, simprocAttr, BEq.rfl, LN_succ]
  refine CallO.on (hsort _) (subH_get (by simp only [aqT, aqU, aqN, aqS, ↓seqK, ↓blkK, ↓loopK, step, stepBin, Nat.add_assoc nid, ↓reduceIte, Option.toList, ← Int.ofNat_tmod, ← Int.ofNat_tdiv, simprocAttr, BEq.rfl, LN_succ])) ?_
  simp -dsimp only [aqT, aqU, aqN, aqS, ↓seqK, ↓blkK, ↓loopK, step, stepBin, Nat.add_assoc nid, ↓reduceIte, Option.toList, ← Int.ofNat_tmod, ← Int.ofNat_tdiv, simprocAttr, BEq.rfl, LN_succ]
  generalize sortS l = s at *
  by_cases ha : adjOk s
  · refine CallO.on (hno _ (by omega) ha) (subH_get (by simp only [aqT, aqU, aqN, aqS, ↓seqK, ↓blkK, ↓loopK, step, stepBin, Nat.add_assoc nid, ↓reduceIte, Option.toList, ← Int.ofNat_tmod, ← Int.ofNat_tdiv, simprocAttr, BEq.rfl, LN_succ])) ?_
    simp -dsimp only [aqT, aqU, aqN, aqS, ↓seqK, ↓blkK, ↓loopK, step, stepBin, Nat.add_assoc nid, ↓reduceIte, Option.toList, ← Int.ofNat_tmod, ← Int.ofNat_tdiv, simprocAttr, BEq.rfl, LN_succ, litS]
    refine RetOK.go [] [] (.inl rfl) ?_
    simp [a45, cvT, step, res, hnd.1 ha]
  · have hb : ¬ l.Nodup := fun h => ha (hnd.2 h)
    obtain ⟨⟨k, g⟩, hk, hc⟩ := hsh (nid + 28) (by omega) ha
    simp only at hk
    unfold arrG at hc
    refine CallO.on hc (subH_get (by simp only [aqT, aqU, aqN, aqS, ↓seqK, ↓blkK, ↓loopK, step, stepBin, Nat.add_assoc nid, ↓reduceIte, Option.toList, ← Int.ofNat_tmod, ← Int.ofNat_tdiv, simprocAttr, BEq.rfl, LN_succ])) ?_
    simp -dsimp only [aqT, aqU, aqN, aqS, ↓seqK, ↓blkK, ↓loopK, step, stepBin, Nat.add_assoc nid, ↓reduceIte, Option.toList, ← Int.ofNat_tmod, ← Int.ofNat_tdiv, simprocAttr, BEq.rfl, LN_succ, litS]
    refine RetOK.go [] [] (.inl rfl) ?_
    have : ¬ ((k : Nat) : Int) = (l.length : Nat) := by omega
    have h2 : ¬ k = l.length := by omega
    simp [a45, cvT, step, res, hb, this, h2]
end Go.Proofs.YthcldfmlfjomfaaGreatDoor
namespace Go.Proofs.YthcldfmlfjomfaaGreatDoor
open Go.RowKit
theorem meetsV_12 {g : Nat} (hg : g ≠ 3) (s : List (List UInt8)) : meetsV g s = (decide s.Nodup && (decide (g ≠ 2) || s.all bothB)) := by unfold meetsV; rw [if_neg hg]
theorem any_both (s : List (List UInt8)) : (!(s.any fun x => !bothB x)) = s.all bothB := by
  induction s with
  | nil => rfl
  | cons a l ih => simp only [List.any_cons, List.all_cons, Bool.not_or, ih, Bool.not_not]
set_option maxHeartbeats 8000000 in
theorem meets_1 (nl : Bool) (n : Nat) (v : List (List UInt8)) (nid : Nat) (hv : PatOk (n : Nat) v) : ACall Tryz.prog 9 [.int .i64 (n : Nat), litS nl v, .int .i64 1] [] nid (.tup [.bool (meetsV 1 (turnL v n)), .int .i64 0]) [] := by
  have hlen := hv.len
  have hlo := hv.lo
  have hhi := hv.hi
  have hc := patV_ok.2 hv
  have hrow := fun s hs => (hv.row s hs).1
  have hk : kindI 1 = 0 := by decide
  have htl := turnL_len v n
  have hdf := fun nl' m => different_c nl' (turnL v n) m (by omega) (by omega)
  unfold litS at hdf
  rw [htl] at hdf
  rw [meetsV_12 (by decide)]
  generalize decide (turnL v n).Nodup = d at *
  refine acall_run c9 (by simp [a9]) ?_
  unfold litS
  simp -dsimp only [aqT, aqU, aqN, aqS, ↓seqK, ↓blkK, ↓loopK, step, stepBin, Nat.add_assoc nid, ↓reduceIte, Option.toList, ← Int.ofNat_tmod, ← Int.ofNat_tdiv, simprocAttr, BEq.rfl, LN_succ, a9]
  refine CallO.pure (checkVectors_all nl n v _ (by omega) (fun s hs => by have := hrow s hs; omega)) ?_
  rw [hc]
  simp -dsimp only [aqT, aqU, aqN, aqS, ↓seqK, ↓blkK, ↓loopK, step, stepBin, Nat.add_assoc nid, ↓reduceIte, Option.toList, ← Int.ofNat_tmod, ← Int.ofNat_tdiv, simprocAttr, BEq.rfl, LN_succ]
  refine CallO.pure (kind_c 1 _) ?_
  rw [hk]
  simp -dsimp only [aqT, aqU, aqN, aqS, ↓seqK, ↓blkK, ↓loopK, step, stepBin, Nat.add_assoc nid, ↓reduceIte, Option.toList, ← Int.ofNat_tmod, ← Int.ofNat_tdiv, simprocAttr, BEq.rfl, LN_succ]
  refine CallO.gave1 (by simp only [aqT, aqU, aqN, aqS, ↓seqK, ↓blkK, ↓loopK, step, stepBin, Nat.add_assoc nid, ↓reduceIte, Option.toList, ← Int.ofNat_tmod, ← Int.ofNat_tdiv, simprocAttr, BEq.rfl, LN_succ]; rfl) (fun nl' => firstP_c nl' [0, 0] _ (by simp)) rfl ?_
  simp -dsimp only [aqT, aqU, aqN, aqS, ↓seqK, ↓blkK, ↓loopK, step, stepBin, Nat.add_assoc nid, ↓reduceIte, Option.toList, ← Int.ofNat_tmod, ← Int.ofNat_tdiv, simprocAttr, BEq.rfl, LN_succ, firstBad]
  refine CallO.pure (turned_all nl v n _ (by omega) (by omega) (fun s hs => by have := hrow s hs; omega)) ?_
  unfold arrS
  simp -dsimp only [aqT, aqU, aqN, aqS, ↓seqK, ↓blkK, ↓loopK, step, stepBin, Nat.add_assoc nid, ↓reduceIte, Option.toList, ← Int.ofNat_tmod, ← Int.ofNat_tdiv, simprocAttr, BEq.rfl, LN_succ]
  refine CallO.lent [nid + 56] (fun nl' => by
    simp only [lends, lend, aqT, aqU, aqN, aqS, ↓seqK, ↓blkK, ↓loopK, step, stepBin, Nat.add_assoc nid, ↓reduceIte, Option.toList, ← Int.ofNat_tmod, ← Int.ofNat_tdiv, simprocAttr, BEq.rfl, LN_succ]
    exact hdf (nl' _) _) rfl rfl (by simp only [List.mem_singleton, forall_eq, aqT, aqU, aqN, aqS, ↓seqK, ↓blkK, ↓loopK, step, stepBin, Nat.add_assoc nid, ↓reduceIte, Option.toList, ← Int.ofNat_tmod, ← Int.ofNat_tdiv, simprocAttr, BEq.rfl, LN_succ]) ?_
  simp -dsimp only [aqT, aqU, aqN, aqS, ↓seqK, ↓blkK, ↓loopK, step, stepBin, Nat.add_assoc nid, ↓reduceIte, Option.toList, ← Int.ofNat_tmod, ← Int.ofNat_tdiv, simprocAttr, BEq.rfl, LN_succ]
  refine RetOK.pure (.inl rfl) rfl ?_
  simp [cvT, step, res]
set_option maxHeartbeats 8000000 in
theorem meets_2 (nl : Bool) (n : Nat) (v : List (List UInt8)) (nid : Nat) (hv : PatOk (n : Nat) v) : ACall Tryz.prog 9 [.int .i64 (n : Nat), litS nl v, .int .i64 2] [] nid (.tup [.bool (meetsV 2 (turnL v n)), .int .i64 0]) [] := by
  have hlen := hv.len
  have hlo := hv.lo
  have hhi := hv.hi
  have hc := patV_ok.2 hv
  have hrow := fun s hs => (hv.row s hs).1
  have hk : kindI 2 = 0 := by decide
  have htl := turnL_len v n
  have hdf := fun nl' m => different_c nl' (turnL v n) m (by omega) (by omega)
  have hcf := fun nl' m => containsM_c 47 (fun x => !bothB x) nl' (turnL v n) m (by omega) (fun x k => notBoth_c x k)
  have hall := any_both (turnL v n)
  unfold litS at hdf hcf
  rw [htl] at hdf hcf
  rw [meetsV_12 (by decide), ← hall]
  generalize decide (turnL v n).Nodup = d at *
  generalize ((turnL v n).any fun x => !bothB x) = b at *
  refine acall_run c9 (by simp [a9]) ?_
  unfold litS
  simp -dsimp only [aqT, aqU, aqN, aqS, ↓seqK, ↓blkK, ↓loopK, step, stepBin, Nat.add_assoc nid, ↓reduceIte, Option.toList, ← Int.ofNat_tmod, ← Int.ofNat_tdiv, simprocAttr, BEq.rfl, LN_succ, a9]
  refine CallO.pure (checkVectors_all nl n v _ (by omega) (fun s hs => by have := hrow s hs; omega)) ?_
  rw [hc]
  simp -dsimp only [aqT, aqU, aqN, aqS, ↓seqK, ↓blkK, ↓loopK, step, stepBin, Nat.add_assoc nid, ↓reduceIte, Option.toList, ← Int.ofNat_tmod, ← Int.ofNat_tdiv, simprocAttr, BEq.rfl, LN_succ]
  refine CallO.pure (kind_c 2 _) ?_
  rw [hk]
  simp -dsimp only [aqT, aqU, aqN, aqS, ↓seqK, ↓blkK, ↓loopK, step, stepBin, Nat.add_assoc nid, ↓reduceIte, Option.toList, ← Int.ofNat_tmod, ← Int.ofNat_tdiv, simprocAttr, BEq.rfl, LN_succ]
  refine CallO.gave1 (by simp only [aqT, aqU, aqN, aqS, ↓seqK, ↓blkK, ↓loopK, step, stepBin, Nat.add_assoc nid, ↓reduceIte, Option.toList, ← Int.ofNat_tmod, ← Int.ofNat_tdiv, simprocAttr, BEq.rfl, LN_succ]; rfl) (fun nl' => firstP_c nl' [0, 0] _ (by simp)) rfl ?_
  simp -dsimp only [aqT, aqU, aqN, aqS, ↓seqK, ↓blkK, ↓loopK, step, stepBin, Nat.add_assoc nid, ↓reduceIte, Option.toList, ← Int.ofNat_tmod, ← Int.ofNat_tdiv, simprocAttr, BEq.rfl, LN_succ, firstBad]
  refine CallO.pure (turned_all nl v n _ (by omega) (by omega) (fun s hs => by have := hrow s hs; omega)) ?_
  unfold arrS
  simp -dsimp only [aqT, aqU, aqN, aqS, ↓seqK, ↓blkK, ↓loopK, step, stepBin, Nat.add_assoc nid, ↓reduceIte, Option.toList, ← Int.ofNat_tmod, ← Int.ofNat_tdiv, simprocAttr, BEq.rfl, LN_succ]
  refine CallO.lent [nid + 56] (fun nl' => by
    simp only [lends, lend, aqT, aqU, aqN, aqS, ↓seqK, ↓blkK, ↓loopK, step, stepBin, Nat.add_assoc nid, ↓reduceIte, Option.toList, ← Int.ofNat_tmod, ← Int.ofNat_tdiv, simprocAttr, BEq.rfl, LN_succ]
    exact hdf (nl' _) _) rfl rfl (by simp only [List.mem_singleton, forall_eq, aqT, aqU, aqN, aqS, ↓seqK, ↓blkK, ↓loopK, step, stepBin, Nat.add_assoc nid, ↓reduceIte, Option.toList, ← Int.ofNat_tmod, ← Int.ofNat_tdiv, simprocAttr, BEq.rfl, LN_succ]) ?_
  simp -dsimp only [aqT, aqU, aqN, aqS, ↓seqK, ↓blkK, ↓loopK, step, stepBin, Nat.add_assoc nid, ↓reduceIte, Option.toList, ← Int.ofNat_tmod, ← Int.ofNat_tdiv, simprocAttr, BEq.rfl, LN_succ]
  cases d
  · simp -dsimp only [aqT, aqU, aqN, aqS, ↓seqK, ↓blkK, ↓loopK, step, stepBin, Nat.add_assoc nid, ↓reduceIte, Option.toList, ← Int.ofNat_tmod, ← Int.ofNat_tdiv, simprocAttr, BEq.rfl, LN_succ]
    refine RetOK.pure (.inl rfl) rfl ?_
    simp [cvT, step, res]
  · simp -dsimp only [aqT, aqU, aqN, aqS, ↓seqK, ↓blkK, ↓loopK, step, stepBin, Nat.add_assoc nid, ↓reduceIte, Option.toList, ← Int.ofNat_tmod, ← Int.ofNat_tdiv, simprocAttr, BEq.rfl, LN_succ]
    refine CallO.lent [nid + 56] (fun nl' => by
      simp only [lends, lend, aqT, aqU, aqN, aqS, ↓seqK, ↓blkK, ↓loopK, step, stepBin, Nat.add_assoc nid, ↓reduceIte, Option.toList, ← Int.ofNat_tmod, ← Int.ofNat_tdiv, simprocAttr, BEq.rfl, LN_succ]
      exact hcf (nl' _) _) rfl rfl (by simp only [List.mem_singleton, forall_eq, aqT, aqU, aqN, aqS, ↓seqK, ↓blkK, ↓loopK, step, stepBin, Nat.add_assoc nid, ↓reduceIte, Option.toList, ← Int.ofNat_tmod, ← Int.ofNat_tdiv, simprocAttr, BEq.rfl, LN_succ]) ?_
    simp -dsimp only [aqT, aqU, aqN, aqS, ↓seqK, ↓blkK, ↓loopK, step, stepBin, Nat.add_assoc nid, ↓reduceIte, Option.toList, ← Int.ofNat_tmod, ← Int.ofNat_tdiv, simprocAttr, BEq.rfl, LN_succ]
    refine RetOK.pure (.inl rfl) rfl ?_
    simp [cvT, step, res]
theorem meets_all (nl : Bool) (n g : Nat) (v : List (List UInt8)) (nid : Nat) (hv : PatOk (n : Nat) v) (hg : g = 1 ∨ g = 2 ∨ g = 3) : ACall Tryz.prog 9 [.int .i64 (n : Nat), litS nl v, .int .i64 (g : Nat)] [] nid (.tup [.bool (meetsV g (turnL v n)), .int .i64 0]) [] := by
  rcases hg with rfl | rfl | rfl
  · exact meets_1 nl n v nid hv
  · exact meets_2 nl n v nid hv
  · exact meets_3 nl n v nid hv
end Go.Proofs.YthcldfmlfjomfaaGreatDoor
namespace Go.Proofs.YthcldfmlfjomfaaGreatDoor
open Go.RowKit
theorem stuck_bad (nl : Bool) (n : Int) (v : List (List UInt8)) (nid : Nat) (hv : v.length ≤ 1000) (hr : ShortRows 1000 v) (hp : patV n v ≠ 0) : ACall Tryz.prog 10 [.int .i64 n, litS nl v] [] nid (.tup [.lit true 0 [], .int .i64 (patV n v)]) [] := by
  have h := fun m => checkVectors_all nl n v m (by omega) (hr.mono (by omega))
  refine acall_run c10 (by simp [a10]) ?_
  unfold litS at *
  simp -dsimp only [aqT, aqU, aqN, aqS, ↓seqK, ↓blkK, ↓loopK, step, stepBin, Nat.add_assoc nid, ↓reduceIte, Option.toList, ← Int.ofNat_tmod, ← Int.ofNat_tdiv, simprocAttr, BEq.rfl, LN_succ, a10]
  refine CallO.pure (h _) ?_
  generalize patV n v = e at *
  simp -dsimp only [aqT, aqU, aqN, aqS, ↓seqK, ↓blkK, ↓loopK, step, stepBin, Nat.add_assoc nid, ↓reduceIte, Option.toList, ← Int.ofNat_tmod, ← Int.ofNat_tdiv, simprocAttr, BEq.rfl, LN_succ]
  refine S2.yes (by simpa using hp) ?_
  simp -dsimp only [aqT, aqU, aqN, aqS, ↓seqK, ↓blkK, ↓loopK, step, stepBin, Nat.add_assoc nid, ↓reduceIte, Option.toList, ← Int.ofNat_tmod, ← Int.ofNat_tdiv, simprocAttr, BEq.rfl, LN_succ]
  refine RetOK.pure (.inl rfl) rfl ?_
  simp [cvT, step, res]
theorem equal_bad (nl : Bool) (n : Int) (v : List (List UInt8)) (nid : Nat) (hv : v.length ≤ 1000) (hr : ShortRows 1000 v) (hp : patV n v ≠ 0) : ACall Tryz.prog 11 [.int .i64 n, litS nl v] [] nid (.tup [.lit true 0 [], .int .i64 (patV n v)]) [] := by
  have h := fun m => checkVectors_all nl n v m (by omega) (hr.mono (by omega))
  refine acall_run c11 (by simp [a11]) ?_
  unfold litS at *
  simp -dsimp only [aqT, aqU, aqN, aqS, ↓seqK, ↓blkK, ↓loopK, step, stepBin, Nat.add_assoc nid, ↓reduceIte, Option.toList, ← Int.ofNat_tmod, ← Int.ofNat_tdiv, simprocAttr, BEq.rfl, LN_succ, a11]
  refine CallO.pure (h _) ?_
  generalize patV n v = e at *
  simp -dsimp only [aqT, aqU, aqN, aqS, ↓seqK, ↓blkK, ↓loopK, step, stepBin, Nat.add_assoc nid, ↓reduceIte, Option.toList, ← Int.ofNat_tmod, ← Int.ofNat_tdiv, simprocAttr, BEq.rfl, LN_succ]
  refine S2.yes (by simpa using hp) ?_
  simp -dsimp only [aqT, aqU, aqN, aqS, ↓seqK, ↓blkK, ↓loopK, step, stepBin, Nat.add_assoc nid, ↓reduceIte, Option.toList, ← Int.ofNat_tmod, ← Int.ofNat_tdiv, simprocAttr, BEq.rfl, LN_succ]
  refine RetOK.pure (.inl rfl) rfl ?_
  simp [cvT, step, res]
theorem masked_bad (nl : Bool) (n : Int) (v : List (List UInt8)) (nid : Nat) (hv : v.length ≤ 1000) (hr : ShortRows 1000 v) (hp : patV n v ≠ 0) : ACall Tryz.prog 12 [.int .i64 n, litS nl v] [] nid (.tup [.lit true 0 [], .int .i64 (patV n v)]) [] := by
  have h := fun m => checkVectors_all nl n v m (by omega) (hr.mono (by omega))
  refine acall_run c12 (by simp [a12]) ?_
  unfold litS at *
  simp -dsimp only [aqT, aqU, aqN, aqS, ↓seqK, ↓blkK, ↓loopK, step, stepBin, Nat.add_assoc nid, ↓reduceIte, Option.toList, ← Int.ofNat_tmod, ← Int.ofNat_tdiv, simprocAttr, BEq.rfl, LN_succ, a12]
  refine CallO.pure (h _) ?_
  generalize patV n v = e at *
  simp -dsimp only [aqT, aqU, aqN, aqS, ↓seqK, ↓blkK, ↓loopK, step, stepBin, Nat.add_assoc nid, ↓reduceIte, Option.toList, ← Int.ofNat_tmod, ← Int.ofNat_tdiv, simprocAttr, BEq.rfl, LN_succ]
  refine S2.yes (by simpa using hp) ?_
  simp -dsimp only [aqT, aqU, aqN, aqS, ↓seqK, ↓blkK, ↓loopK, step, stepBin, Nat.add_assoc nid, ↓reduceIte, Option.toList, ← Int.ofNat_tmod, ← Int.ofNat_tdiv, simprocAttr, BEq.rfl, LN_succ]
  refine RetOK.pure (.inl rfl) rfl ?_
  simp [cvT, step, res]
theorem distance_bad (nl : Bool) (n : Int) (v : List (List UInt8)) (nid : Nat) (hv : v.length ≤ 1000) (hr : ShortRows 1000 v) (hp : patV n v ≠ 0) : ACall Tryz.prog 13 [.int .i64 n, litS nl v] [] nid (.tup [.int .i64 0, .bool false, .int .i64 (patV n v)]) [] := by
  have h := fun m => checkVectors_all nl n v m (by omega) (hr.mono (by omega))
  refine acall_run c13 (by simp [a13]) ?_
  unfold litS at *
  simp -dsimp only [aqT, aqU, aqN, aqS, ↓seqK, ↓blkK, ↓loopK, step, stepBin, Nat.add_assoc nid, ↓reduceIte, Option.toList, ← Int.ofNat_tmod, ← Int.ofNat_tdiv, simprocAttr, BEq.rfl, LN_succ, a13]
  refine CallO.pure (h _) ?_
  generalize patV n v = e at *
  simp -dsimp only [aqT, aqU, aqN, aqS, ↓seqK, ↓blkK, ↓loopK, step, stepBin, Nat.add_assoc nid, ↓reduceIte, Option.toList, ← Int.ofNat_tmod, ← Int.ofNat_tdiv, simprocAttr, BEq.rfl, LN_succ]
  refine S2.yes (by simpa using hp) ?_
  simp -dsimp only [aqT, aqU, aqN, aqS, ↓seqK, ↓blkK, ↓loopK, step, stepBin, Nat.add_assoc nid, ↓reduceIte, Option.toList, ← Int.ofNat_tmod, ← Int.ofNat_tdiv, simprocAttr, BEq.rfl, LN_succ]
  refine RetOK.pure (.inl rfl) rfl ?_
  simp [cvT, step, res]
def orV (a b : Int) : Int := if a = 0 then b else a
theorem meets_bad (nl : Bool) (n g : Int) (v : List (List UInt8)) (nid : Nat) (hv : v.length ≤ 1000) (hr : ShortRows 1000 v) (hp : orV (patV n v) (kindI g) ≠ 0) : ACall Tryz.prog 9 [.int .i64 n, litS nl v, .int .i64 g] [] nid (.tup [.bool false, .int .i64 (orV (patV n v) (kindI g))]) [] := by
  have h := fun m => checkVectors_all nl n v m (by omega) (hr.mono (by omega))
  have hk := fun m => kind_c g m
  have hf : firstBad (fun x : Int => x) [patV n v, kindI g] = orV (patV n v) (kindI g) := by
    unfold orV firstBad
    by_cases h0 : patV n v = 0
    · rw [h0]
      by_cases h1 : kindI g = 0 <;> simp [firstBad, h1]
    · simp [h0]
  refine acall_run c9 (by simp [a9]) ?_
  unfold litS at *
  simp -dsimp only [aqT, aqU, aqN, aqS, ↓seqK, ↓blkK, ↓loopK, step, stepBin, Nat.add_assoc nid, ↓reduceIte, Option.toList, ← Int.ofNat_tmod, ← Int.ofNat_tdiv, simprocAttr, BEq.rfl, LN_succ, a9]
  refine CallO.pure (h _) ?_
  simp -dsimp only [aqT, aqU, aqN, aqS, ↓seqK, ↓blkK, ↓loopK, step, stepBin, Nat.add_assoc nid, ↓reduceIte, Option.toList, ← Int.ofNat_tmod, ← Int.ofNat_tdiv, simprocAttr, BEq.rfl, LN_succ]
  refine CallO.pure (hk _) ?_
  simp -dsimp only [aqT, aqU, aqN, aqS, ↓seqK, ↓blkK, ↓loopK, step, stepBin, Nat.add_assoc nid, ↓reduceIte, Option.toList, ← Int.ofNat_tmod, ← Int.ofNat_tdiv, simprocAttr, BEq.rfl, LN_succ]
  have hfp := fun nl' m => firstP_c nl' [patV n v, kindI g] m (by simp)
  rw [hf] at hfp
  generalize orV (patV n v) (kindI g) = e at *
  refine CallO.gave1 (by simp only [aqT, aqU, aqN, aqS, ↓seqK, ↓blkK, ↓loopK, step, stepBin, Nat.add_assoc nid, ↓reduceIte, Option.toList, ← Int.ofNat_tmod, ← Int.ofNat_tdiv, simprocAttr, BEq.rfl, LN_succ]; rfl) (fun nl' => hfp nl' _) rfl ?_
  simp -dsimp only [aqT, aqU, aqN, aqS, ↓seqK, ↓blkK, ↓loopK, step, stepBin, Nat.add_assoc nid, ↓reduceIte, Option.toList, ← Int.ofNat_tmod, ← Int.ofNat_tdiv, simprocAttr, BEq.rfl, LN_succ]
  refine S2.yes (by simpa using hp) ?_
  simp -dsimp only [aqT, aqU, aqN, aqS, ↓seqK, ↓blkK, ↓loopK, step, stepBin, Nat.add_assoc nid, ↓reduceIte, Option.toList, ← Int.ofNat_tmod, ← Int.ofNat_tdiv, simprocAttr, BEq.rfl, LN_succ]
  refine RetOK.pure (.inl rfl) rfl ?_
  simp [cvT, step, res]
end Go.Proofs.YthcldfmlfjomfaaGreatDoor
namespace Go.Proofs.YthcldfmlfjomfaaGreatDoor
open Go.RowKit
def andV (a b : List UInt8) : List UInt8 := (List.range a.length).map fun i => if b.getD i 0 == 48 then 48 else a.getD i 0
theorem andV_len (a b : List UInt8) : (andV a b).length = a.length := by unfold andV; simp
theorem andV_at (a b : List UInt8) {i : Nat} (h : i < a.length) : (andV a b).getD i 0 = if b.getD i 0 == 48 then 48 else a.getD i 0 := by
  unfold andV
  rw [List.getD_eq_getElem?_getD, List.getElem?_map, List.getElem?_range h]
  rfl
def BitsA (s : List UInt8) : Prop := ∀ i, i < s.length → s.getD i 0 = 48 ∨ s.getD i 0 = 49
theorem and_min {a b : UInt8} (ha : a = 48 ∨ a = 49) (hb : b = 48 ∨ b = 49) : min ((a.toNat : Nat) : Int) ((b.toNat : Nat) : Int) = (((if b == 48 then 48 else a : UInt8).toNat : Nat) : Int) := by
  rcases ha with rfl | rfl <;> rcases hb with rfl | rfl <;> rfl
set_option maxHeartbeats 4000000 in
theorem and_c (s u : List UInt8) (nid : Nat) (hs : s.length ≤ 1000000) (hu : s.length ≤ u.length) (hsb : BitsA s) (hub : BitsA u) : ACall Tryz.prog 50 [.str s, .str u] [] nid (.str (andV s u)) [] := by
  have hil := andV_len s u
  refine acall_run c50 (by simp [a50]) ?_
  simp -dsimp only [aqT, aqU, aqN, ↓seqK, ↓blkK, ↓loopK, step, stepBin, Nat.reduceBEq, Nat.reduceBeqDiff, Nat.add_assoc nid, Nat.reduceAdd, reduceCtorEq, ↓reduceIte, Nat.reduceLeDiff, Nat.reduceBneDiff, Option.toList, ← Int.ofNat_tmod, ← Int.ofNat_tdiv, Nat.reduceLT, a50]
  refine ⟨by omega, ?_⟩
  refine LP.mkP (fun y : Nat => y ≤ s.length) (fun y : Nat => ⟨[(11, .int .i64 y), (10, .int .i64 s.length), (5, .sl (nid + 8) 0 s.length), (1, .str u)], [(nid + 8, some (.arr 4294967295 s.length [.i .u8 fun i => if i < y then ((((andV s u).getD i 0).toNat : Nat) : Int) else (((s.getD i 0).toNat : Nat) : Int)]))], nid + 100, nid⟩) (fun y => s.length + 1 - y) 0 (by omega) (Cov.go [] [] ?_) (fun y hy => ?_)
  · simp [cvT, step, res]
  simp -dsimp only [aqT, aqU, aqN, aqS, ↓seqK, ↓blkK, ↓loopK, step, stepBin, Nat.add_assoc nid, ↓reduceIte, Option.toList, ← Int.ofNat_tmod, ← Int.ofNat_tdiv, simprocAttr, BEq.rfl, LN_succ]
  refine S2.dec (fun h1 => ?_) (fun h1 => ?_) <;> simp -dsimp only [aqT, aqU, aqN, aqS, ↓seqK, ↓blkK, ↓loopK, step, stepBin, Nat.add_assoc nid, ↓reduceIte, Option.toList, ← Int.ofNat_tmod, ← Int.ofNat_tdiv, simprocAttr, BEq.rfl, LN_succ]
  · have hyl : y < s.length := by omega
    have hx := andV_at s u hyl
    have hm := and_min (hsb y hyl) (hub y (by omega))
    rw [← hx] at hm
    have e := fill_step2 (fun j => ((((andV s u).getD j 0).toNat : Nat) : Int)) (fun j => (((s.getD j 0).toNat : Nat) : Int)) y
    simp only [Nat.lt_irrefl, ↓reduceIte, hm]
    rw [e]
    refine ⟨by omega, by omega, by omega, by unfold inI64; omega, y + 1, ⟨by omega, by omega⟩, Cov.go [] [] ?_⟩
    simp [cvT, step, res, -List.getD_eq_getElem?_getD]
  · have hyn : y = s.length := by omega
    subst hyn
    rw [full_bytes hil]
    refine RetOK.pure (.inl rfl) rfl ?_
    simp [cvT, step, res]
set_option maxHeartbeats 4000000 in
theorem bothR_c (s u : List UInt8) (nid : Nat) (hs : s.length ≤ 1000000) (hu : s.length ≤ u.length) : ACall Tryz.prog 57 [.str s, .str u] [] nid (.str (andV s u)) [] := by
  have hil := andV_len s u
  refine acall_run c57 (by simp [a57]) ?_
  simp -dsimp only [aqT, aqU, aqN, ↓seqK, ↓blkK, ↓loopK, step, stepBin, Nat.reduceBEq, Nat.reduceBeqDiff, Nat.add_assoc nid, Nat.reduceAdd, reduceCtorEq, ↓reduceIte, Nat.reduceLeDiff, Nat.reduceBneDiff, Option.toList, ← Int.ofNat_tmod, ← Int.ofNat_tdiv, Nat.reduceLT, a57]
  refine ⟨by omega, ?_⟩
  refine LP.mkP (fun y : Nat => y ≤ s.length) (fun y : Nat => ⟨[(11, .int .i64 y), (10, .int .i64 s.length), (5, .sl (nid + 8) 0 s.length), (1, .str u)], [(nid + 8, some (.arr 4294967295 s.length [.i .u8 fun i => if i < y then ((((andV s u).getD i 0).toNat : Nat) : Int) else (((s.getD i 0).toNat : Nat) : Int)]))], nid + 100, nid⟩) (fun y => s.length + 1 - y) 0 (by omega) (Cov.go [] [] ?_) (fun y hy => ?_)
  · simp [cvT, step, res]
  simp -dsimp only [aqT, aqU, aqN, aqS, ↓seqK, ↓blkK, ↓loopK, step, stepBin, Nat.add_assoc nid, ↓reduceIte, Option.toList, ← Int.ofNat_tmod, ← Int.ofNat_tdiv, simprocAttr, BEq.rfl, LN_succ]
  refine S2.dec (fun h1 => ?_) (fun h1 => ?_) <;> simp -dsimp only [aqT, aqU, aqN, aqS, ↓seqK, ↓blkK, ↓loopK, step, stepBin, Nat.add_assoc nid, ↓reduceIte, Option.toList, ← Int.ofNat_tmod, ← Int.ofNat_tdiv, simprocAttr, BEq.rfl, LN_succ]
  · have hyl : y < s.length := by omega
    have hx := andV_at s u hyl
    have e := fill_step2 (fun j => ((((andV s u).getD j 0).toNat : Nat) : Int)) (fun j => (((s.getD j 0).toNat : Nat) : Int)) y
    have eb : ∀ x : UInt8, (((x.toNat : Nat) : Int) == 48) = (x == 48) := fun x => by
      rw [Bool.eq_iff_iff, beq_iff_eq, beq_iff_eq, ← UInt8.toNat_inj]
      show _ ↔ x.toNat = 48
      omega
    rw [eb]
    refine ⟨by omega, ?_⟩
    cases hb : (u.getD y 0 == 48) <;> rw [hb] at hx <;> simp -dsimp only [aqT, aqU, aqN, aqS, ↓seqK, ↓blkK, ↓loopK, step, stepBin, Nat.add_assoc nid, ↓reduceIte, Option.toList, ← Int.ofNat_tmod, ← Int.ofNat_tdiv, simprocAttr, BEq.rfl, LN_succ]
    · refine ⟨by unfold inI64; omega, y + 1, ⟨by omega, by omega⟩, Cov.go [] [] ?_⟩
      simp [cvT, step, res, -List.getD_eq_getElem?_getD]
      refine ColEq.i fun j hj => ?_
      by_cases h2 : j < y
      · rw [if_pos h2, if_pos (by omega)]
      · rw [if_neg h2]
        by_cases h3 : j < y + 1
        · obtain rfl : j = y := by omega
          rw [if_pos h3, hx]
          rfl
        · rw [if_neg h3]
    · have h48 : (48 : Int) = ((((andV s u).getD y 0).toNat : Nat) : Int) := by rw [hx]; rfl
      rw [h48, e]
      refine ⟨by omega, by unfold inI64; omega, y + 1, ⟨by omega, by omega⟩, Cov.go [] [] ?_⟩
      simp [cvT, step, res, -List.getD_eq_getElem?_getD]
  · have hyn : y = s.length := by omega
    subst hyn
    rw [full_bytes hil]
    refine RetOK.pure (.inl rfl) rfl ?_
    simp [cvT, step, res]
set_option maxHeartbeats 4000000 in
theorem withinR_c (s u : List UInt8) (nid : Nat) (hs : s.length ≤ 1000000) (hu : s.length ≤ u.length) : ACall Tryz.prog 53 [.str s, .str u] [] nid (.bool (withinB s u)) [] := by
  refine acall_run c53 (by simp [a53]) ?_
  simp -dsimp only [aqT, aqU, aqN, ↓seqK, ↓blkK, ↓loopK, step, stepBin, Nat.reduceBEq, Nat.reduceBeqDiff, Nat.add_assoc nid, Nat.reduceAdd, reduceCtorEq, ↓reduceIte, Nat.reduceLeDiff, Nat.reduceBneDiff, Option.toList, ← Int.ofNat_tmod, ← Int.ofNat_tdiv, Nat.reduceLT, a53]
  refine LP.mkP (fun y : Nat => y ≤ s.length ∧ ∀ i, i < y → (s.getD i 0 == 49 && u.getD i 0 == 48) = false) (fun y : Nat => ⟨[(8, .int .i64 y), (7, .int .i64 s.length), (0, .str s), (1, .str u)], [], nid + 100, nid⟩) (fun y => s.length + 1 - y) 0 ⟨by omega, fun i hi => absurd hi (by omega)⟩ (Cov.go [] [] ?_) (fun y hy => ?_)
  · simp [cvT, step, res]
  obtain ⟨hy, hall⟩ := hy
  simp -dsimp only [aqT, aqU, aqN, aqS, ↓seqK, ↓blkK, ↓loopK, step, stepBin, Nat.add_assoc nid, ↓reduceIte, Option.toList, ← Int.ofNat_tmod, ← Int.ofNat_tdiv, simprocAttr, BEq.rfl, LN_succ]
  refine S2.dec (fun h1 => ?_) (fun h1 => ?_) <;> simp -dsimp only [aqT, aqU, aqN, aqS, ↓seqK, ↓blkK, ↓loopK, step, stepBin, Nat.add_assoc nid, ↓reduceIte, Option.toList, ← Int.ofNat_tmod, ← Int.ofNat_tdiv, simprocAttr, BEq.rfl, LN_succ]
  · have hyl : y < s.length := by omega
    have eb : ∀ x : UInt8, (((x.toNat : Nat) : Int) == 48) = (x == 48) := fun x => by
      rw [Bool.eq_iff_iff, beq_iff_eq, beq_iff_eq, ← UInt8.toNat_inj]
      show _ ↔ x.toNat = 48
      omega
    have eb2 : ∀ x : UInt8, (((x.toNat : Nat) : Int) == 49) = (x == 49) := fun x => by
      rw [Bool.eq_iff_iff, beq_iff_eq, beq_iff_eq, ← UInt8.toNat_inj]
      show _ ↔ x.toNat = 49
      omega
    have hno : (s.getD y 0 == 49 && u.getD y 0 == 48) = true → withinB s u = false := fun h => by
      unfold withinB
      rw [← Bool.not_eq_true, List.all_eq_true]
      intro hh
      have := hh y (List.mem_range.2 hyl)
      rw [h] at this
      cases this
    have hys : (s.getD y 0 == 49 && u.getD y 0 == 48) = false → ∀ i, i < y + 1 → (s.getD i 0 == 49 && u.getD i 0 == 48) = false := fun h i hi => by
      rcases (by omega : i < y ∨ i = y) with h2 | rfl
      · exact hall i h2
      · exact h
    refine ⟨by omega, ?_⟩
    rw [eb2]
    cases h49 : (s.getD y 0 == 49) <;> rw [h49] at hno hys <;> simp -dsimp only [aqT, aqU, aqN, aqS, ↓seqK, ↓blkK, ↓loopK, step, stepBin, Nat.add_assoc nid, ↓reduceIte, Option.toList, ← Int.ofNat_tmod, ← Int.ofNat_tdiv, simprocAttr, BEq.rfl, LN_succ]
    · refine ⟨by unfold inI64; omega, y + 1, ⟨⟨by omega, hys rfl⟩, by omega⟩, Cov.go [] [] ?_⟩
      simp [cvT, step, res]
    · rw [eb]
      refine ⟨by omega, ?_⟩
      cases h48 : (u.getD y 0 == 48) <;> rw [h48] at hno hys <;> simp -dsimp only [aqT, aqU, aqN, aqS, ↓seqK, ↓blkK, ↓loopK, step, stepBin, Nat.add_assoc nid, ↓reduceIte, Option.toList, ← Int.ofNat_tmod, ← Int.ofNat_tdiv, simprocAttr, BEq.rfl, LN_succ]
      · refine ⟨by unfold inI64; omega, y + 1, ⟨⟨by omega, hys rfl⟩, by omega⟩, Cov.go [] [] ?_⟩
        simp [cvT, step, res]
      · rw [hno rfl]
        refine RetOK.pure (.inl rfl) rfl ?_
        simp [cvT, step, res]
  · have hyn : y = s.length := by omega
    subst hyn
    have e : withinB s u = true := by
      unfold withinB
      refine List.all_eq_true.2 fun i hi => ?_
      rw [hall i (List.mem_range.1 hi)]
      rfl
    rw [e]
    refine RetOK.pure (.inl rfl) rfl ?_
    simp [cvT, step, res]
end Go.Proofs.YthcldfmlfjomfaaGreatDoor
