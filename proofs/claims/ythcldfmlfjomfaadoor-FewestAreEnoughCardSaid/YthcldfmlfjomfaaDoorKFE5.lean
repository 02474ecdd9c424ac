/-
  DERIVED: THE SHELF's CONTRACTS AT THIS DUMP, IN PLAIN WORDS (tools/lay-plain.mjs out of 'ZzShelf.lean', which tools/lay-shelf.mjs wrote): THE SAME DECLARATIONS UNDER THE SAME NAMES: 'import', 'namespace', 'open', 'def', 'theorem' AND NOTHING ELSE: no command of the shelf's: FOR A HAND-IN. Each laying: the table of numbers ('.._ren') and one theorem, a field a fact of the dump's own or the kernel's comparison; each contract: ONE APPLICATION.
-/
import Derived.Test.YthcldfmlfjomfaaDoorProg
import Derived.Ground.NamesProg
import Derived.Shelf.Strings.SlTrimAscii
import Derived.Shelf.Strings.Repeat
import Derived.Shelf.Strings.Split
import Derived.Shelf.Strings.Cut
import Derived.Shelf.Strings.Search3
import Derived.Shelf.Sort.Plain
import Derived.Test.YthcldfmlfjomfaaDoorKFE3
import Derived.WalkKit
import Derived.Lib.Agree
import Derived.Test.YthcldfmlfjomfaaDoorKFE1
import Derived.Lib.IndexLaws
import Derived.Maps.OwnRows
import Derived.IntWalk
import Derived.Test.YthcldfmlfjomfaaDoorKFE4
set_option linter.unusedVariables false
set_option linter.unusedSimpArgs false
set_option maxRecDepth 100000
namespace Go.Proofs
open Go.Shelf
def Tryd.lays160_ren : Go.Shelf.Ren := ⟨fun | 160 => 138 | 232 => 177 | 231 => 176 | 227 => 178 | 234 => 180 | 233 => 179 | 236 => 182 | 235 => 181 | 228 => 217 | 271 => 219 | 151 => 218 | 197 => 195 | 120 => 241 | 152 => 240 | 260 => 231 | 137 => 216 | 119 => 254 | 224 => 245 | 225 => 244 | 217 => 239 | 266 => 253 | n => n, fun | 9 => 9 | 4 => 4 | 3 => 3 | 5 => 5 | 117 => 189 | 116 => 188 | 0 => 0 | 124 => 192 | 21 => 21 | 105 => 200 | 46 => 95 | 119 => 239 | 139 => 242 | 138 => 241 | n => n, fun | 3 => 2 | 4 => 3 | n => n⟩
theorem Tryd.lays160 : Go.Proofs.Lays.n160 Tryd.prog Tryd.lays160_ren := {
  mixed := by kernel_rfl
  f119 := Tryd.func254.trans (congrArg some (by kernel_rfl))
  f120 := Tryd.func241.trans (congrArg some (by kernel_rfl))
  f137 := Tryd.func216.trans (congrArg some (by kernel_rfl))
  f151 := Tryd.func218.trans (congrArg some (by kernel_rfl))
  f152 := Tryd.func240.trans (congrArg some (by kernel_rfl))
  f160 := Tryd.func138.trans (congrArg some (by kernel_rfl))
  f197 := Tryd.func195.trans (congrArg some (by kernel_rfl))
  f217 := Tryd.func239.trans (congrArg some (by kernel_rfl))
  f224 := Tryd.func245.trans (congrArg some (by kernel_rfl))
  f225 := Tryd.func244.trans (congrArg some (by kernel_rfl))
  f227 := Tryd.func178.trans (congrArg some (by kernel_rfl))
  f228 := Tryd.func217.trans (congrArg some (by kernel_rfl))
  f231 := Tryd.func176.trans (congrArg some (by kernel_rfl))
  f232 := Tryd.func177.trans (congrArg some (by kernel_rfl))
  f233 := Tryd.func179.trans (congrArg some (by kernel_rfl))
  f234 := Tryd.func180.trans (congrArg some (by kernel_rfl))
  f235 := Tryd.func181.trans (congrArg some (by kernel_rfl))
  f236 := Tryd.func182.trans (congrArg some (by kernel_rfl))
  f260 := Tryd.func231.trans (congrArg some (by kernel_rfl))
  f266 := Tryd.func253.trans (congrArg some (by kernel_rfl))
  f271 := Tryd.func219.trans (congrArg some (by kernel_rfl))
  t0 := Tryd.underlying0
  a0 := Tryd.isAgg0
  z0 := Tryd.sizeOf0
  v0 := Tryd.zeroValue0
  t3 := Tryd.underlying3
  a3 := Tryd.isAgg3
  z3 := Tryd.sizeOf3
  v3 := Tryd.zeroValue3
  t4 := Tryd.underlying4
  a4 := Tryd.isAgg4
  z4 := Tryd.sizeOf4
  v4 := Tryd.zeroValue4
  t5 := Tryd.underlying5
  a5 := Tryd.isAgg5
  z5 := Tryd.sizeOf5
  v5 := Tryd.zeroValue5
  t9 := Tryd.underlying9
  a9 := Tryd.isAgg9
  z9 := Tryd.sizeOf9
  v9 := Tryd.zeroValue9
  t21 := Tryd.underlying21
  a21 := Tryd.isAgg21
  z21 := Tryd.sizeOf21
  v21 := Tryd.zeroValue21
  t46 := Tryd.underlying95
  a46 := Tryd.isAgg95
  z46 := Tryd.sizeOf95
  v46 := Tryd.zeroValue95
  t105 := Tryd.underlying200
  a105 := Tryd.isAgg200
  z105 := Tryd.sizeOf200
  v105 := Tryd.zeroValue200
  t116 := Tryd.underlying188
  a116 := Tryd.isAgg188
  z116 := Tryd.sizeOf188
  t117 := Tryd.underlying189
  a117 := Tryd.isAgg189
  z117 := Tryd.sizeOf189
  v117 := Tryd.zeroValue189
  t119 := Tryd.underlying239
  a119 := Tryd.isAgg239
  z119 := Tryd.sizeOf239
  t124 := Tryd.underlying192
  a124 := Tryd.isAgg192
  z124 := Tryd.sizeOf192
  v124 := Tryd.zeroValue192
  t138 := Tryd.underlying241
  a138 := Tryd.isAgg241
  z138 := Tryd.sizeOf241
  v138 := Tryd.zeroValue241
  t139 := Tryd.underlying242
  a139 := Tryd.isAgg242
  z139 := Tryd.sizeOf242
  v139 := Tryd.zeroValue242
  g3 := by kernel_rfl
  g4 := by kernel_rfl }
def Tryd.lays144_ren : Go.Shelf.Ren := ⟨fun | 144 => 154 | 143 => 191 | 219 => 222 | 217 => 239 | 225 => 244 | 224 => 245 | 267 => 246 | 266 => 253 | 314 => 255 | n => n, fun | 9 => 9 | 4 => 4 | 3 => 3 | 5 => 5 | 46 => 95 | 146 => 162 | 51 => 149 | n => n, fun | 1 => 0 | n => n⟩
theorem Tryd.lays144 : Go.Proofs.Lays.n144 Tryd.prog Tryd.lays144_ren := {
  mixed := by kernel_rfl
  f143 := Tryd.func191.trans (congrArg some (by kernel_rfl))
  f144 := Tryd.func154.trans (congrArg some (by kernel_rfl))
  f217 := Tryd.func239.trans (congrArg some (by kernel_rfl))
  f219 := Tryd.func222.trans (congrArg some (by kernel_rfl))
  f224 := Tryd.func245.trans (congrArg some (by kernel_rfl))
  f225 := Tryd.func244.trans (congrArg some (by kernel_rfl))
  f266 := Tryd.func253.trans (congrArg some (by kernel_rfl))
  f267 := Tryd.func246.trans (congrArg some (by kernel_rfl))
  f314 := Tryd.func255.trans (congrArg some (by kernel_rfl))
  t3 := Tryd.underlying3
  a3 := Tryd.isAgg3
  z3 := Tryd.sizeOf3
  v3 := Tryd.zeroValue3
  t4 := Tryd.underlying4
  a4 := Tryd.isAgg4
  z4 := Tryd.sizeOf4
  v4 := Tryd.zeroValue4
  t5 := Tryd.underlying5
  a5 := Tryd.isAgg5
  z5 := Tryd.sizeOf5
  v5 := Tryd.zeroValue5
  t9 := Tryd.underlying9
  a9 := Tryd.isAgg9
  z9 := Tryd.sizeOf9
  v9 := Tryd.zeroValue9
  t46 := Tryd.underlying95
  a46 := Tryd.isAgg95
  z46 := Tryd.sizeOf95
  v46 := Tryd.zeroValue95
  t51 := Tryd.underlying149
  a51 := Tryd.isAgg149
  z51 := Tryd.sizeOf149
  v51 := Tryd.zeroValue149
  t146 := Tryd.underlying162
  a146 := Tryd.isAgg162
  z146 := Tryd.sizeOf162
  v146 := Tryd.zeroValue162
  g1 := by kernel_rfl }
end Go.Proofs
namespace Go.Proofs.YthcldfmlfjomfaaDoor
open Go.RowKit Go.Shelf Go.Lib
theorem trim_cc (s cs : List UInt8) (nid : Nat) (hs : s.length ≤ 9223372036854775807) (hcs : cs.length < 4294967281) (ha : cs.all (fun b => decide (b.toNat < 128)) = true) : ACall Tryd.prog 138 [.str s, .str cs] [] nid (.str (Lib.trimS s cs)) [] :=
  acall_below (us := [.string ⟨s.toArray⟩, .string ⟨cs.toArray⟩]) nid Tryd.func138 (by kernel_rfl) (by kernel_rfl) rfl rfl (fun w => by
    have h := Any.strings_Trim_laid Tryd.lays160 (by kernel_rfl) ⟨s.toArray⟩ ⟨cs.toArray⟩ w (by simpa [ByteArray.size] using hs) (by simpa [ByteArray.size] using hcs) (ascii_of_all (by simpa using ha))
    have hf : Tryd.lays160_ren.f 160 = 138 := by kernel_rfl
    rw [hf] at h
    simpa using h)
end Go.Proofs.YthcldfmlfjomfaaDoor
namespace Go.Proofs.YthcldfmlfjomfaaDoor
def a7 : AFn := ⟨53, [.t 2], .seq (.ops [⟨(some 2), none, .mv (.c (.bool false))⟩])
 (.seq (.ops [⟨(some 10), none, .mv (.t 0)⟩, ⟨(some 11), none, .build [(.lit true 0 []), (.int .i64 0)] [(0, 1, (.t 10))]⟩, ⟨(some 12), none, .box 25 (.t 11)⟩, ⟨(some 3), none, .mv (.t 12)⟩])
 (.seq (.ops [⟨(some 14), none, .mv (.t 3)⟩, ⟨(some 15), none, .call 12 [(.t 14), (.c (.int .i64 6))]⟩, ⟨(some 13), none, .mv (.t 15)⟩, ⟨(some 16), none, .ext (.t 13) 0⟩, ⟨(some 17), none, .ext (.t 13) 1⟩, ⟨(some 4), none, .alloc 3 [(.int .i64 0)]⟩, ⟨(some 5), none, .alloc 26 [(.lit true 0 [])]⟩, ⟨none, none, .store 1 (.t 4) (.t 16)⟩, ⟨none, none, .store 1 (.t 5) (.t 17)⟩])
 (.seq (.ops [⟨(some 19), none, .load none (.t 4)⟩, ⟨(some 20), none, .load none (.t 5)⟩, ⟨(some 21), none, .call 15 [(.t 19), (.t 20)]⟩, ⟨(some 18), none, .mv (.t 21)⟩, ⟨(some 22), none, .ext (.t 18) 0⟩, ⟨(some 23), none, .ext (.t 18) 1⟩, ⟨(some 6), none, .mv (.t 22)⟩, ⟨(some 7), none, .mv (.t 23)⟩])
 (.seq (.seq (.ops [⟨(some 24), none, .mv (.t 7)⟩, ⟨(some 25), none, .bin 0 .neq (.t 24) (.c (.int .i64 0))⟩, ⟨(some 26), none, .mv (.t 25)⟩, ⟨(some 27), (some (26, false)), .mv (.t 6)⟩, ⟨(some 28), (some (26, false)), .len false (.t 27)⟩, ⟨(some 29), (some (26, false)), .load none (.t 5)⟩, ⟨(some 30), (some (26, false)), .len false (.t 29)⟩, ⟨(some 31), (some (26, false)), .bin 0 .gtr (.t 28) (.t 30)⟩, ⟨(some 32), none, .pick (.t 26) (.c (.bool true)) (.t 31)⟩])
 (.cond (.t 32) (.seq (.ops [⟨(some 2), none, .mv (.c (.bool false))⟩])
 (.ret)) (.skip)))
 (.seq (.ops [⟨(some 33), none, .mkfn 51 [(.t 5), (.t 4)]⟩, ⟨(some 8), none, .mv (.t 33)⟩])
 (.seq (.seq (.ops [⟨(some 34), none, .mv (.t 8)⟩, ⟨(some 35), none, .mv (.t 6)⟩, ⟨(some 36), none, .callv (.t 34) [(.t 35)]⟩, ⟨(some 37), none, .un .not (.t 36)⟩])
 (.cond (.t 37) (.seq (.ops [⟨(some 2), none, .mv (.c (.bool false))⟩])
 (.ret)) (.skip)))
 (.seq (.seq (.ops [⟨(some 38), none, .mv (.t 6)⟩, ⟨(some 39), none, .len false (.t 38)⟩, ⟨(some 40), none, .mv (.c (.int .i64 0))⟩])
 (.block 0 (.loop (.seq (.ops [⟨(some 41), none, .bin 0 .lss (.t 40) (.t 39)⟩])
 (.seq (.cond (.t 41) (.skip) (.exit 0))
 (.seq (.block 1 (.seq (.ops [⟨(some 42), none, .mv (.t 40)⟩, ⟨(some 9), none, .mv (.t 42)⟩])
 (.seq (.ops [⟨(some 43), none, .mv (.t 8)⟩, ⟨(some 44), none, .mv (.t 6)⟩, ⟨(some 45), none, .call 56 [(.t 44)]⟩, ⟨(some 46), none, .mv (.t 9)⟩, ⟨(some 47), none, .mv (.t 9)⟩, ⟨(some 48), none, .bin 0 .add (.t 47) (.c (.int .i64 1))⟩, ⟨(some 49), none, .call 55 [(.t 45), (.t 46), (.t 48)]⟩, ⟨(some 50), none, .callv (.t 43) [(.t 49)]⟩])
 (.cond (.t 50) (.seq (.ops [⟨(some 2), none, .mv (.c (.bool false))⟩])
 (.ret)) (.skip)))))
 (.ops [⟨(some 51), none, .bin 0 .add (.t 40) (.c (.int .i64 1))⟩, ⟨(some 40), none, .mv (.t 51)⟩])))))))
 (.seq (.ops [⟨(some 52), none, .call 21 []⟩, ⟨(some 2), none, .mv (.t 52)⟩])
 (.ret)))))))))⟩
theorem c7 : compF Go.Proofs.Tryd.prog 7 = some a7 := by kernel_rfl
def a12 : AFn := ⟨23, [.t 4, .t 5], .seq (.ops [⟨(some 4), none, .mv (.c (.int .i64 0))⟩, ⟨(some 5), none, .mv (.c (.lit true 0 []))⟩])
 (.seq (.seq (.ops [⟨(some 8), none, .mv (.c (.int .i64 0))⟩])
 (.block 0 (.loop (.seq (.ops [⟨(some 9), none, .bin 0 .lss (.t 8) (.c (.int .i64 6))⟩])
 (.seq (.cond (.t 9) (.skip) (.exit 0))
 (.seq (.block 1 (.seq (.ops [⟨(some 11), none, .mv (.t 0)⟩, ⟨(some 12), none, .mv (.t 1)⟩, ⟨(some 13), none, .call 22 [(.t 11), (.t 12)]⟩, ⟨(some 10), none, .mv (.t 13)⟩, ⟨(some 14), none, .ext (.t 10) 0⟩, ⟨(some 15), none, .ext (.t 10) 1⟩, ⟨(some 6), none, .mv (.t 14)⟩, ⟨(some 7), none, .mv (.t 15)⟩])
 (.seq (.ops [⟨(some 16), none, .mv (.t 6)⟩, ⟨(some 17), none, .mv (.t 7)⟩, ⟨(some 18), none, .call 24 [(.t 16), (.t 17)]⟩, ⟨(some 19), none, .bin 0 .eql (.t 18) (.c (.int .i64 0))⟩])
 (.cond (.t 19) (.seq (.ops [⟨(some 20), none, .mv (.t 6)⟩, ⟨(some 21), none, .mv (.t 7)⟩, ⟨(some 4), none, .mv (.t 20)⟩, ⟨(some 5), none, .mv (.t 21)⟩])
 (.ret)) (.skip)))))
 (.ops [⟨(some 22), none, .bin 0 .add (.t 8) (.c (.int .i64 1))⟩, ⟨(some 8), none, .mv (.t 22)⟩])))))))
 (.seq (.ops [⟨(some 4), none, .mv (.c (.int .i64 1))⟩, ⟨(some 5), none, .mv (.c (.lit true 0 []))⟩])
 (.ret)))⟩
theorem c12 : compF Go.Proofs.Tryd.prog 12 = some a12 := by kernel_rfl
def a14 : AFn := ⟨50, [.t 4, .t 5], .seq (.ops [⟨(some 4), none, .mv (.c (.lit true 0 []))⟩, ⟨(some 5), none, .mv (.c (.int .i64 0))⟩])
 (.seq (.seq (.ops [⟨(some 13), none, .mv (.t 0)⟩, ⟨(some 14), none, .mv (.t 1)⟩, ⟨(some 15), none, .call 26 [(.t 13), (.t 14)]⟩, ⟨(some 6), none, .mv (.t 15)⟩])
 (.seq (.ops [⟨(some 16), none, .mv (.t 6)⟩, ⟨(some 17), none, .bin 0 .neq (.t 16) (.c (.int .i64 0))⟩])
 (.cond (.t 17) (.seq (.ops [⟨(some 18), none, .mv (.t 6)⟩, ⟨(some 4), none, .mv (.c (.lit true 0 []))⟩, ⟨(some 5), none, .mv (.t 18)⟩])
 (.ret)) (.skip))))
 (.seq (.ops [⟨(some 19), none, .mv (.t 1)⟩, ⟨(some 20), none, .mv (.t 0)⟩, ⟨(some 21), none, .call 73 [(.t 19), (.t 20)]⟩, ⟨(some 7), none, .mv (.t 21)⟩])
 (.seq (.ops [⟨(some 22), none, .mv (.t 7)⟩, ⟨(some 23), none, .call 74 [(.t 22)]⟩, ⟨(some 8), none, .mv (.t 23)⟩])
 (.seq (.ops [⟨(some 9), none, .mv (.c (.lit true 0 []))⟩])
 (.seq (.seq (.ops [⟨(some 24), none, .mv (.t 7)⟩, ⟨(some 25), none, .len false (.t 24)⟩, ⟨(some 26), none, .mv (.c (.int .i64 0))⟩])
 (.block 0 (.loop (.seq (.ops [⟨(some 27), none, .bin 0 .lss (.t 26) (.t 25)⟩])
 (.seq (.cond (.t 27) (.skip) (.exit 0))
 (.seq (.block 1 (.seq (.ops [⟨(some 28), none, .mv (.t 26)⟩, ⟨(some 29), none, .iadr 1 (.t 24) (.t 26)⟩, ⟨(some 30), none, .load none (.t 29)⟩, ⟨(some 10), none, .mv (.t 28)⟩, ⟨(some 11), none, .mv (.t 30)⟩])
 (.seq (.ops [⟨(some 31), none, .mv (.t 8)⟩, ⟨(some 32), none, .mv (.t 11)⟩, ⟨(some 33), none, .mlk false .s (.lit true 0 []) (.t 31) (.t 32)⟩, ⟨(some 12), none, .mv (.t 33)⟩])
 (.seq (.ops [⟨(some 34), none, .mv (.t 12)⟩, ⟨(some 35), none, .len false (.t 34)⟩, ⟨(some 36), none, .bin 0 .gtr (.t 35) (.c (.int .i64 1))⟩, ⟨(some 37), none, .mv (.t 36)⟩, ⟨(some 38), (some (37, true)), .mv (.t 12)⟩, ⟨(some 39), (some (37, true)), .iadr 1 (.t 38) (.c (.int .i64 0))⟩, ⟨(some 40), (some (37, true)), .load none (.t 39)⟩, ⟨(some 41), (some (37, true)), .mv (.t 10)⟩, ⟨(some 42), (some (37, true)), .bin 0 .eql (.t 40) (.t 41)⟩, ⟨(some 43), none, .pick (.t 37) (.t 42) (.c (.bool false))⟩])
 (.cond (.t 43) (.ops [⟨(some 44), none, .mv (.t 9)⟩, ⟨(some 45), none, .mv (.t 12)⟩, ⟨(some 46), none, .bslice 22 1 1 [(.lit true 0 [])] [(0, 1, (.t 45))]⟩, ⟨(some 47), none, .app 22 1 24 (.t 44) (.t 46)⟩, ⟨(some 9), none, .mv (.t 47)⟩]) (.skip))))))
 (.ops [⟨(some 48), none, .bin 0 .add (.t 26) (.c (.int .i64 1))⟩, ⟨(some 26), none, .mv (.t 48)⟩])))))))
 (.seq (.ops [⟨(some 49), none, .mv (.t 9)⟩, ⟨(some 4), none, .mv (.t 49)⟩, ⟨(some 5), none, .mv (.c (.int .i64 0))⟩])
 (.ret)))))))⟩
theorem c14 : compF Go.Proofs.Tryd.prog 14 = some a14 := by kernel_rfl
def a15 : AFn := ⟨129, [.t 4, .t 5], .seq (.ops [⟨(some 4), none, .mv (.c (.lit true 0 []))⟩, ⟨(some 5), none, .mv (.c (.int .i64 0))⟩])
 (.seq (.seq (.ops [⟨(some 21), none, .mv (.t 0)⟩, ⟨(some 22), none, .mv (.t 1)⟩, ⟨(some 23), none, .call 26 [(.t 21), (.t 22)]⟩, ⟨(some 6), none, .mv (.t 23)⟩])
 (.seq (.ops [⟨(some 24), none, .mv (.t 6)⟩, ⟨(some 25), none, .bin 0 .neq (.t 24) (.c (.int .i64 0))⟩])
 (.cond (.t 25) (.seq (.ops [⟨(some 26), none, .mv (.t 6)⟩, ⟨(some 4), none, .mv (.c (.lit true 0 []))⟩, ⟨(some 5), none, .mv (.t 26)⟩])
 (.ret)) (.skip))))
 (.seq (.seq (.ops [⟨(some 27), none, .mv (.t 1)⟩, ⟨(some 28), none, .len false (.t 27)⟩, ⟨(some 29), none, .bin 0 .gtr (.t 28) (.c (.int .i64 14))⟩])
 (.cond (.t 29) (.seq (.ops [⟨(some 4), none, .mv (.c (.lit true 0 []))⟩, ⟨(some 5), none, .mv (.c (.int .i64 2))⟩])
 (.ret)) (.skip)))
 (.seq (.ops [⟨(some 30), none, .mv (.t 0)⟩, ⟨(some 31), none, .mks 95 1 8 [(.int .u64 0)] (.t 30)⟩, ⟨(some 7), none, .mv (.t 31)⟩])
 (.seq (.seq (.ops [⟨(some 32), none, .mv (.t 1)⟩, ⟨(some 33), none, .len false (.t 32)⟩, ⟨(some 34), none, .mv (.c (.int .i64 0))⟩])
 (.block 0 (.loop (.seq (.ops [⟨(some 35), none, .bin 0 .lss (.t 34) (.t 33)⟩])
 (.seq (.cond (.t 35) (.skip) (.exit 0))
 (.seq (.block 1 (.seq (.ops [⟨(some 36), none, .mv (.t 34)⟩, ⟨(some 37), none, .iadr 1 (.t 32) (.t 34)⟩, ⟨(some 38), none, .load none (.t 37)⟩, ⟨(some 8), none, .mv (.t 36)⟩, ⟨(some 9), none, .mv (.t 38)⟩])
 (.seq (.ops [⟨(some 39), none, .mv (.t 0)⟩, ⟨(some 40), none, .mv (.c (.int .i64 0))⟩])
 (.block 2 (.loop (.seq (.ops [⟨(some 41), none, .bin 0 .lss (.t 40) (.t 39)⟩])
 (.seq (.cond (.t 41) (.skip) (.exit 2))
 (.seq (.block 3 (.seq (.ops [⟨(some 42), none, .mv (.t 40)⟩, ⟨(some 10), none, .mv (.t 42)⟩])
 (.any [(⟨(some 43), none, .mv (.t 7)⟩, []), (⟨(some 44), none, .mv (.t 10)⟩, [0]), (⟨(some 45), none, .iadr 1 (.t 43) (.t 44)⟩, []), (⟨(some 46), none, .load none (.t 45)⟩, []), (⟨(some 47), none, .mv (.t 9)⟩, [0, 1, 2, 3]), (⟨(some 48), none, .mv (.t 10)⟩, [0, 1, 2, 3, 4]), (⟨(some 49), none, .idxs (.t 47) (.t 48)⟩, [0, 1, 2, 3]), (⟨(some 50), none, .bin 0 .sub (.t 49) (.c (.int .u8 48))⟩, [0, 1, 2, 3]), (⟨(some 51), none, .conv .u64 (.t 50)⟩, [0, 1, 2, 3]), (⟨(some 52), none, .mv (.t 8)⟩, [0, 1, 2, 3, 4, 5, 6, 7, 8]), (⟨(some 53), none, .bin 0 .shl (.t 51) (.t 52)⟩, [0, 1, 2, 3]), (⟨(some 54), none, .bin 0 .or (.t 46) (.t 53)⟩, []), (⟨(some 55), none, .iadr 1 (.t 43) (.t 44)⟩, []), (⟨none, none, .store 1 (.t 55) (.t 54)⟩, [])])))
 (.ops [⟨(some 56), none, .bin 0 .add (.t 40) (.c (.int .i64 1))⟩, ⟨(some 40), none, .mv (.t 56)⟩])))))))))
 (.ops [⟨(some 57), none, .bin 0 .add (.t 34) (.c (.int .i64 1))⟩, ⟨(some 34), none, .mv (.t 57)⟩])))))))
 (.seq (.ops [⟨(some 58), none, .mv (.t 1)⟩, ⟨(some 59), none, .len false (.t 58)⟩, ⟨(some 60), none, .bin 0 .shl (.c (.int .u64 1)) (.t 59)⟩, ⟨(some 61), none, .bin 0 .sub (.t 60) (.c (.int .u64 1))⟩, ⟨(some 11), none, .mv (.t 61)⟩])
 (.seq (.ops [⟨(some 63), none, .mv (.t 7)⟩, ⟨(some 64), none, .mv (.t 11)⟩, ⟨(some 65), none, .call 75 [(.t 63), (.t 64)]⟩, ⟨(some 62), none, .mv (.t 65)⟩, ⟨(some 66), none, .ext (.t 62) 0⟩, ⟨(some 67), none, .ext (.t 62) 1⟩, ⟨(some 12), none, .mv (.t 66)⟩, ⟨(some 13), none, .mv (.t 67)⟩])
 (.seq (.seq (.ops [⟨(some 68), none, .mv (.t 1)⟩, ⟨(some 69), none, .len false (.t 68)⟩, ⟨(some 70), none, .bin 0 .shl (.c (.int .u64 1)) (.t 69)⟩, ⟨(some 71), none, .mv (.c (.int .u64 0))⟩])
 (.block 4 (.loop (.seq (.ops [⟨(some 72), none, .bin 0 .lss (.t 71) (.t 70)⟩])
 (.seq (.cond (.t 72) (.skip) (.exit 4))
 (.seq (.block 5 (.seq (.ops [⟨(some 73), none, .mv (.t 71)⟩, ⟨(some 14), none, .mv (.t 73)⟩])
 (.seq (.ops [⟨(some 74), none, .mv (.t 14)⟩, ⟨(some 75), none, .call 76 [(.t 74)]⟩, ⟨(some 76), none, .mv (.t 11)⟩, ⟨(some 77), none, .call 76 [(.t 76)]⟩, ⟨(some 78), none, .bin 0 .sub (.t 75) (.t 77)⟩, ⟨(some 15), none, .mv (.t 78)⟩])
 (.seq (.seq (.ops [⟨(some 79), none, .mv (.t 14)⟩, ⟨(some 80), none, .mv (.t 11)⟩, ⟨(some 81), none, .bin 0 .xor (.t 79) (.t 80)⟩, ⟨(some 16), none, .mv (.t 81)⟩])
 (.seq (.ops [⟨(some 82), none, .mv (.t 15)⟩, ⟨(some 83), none, .bin 0 .gtr (.t 82) (.c (.int .i64 0))⟩, ⟨(some 84), none, .mv (.t 83)⟩, ⟨(some 85), (some (84, false)), .mv (.t 15)⟩, ⟨(some 86), (some (84, false)), .bin 0 .eql (.t 85) (.c (.int .i64 0))⟩, ⟨(some 87), (some (84, false)), .mv (.t 86)⟩, ⟨(some 88), (some (87, true)), .mv (.t 14)⟩, ⟨(some 89), (some (87, true)), .mv (.t 16)⟩, ⟨(some 90), (some (87, true)), .mv (.t 16)⟩, ⟨(some 91), (some (87, true)), .un .neg (.t 90)⟩, ⟨(some 92), (some (87, true)), .bin 0 .and (.t 89) (.t 91)⟩, ⟨(some 93), (some (87, true)), .bin 0 .and (.t 88) (.t 92)⟩, ⟨(some 94), (some (87, true)), .bin 0 .eql (.t 93) (.c (.int .u64 0))⟩, ⟨(some 95), (some (84, false)), .pick (.t 87) (.t 94) (.c (.bool false))⟩, ⟨(some 96), none, .pick (.t 84) (.c (.bool true)) (.t 95)⟩])
 (.cond (.t 96) (.exit 5) (.skip))))
 (.seq (.ops [⟨(some 98), none, .mv (.t 7)⟩, ⟨(some 99), none, .mv (.t 14)⟩, ⟨(some 100), none, .call 75 [(.t 98), (.t 99)]⟩, ⟨(some 97), none, .mv (.t 100)⟩, ⟨(some 101), none, .ext (.t 97) 0⟩, ⟨(some 102), none, .ext (.t 97) 1⟩, ⟨(some 17), none, .mv (.t 101)⟩, ⟨(some 18), none, .mv (.t 102)⟩])
 (.seq (.ops [⟨(some 103), none, .mv (.t 17)⟩, ⟨(some 104), none, .mv (.t 12)⟩, ⟨(some 105), none, .bin 0 .eql (.t 103) (.t 104)⟩, ⟨(some 106), none, .mv (.t 105)⟩, ⟨(some 107), (some (106, true)), .mv (.t 18)⟩, ⟨(some 108), (some (106, true)), .mv (.t 13)⟩, ⟨(some 109), (some (106, true)), .call 77 [(.t 107), (.t 108)]⟩, ⟨(some 110), none, .pick (.t 106) (.t 109) (.c (.bool false))⟩])
 (.cond (.t 110) (.ops [⟨(some 111), none, .mv (.t 14)⟩, ⟨(some 11), none, .mv (.t 111)⟩]) (.skip))))))))
 (.ops [⟨(some 112), none, .bin 0 .add (.t 71) (.c (.int .u64 1))⟩, ⟨(some 71), none, .mv (.t 112)⟩])))))))
 (.seq (.ops [⟨(some 19), none, .mv (.c (.lit true 0 []))⟩])
 (.seq (.seq (.ops [⟨(some 113), none, .mv (.t 1)⟩, ⟨(some 114), none, .len false (.t 113)⟩, ⟨(some 115), none, .mv (.c (.int .i64 0))⟩])
 (.block 6 (.loop (.seq (.ops [⟨(some 116), none, .bin 0 .lss (.t 115) (.t 114)⟩])
 (.seq (.cond (.t 116) (.skip) (.exit 6))
 (.seq (.block 7 (.seq (.ops [⟨(some 117), none, .mv (.t 115)⟩, ⟨(some 20), none, .mv (.t 117)⟩])
 (.seq (.ops [⟨(some 118), none, .mv (.t 11)⟩, ⟨(some 119), none, .mv (.t 20)⟩, ⟨(some 120), none, .bin 0 .shr (.t 118) (.t 119)⟩, ⟨(some 121), none, .bin 0 .and (.t 120) (.c (.int .u64 1))⟩, ⟨(some 122), none, .bin 0 .eql (.t 121) (.c (.int .u64 1))⟩])
 (.cond (.t 122) (.ops [⟨(some 123), none, .mv (.t 19)⟩, ⟨(some 124), none, .mv (.t 20)⟩, ⟨(some 125), none, .bslice 3 1 1 [(.int .i64 0)] [(0, 1, (.t 124))]⟩, ⟨(some 126), none, .app 3 1 8 (.t 123) (.t 125)⟩, ⟨(some 19), none, .mv (.t 126)⟩]) (.skip)))))
 (.ops [⟨(some 127), none, .bin 0 .add (.t 115) (.c (.int .i64 1))⟩, ⟨(some 115), none, .mv (.t 127)⟩])))))))
 (.seq (.ops [⟨(some 128), none, .mv (.t 19)⟩, ⟨(some 4), none, .mv (.t 128)⟩, ⟨(some 5), none, .mv (.c (.int .i64 0))⟩])
 (.ret)))))))))))⟩
theorem c15 : compF Go.Proofs.Tryd.prog 15 = some a15 := by kernel_rfl
def a16 : AFn := ⟨30, [.t 2, .t 3], .seq (.ops [⟨(some 1), none, .box 3 (.t 0)⟩, ⟨(some 2), none, .mv (.c (.lit true 0 []))⟩, ⟨(some 3), none, .mv (.c (.int .i64 0))⟩])
 (.seq (.seq (.ops [⟨(some 8), none, .load none (.t 1)⟩, ⟨(some 9), none, .call 78 [(.t 8)]⟩, ⟨(some 4), none, .mv (.t 9)⟩])
 (.seq (.ops [⟨(some 10), none, .mv (.t 4)⟩, ⟨(some 11), none, .bin 0 .neq (.t 10) (.c (.int .i64 0))⟩])
 (.cond (.t 11) (.seq (.ops [⟨(some 12), none, .mv (.t 4)⟩, ⟨(some 2), none, .mv (.c (.lit true 0 []))⟩, ⟨(some 3), none, .mv (.t 12)⟩])
 (.ret)) (.skip))))
 (.seq (.ops [⟨(some 13), none, .mkfn 80 [(.t 1)]⟩, ⟨(some 14), none, .call 79 [(.c (.int .i64 0)), (.t 13)]⟩, ⟨(some 5), none, .mv (.t 14)⟩])
 (.seq (.ops [⟨(some 6), none, .mv (.c (.lit true 0 []))⟩])
 (.seq (.seq (.ops [⟨(some 15), none, .load none (.t 1)⟩, ⟨(some 16), none, .mv (.c (.int .i64 0))⟩])
 (.block 0 (.loop (.seq (.ops [⟨(some 17), none, .bin 0 .lss (.t 16) (.t 15)⟩])
 (.seq (.cond (.t 17) (.skip) (.exit 0))
 (.seq (.block 1 (.seq (.ops [⟨(some 18), none, .mv (.t 16)⟩, ⟨(some 7), none, .mv (.t 18)⟩])
 (.ops [⟨(some 19), none, .mv (.t 6)⟩, ⟨(some 20), none, .mv (.t 7)⟩, ⟨(some 21), none, .bin 0 .add (.t 20) (.c (.int .i64 1))⟩, ⟨(some 22), none, .mv (.t 5)⟩, ⟨(some 23), none, .call 81 [(.t 21), (.t 22)]⟩, ⟨(some 24), none, .bslice 9 1 1 [(.str [])] [(0, 1, (.t 23))]⟩, ⟨(some 25), none, .app 9 1 16 (.t 19) (.t 24)⟩, ⟨(some 6), none, .mv (.t 25)⟩])))
 (.ops [⟨(some 26), none, .bin 0 .add (.t 16) (.c (.int .i64 1))⟩, ⟨(some 16), none, .mv (.t 26)⟩])))))))
 (.seq (.ops [⟨(some 27), none, .mv (.t 6)⟩, ⟨(some 28), none, .mv (.t 5)⟩, ⟨(some 29), none, .call 73 [(.t 27), (.t 28)]⟩, ⟨(some 2), none, .mv (.t 29)⟩, ⟨(some 3), none, .mv (.c (.int .i64 0))⟩])
 (.ret))))))⟩
theorem c16 : compF Go.Proofs.Tryd.prog 16 = some a16 := by kernel_rfl
def a21 : AFn := ⟨50, [.t 0], .seq (.ops [⟨(some 0), none, .mv (.c (.bool false))⟩])
 (.seq (.ops [⟨(some 9), none, .call 82 [(.c (.int .i64 4)), (.c (.int .i64 1))]⟩, ⟨(some 8), none, .mv (.t 9)⟩, ⟨(some 10), none, .ext (.t 8) 0⟩, ⟨(some 11), none, .ext (.t 8) 1⟩, ⟨(some 1), none, .mv (.t 10)⟩, ⟨(some 2), none, .mv (.t 11)⟩])
 (.seq (.ops [⟨(some 13), none, .call 16 [(.c (.int .i64 3))]⟩, ⟨(some 12), none, .mv (.t 13)⟩, ⟨(some 14), none, .ext (.t 12) 0⟩, ⟨(some 15), none, .ext (.t 12) 1⟩, ⟨(some 3), none, .mv (.t 14)⟩, ⟨(some 4), none, .mv (.t 15)⟩])
 (.seq (.ops [⟨(some 17), none, .bslice 9 1 1 [(.str [])] [(0, 1, (.c (.str [49, 120])))]⟩, ⟨(some 18), none, .build [(.lit true 0 []), (.str [])] [(0, 1, (.t 17)), (1, 1, (.c (.str [49])))]⟩, ⟨(some 19), none, .call 83 [(.t 18)]⟩, ⟨(some 16), none, .mv (.t 19)⟩, ⟨(some 20), none, .ext (.t 16) 0⟩, ⟨(some 21), none, .ext (.t 16) 1⟩, ⟨(some 22), none, .ext (.t 16) 2⟩, ⟨(some 5), none, .alloc 61 [(.int .i64 0), (.int .i64 0)]⟩, ⟨none, none, .store 2 (.t 5) (.t 20)⟩, ⟨(some 6), none, .mv (.t 21)⟩, ⟨(some 7), none, .mv (.t 22)⟩])
 (.seq (.ops [⟨(some 23), none, .mv (.t 2)⟩, ⟨(some 24), none, .bin 0 .eql (.t 23) (.c (.int .i64 0))⟩, ⟨(some 25), none, .mv (.t 24)⟩, ⟨(some 26), (some (25, true)), .mv (.t 1)⟩, ⟨(some 27), (some (25, true)), .bin 1 .eql (.t 26) (.c (.str [49, 49, 48]))⟩, ⟨(some 28), none, .pick (.t 25) (.t 27) (.c (.bool false))⟩, ⟨(some 29), none, .mv (.t 28)⟩, ⟨(some 30), (some (29, true)), .mv (.t 4)⟩, ⟨(some 31), (some (29, true)), .bin 0 .eql (.t 30) (.c (.int .i64 0))⟩, ⟨(some 32), none, .pick (.t 29) (.t 31) (.c (.bool false))⟩, ⟨(some 33), none, .mv (.t 32)⟩, ⟨(some 34), (some (33, true)), .mv (.t 3)⟩, ⟨(some 35), (some (33, true)), .len false (.t 34)⟩, ⟨(some 36), (some (33, true)), .bin 0 .eql (.t 35) (.c (.int .i64 3))⟩, ⟨(some 37), none, .pick (.t 33) (.t 36) (.c (.bool false))⟩, ⟨(some 38), none, .mv (.t 37)⟩, ⟨(some 39), (some (38, true)), .mv (.t 7)⟩, ⟨(some 40), (some (38, true)), .bin 0 .eql (.t 39) (.c (.int .i64 0))⟩, ⟨(some 41), none, .pick (.t 38) (.t 40) (.c (.bool false))⟩, ⟨(some 42), none, .mv (.t 41)⟩, ⟨(some 43), (some (42, true)), .mv (.t 6)⟩, ⟨(some 44), none, .pick (.t 42) (.t 43) (.c (.bool false))⟩, ⟨(some 45), none, .mv (.t 44)⟩, ⟨(some 46), (some (45, true)), .load (some 2) (.t 5)⟩, ⟨(some 47), (some (45, true)), .build [(.int .i64 0), (.int .i64 0)] [(0, 1, (.c (.int .i64 1))), (1, 1, (.c (.int .i64 2)))]⟩, ⟨(some 48), (some (45, true)), .eqs false [0, 0] (.t 46) (.t 47)⟩, ⟨(some 49), none, .pick (.t 45) (.t 48) (.c (.bool false))⟩, ⟨(some 0), none, .mv (.t 49)⟩])
 (.ret)))))⟩
theorem c21 : compF Go.Proofs.Tryd.prog 21 = some a21 := by kernel_rfl
def a22 : AFn := ⟨73, [.t 4, .t 5], .seq (.ops [⟨(some 4), none, .mv (.c (.int .i64 0))⟩, ⟨(some 5), none, .mv (.c (.lit true 0 []))⟩])
 (.seq (.ops [⟨(some 9), none, .mv (.t 0)⟩, ⟨(some 10), none, .call 37 [(.t 9), (.c (.int .i64 1)), (.c (.int .i64 6))]⟩, ⟨(some 6), none, .mv (.t 10)⟩])
 (.seq (.ops [⟨(some 7), none, .mv (.c (.lit true 0 []))⟩])
 (.seq (.seq (.ops [⟨(some 11), none, .mv (.t 0)⟩, ⟨(some 12), none, .mv (.t 1)⟩, ⟨(some 13), none, .call 37 [(.t 11), (.c (.int .i64 0)), (.t 12)]⟩, ⟨(some 14), none, .mv (.c (.int .i64 0))⟩])
 (.block 0 (.loop (.seq (.ops [⟨(some 15), none, .bin 0 .lss (.t 14) (.t 13)⟩])
 (.seq (.cond (.t 15) (.skip) (.exit 0))
 (.seq (.block 1 (.ops [⟨(some 16), none, .mv (.t 7)⟩, ⟨(some 17), none, .mv (.t 0)⟩, ⟨(some 18), none, .mv (.t 6)⟩, ⟨(some 19), none, .call 84 [(.t 17), (.t 18)]⟩, ⟨(some 20), none, .bslice 9 1 1 [(.str [])] [(0, 1, (.t 19))]⟩, ⟨(some 21), none, .app 9 1 16 (.t 16) (.t 20)⟩, ⟨(some 7), none, .mv (.t 21)⟩]))
 (.ops [⟨(some 22), none, .bin 0 .add (.t 14) (.c (.int .i64 1))⟩, ⟨(some 14), none, .mv (.t 22)⟩])))))))
 (.seq (.seq (.ops [⟨(some 23), none, .mv (.t 7)⟩, ⟨(some 24), none, .len false (.t 23)⟩, ⟨(some 25), none, .bin 0 .gtr (.t 24) (.c (.int .i64 0))⟩, ⟨(some 26), none, .mv (.t 25)⟩, ⟨(some 27), (some (26, true)), .mv (.t 0)⟩, ⟨(some 28), (some (26, true)), .call 43 [(.t 27), (.c (.int .i64 4))]⟩, ⟨(some 29), none, .pick (.t 26) (.t 28) (.c (.bool false))⟩])
 (.cond (.t 29) (.ops [⟨(some 30), none, .mv (.t 7)⟩, ⟨(some 31), none, .mv (.t 7)⟩, ⟨(some 32), none, .iadr 1 (.t 31) (.c (.int .i64 0))⟩, ⟨(some 33), none, .load none (.t 32)⟩, ⟨(some 34), none, .bslice 9 1 1 [(.str [])] [(0, 1, (.t 33))]⟩, ⟨(some 35), none, .app 9 1 16 (.t 30) (.t 34)⟩, ⟨(some 7), none, .mv (.t 35)⟩]) (.skip)))
 (.seq (.seq (.ops [⟨(some 36), none, .mv (.t 7)⟩, ⟨(some 37), none, .len false (.t 36)⟩, ⟨(some 38), none, .bin 0 .gtr (.t 37) (.c (.int .i64 0))⟩, ⟨(some 39), none, .mv (.t 38)⟩, ⟨(some 40), (some (39, true)), .mv (.t 0)⟩, ⟨(some 41), (some (39, true)), .call 43 [(.t 40), (.c (.int .i64 12))]⟩, ⟨(some 42), none, .pick (.t 39) (.t 41) (.c (.bool false))⟩])
 (.cond (.t 42) (.seq (.ops [⟨(some 43), none, .mv (.t 0)⟩, ⟨(some 44), none, .mv (.t 7)⟩, ⟨(some 45), none, .len false (.t 44)⟩, ⟨(some 46), none, .call 85 [(.t 43), (.t 45)]⟩, ⟨(some 8), none, .mv (.t 46)⟩])
 (.any [(⟨(some 47), none, .mv (.t 7)⟩, []), (⟨(some 48), none, .mv (.t 8)⟩, [0]), (⟨(some 49), none, .mv (.t 0)⟩, [0, 1]), (⟨(some 50), none, .mv (.t 7)⟩, [0, 1, 2]), (⟨(some 51), none, .mv (.t 8)⟩, [0, 1, 2, 3]), (⟨(some 52), none, .iadr 1 (.t 50) (.t 51)⟩, [0, 1, 2]), (⟨(some 53), none, .load none (.t 52)⟩, [0, 1, 2]), (⟨(some 54), none, .mv (.t 0)⟩, [0, 1, 2, 3, 4, 5, 6]), (⟨(some 55), none, .mv (.t 6)⟩, [0, 1, 2, 3, 4, 5, 6, 7]), (⟨(some 56), none, .bin 0 .add (.t 55) (.c (.int .i64 1))⟩, [0, 1, 2, 3, 4, 5, 6, 7]), (⟨(some 57), none, .call 84 [(.t 54), (.t 56)]⟩, [0, 1, 2, 3, 4, 5, 6]), (⟨(some 58), none, .mv (.t 0)⟩, [0, 1, 2, 3, 4, 5, 6, 7, 8, 9, 10]), (⟨(some 59), none, .mv (.t 7)⟩, [0, 1, 2, 3, 4, 5, 6, 7, 8, 9, 10, 11]), (⟨(some 60), none, .mv (.t 8)⟩, [0, 1, 2, 3, 4, 5, 6, 7, 8, 9, 10, 11, 12]), (⟨(some 61), none, .iadr 1 (.t 59) (.t 60)⟩, [0, 1, 2, 3, 4, 5, 6, 7, 8, 9, 10, 11]), (⟨(some 62), none, .load none (.t 61)⟩, [0, 1, 2, 3, 4, 5, 6, 7, 8, 9, 10, 11]), (⟨(some 63), none, .call 87 [(.t 58), (.t 62), (.c (.str [50]))]⟩, [0, 1, 2, 3, 4, 5, 6]), (⟨(some 64), none, .bslice 9 1 4 [(.str [])] [(0, 1, (.t 53)), (1, 1, (.c (.str []))), (2, 1, (.t 57)), (3, 1, (.t 63))]⟩, [0, 1, 2]), (⟨(some 65), none, .call 86 [(.t 49), (.t 64)]⟩, [0, 1]), (⟨(some 66), none, .iadr 1 (.t 47) (.t 48)⟩, []), (⟨none, none, .store 1 (.t 66) (.t 65)⟩, [])])) (.skip)))
 (.seq (.seq (.ops [⟨(some 67), none, .mv (.t 0)⟩, ⟨(some 68), none, .call 43 [(.t 67), (.c (.int .i64 20))]⟩])
 (.cond (.t 68) (.ops [⟨(some 69), none, .mv (.t 0)⟩, ⟨(some 70), none, .call 57 [(.t 69), (.c (.int .i64 1)), (.c (.int .i64 100))]⟩, ⟨(some 6), none, .mv (.t 70)⟩]) (.skip)))
 (.seq (.ops [⟨(some 71), none, .mv (.t 6)⟩, ⟨(some 72), none, .mv (.t 7)⟩, ⟨(some 4), none, .mv (.t 71)⟩, ⟨(some 5), none, .mv (.t 72)⟩])
 (.ret))))))))⟩
theorem c22 : compF Go.Proofs.Tryd.prog 22 = some a22 := by kernel_rfl
def a24 : AFn := ⟨32, [.t 4], .seq (.ops [⟨(some 4), none, .mv (.c (.int .i64 0))⟩])
 (.seq (.block 0 (.seq (.ops [⟨(some 9), none, .mv (.t 0)⟩, ⟨(some 10), none, .call 89 [(.t 9), (.c (.int .i64 1)), (.c (.int .i64 100))]⟩, ⟨(some 11), none, .un .not (.t 10)⟩, ⟨(some 8), none, .mv (.t 11)⟩])
 (.cond (.t 8) (.seq (.ops [⟨(some 4), none, .mv (.c (.int .i64 1))⟩])
 (.ret)) (.seq (.ops [⟨(some 13), none, .mv (.t 1)⟩, ⟨(some 14), none, .len false (.t 13)⟩, ⟨(some 15), none, .bin 0 .gtr (.t 14) (.c (.int .i64 200))⟩, ⟨(some 12), none, .mv (.t 15)⟩])
 (.cond (.t 12) (.seq (.ops [⟨(some 4), none, .mv (.c (.int .i64 2))⟩])
 (.ret)) (.skip))))))
 (.seq (.seq (.ops [⟨(some 16), none, .mv (.t 1)⟩, ⟨(some 17), none, .len false (.t 16)⟩, ⟨(some 18), none, .mv (.c (.int .i64 0))⟩])
 (.block 1 (.loop (.seq (.ops [⟨(some 19), none, .bin 0 .lss (.t 18) (.t 17)⟩])
 (.seq (.cond (.t 19) (.skip) (.exit 1))
 (.seq (.block 2 (.seq (.ops [⟨(some 20), none, .iadr 1 (.t 16) (.t 18)⟩, ⟨(some 21), none, .load none (.t 20)⟩, ⟨(some 6), none, .mv (.t 21)⟩])
 (.seq (.seq (.ops [⟨(some 22), none, .mv (.t 6)⟩, ⟨(some 23), none, .len true (.t 22)⟩, ⟨(some 24), none, .mv (.t 0)⟩, ⟨(some 25), none, .bin 0 .neq (.t 23) (.t 24)⟩])
 (.cond (.t 25) (.seq (.ops [⟨(some 4), none, .mv (.c (.int .i64 3))⟩])
 (.ret)) (.skip)))
 (.seq (.ops [⟨(some 26), none, .mv (.t 6)⟩, ⟨(some 27), none, .call 90 [(.t 26)]⟩, ⟨(some 7), none, .mv (.t 27)⟩])
 (.seq (.ops [⟨(some 28), none, .mv (.t 7)⟩, ⟨(some 29), none, .bin 0 .neq (.t 28) (.c (.int .i64 0))⟩])
 (.cond (.t 29) (.seq (.ops [⟨(some 30), none, .mv (.t 7)⟩, ⟨(some 4), none, .mv (.t 30)⟩])
 (.ret)) (.skip)))))))
 (.ops [⟨(some 31), none, .bin 0 .add (.t 18) (.c (.int .i64 1))⟩, ⟨(some 18), none, .mv (.t 31)⟩])))))))
 (.seq (.ops [⟨(some 4), none, .mv (.c (.int .i64 0))⟩])
 (.ret))))⟩
theorem c24 : compF Go.Proofs.Tryd.prog 24 = some a24 := by kernel_rfl
def a26 : AFn := ⟨30, [.t 4], .seq (.ops [⟨(some 4), none, .mv (.c (.int .i64 0))⟩])
 (.seq (.block 0 (.seq (.ops [⟨(some 8), none, .mv (.t 0)⟩, ⟨(some 9), none, .call 91 [(.t 8), (.c (.int .i64 1)), (.c (.int .i64 100))]⟩, ⟨(some 7), none, .mv (.t 9)⟩])
 (.cond (.t 7) (.seq (.ops [⟨(some 4), none, .mv (.c (.int .i64 1))⟩])
 (.ret)) (.seq (.ops [⟨(some 11), none, .mv (.t 1)⟩, ⟨(some 12), none, .len false (.t 11)⟩, ⟨(some 13), none, .bin 0 .gtr (.t 12) (.c (.int .i64 200))⟩, ⟨(some 10), none, .mv (.t 13)⟩])
 (.cond (.t 10) (.seq (.ops [⟨(some 4), none, .mv (.c (.int .i64 2))⟩])
 (.ret)) (.skip))))))
 (.seq (.seq (.ops [⟨(some 14), none, .mv (.t 1)⟩, ⟨(some 15), none, .len false (.t 14)⟩, ⟨(some 16), none, .mv (.c (.int .i64 0))⟩])
 (.block 1 (.loop (.seq (.ops [⟨(some 17), none, .bin 0 .lss (.t 16) (.t 15)⟩])
 (.seq (.cond (.t 17) (.skip) (.exit 1))
 (.seq (.block 2 (.seq (.ops [⟨(some 18), none, .iadr 1 (.t 14) (.t 16)⟩, ⟨(some 19), none, .load none (.t 18)⟩, ⟨(some 6), none, .mv (.t 19)⟩])
 (.block 3 (.seq (.ops [⟨(some 21), none, .mv (.t 6)⟩, ⟨(some 22), none, .len true (.t 21)⟩, ⟨(some 23), none, .mv (.t 0)⟩, ⟨(some 24), none, .bin 0 .neq (.t 22) (.t 23)⟩, ⟨(some 20), none, .mv (.t 24)⟩])
 (.cond (.t 20) (.seq (.ops [⟨(some 4), none, .mv (.c (.int .i64 3))⟩])
 (.ret)) (.seq (.ops [⟨(some 26), none, .mv (.t 6)⟩, ⟨(some 27), none, .call 92 [(.t 26)]⟩, ⟨(some 28), none, .un .not (.t 27)⟩, ⟨(some 25), none, .mv (.t 28)⟩])
 (.cond (.t 25) (.seq (.ops [⟨(some 4), none, .mv (.c (.int .i64 9))⟩])
 (.ret)) (.skip))))))))
 (.ops [⟨(some 29), none, .bin 0 .add (.t 16) (.c (.int .i64 1))⟩, ⟨(some 16), none, .mv (.t 29)⟩])))))))
 (.seq (.ops [⟨(some 4), none, .mv (.c (.int .i64 0))⟩])
 (.ret))))⟩
theorem c26 : compF Go.Proofs.Tryd.prog 26 = some a26 := by kernel_rfl
def a37 : AFn := ⟨19, [.t 6], .seq (.ops [⟨(some 6), none, .mv (.c (.int .i64 0))⟩])
 (.seq (.seq (.ops [⟨(some 7), none, .mv (.t 2)⟩, ⟨(some 8), none, .mv (.t 1)⟩, ⟨(some 9), none, .bin 0 .lss (.t 7) (.t 8)⟩])
 (.cond (.t 9) (.seq (.ops [⟨(some 10), none, .mv (.t 1)⟩, ⟨(some 6), none, .mv (.t 10)⟩])
 (.ret)) (.skip)))
 (.seq (.ops [⟨(some 11), none, .mv (.t 1)⟩, ⟨(some 12), none, .mv (.t 0)⟩, ⟨(some 13), none, .mv (.t 2)⟩, ⟨(some 14), none, .mv (.t 1)⟩, ⟨(some 15), none, .bin 0 .sub (.t 13) (.t 14)⟩, ⟨(some 16), none, .bin 0 .add (.t 15) (.c (.int .i64 1))⟩, ⟨(some 17), none, .call 85 [(.t 12), (.t 16)]⟩, ⟨(some 18), none, .bin 0 .add (.t 11) (.t 17)⟩, ⟨(some 6), none, .mv (.t 18)⟩])
 (.ret)))⟩
theorem c37 : compF Go.Proofs.Tryd.prog 37 = some a37 := by kernel_rfl
def a43 : AFn := ⟨9, [.t 4], .seq (.ops [⟨(some 4), none, .mv (.c (.bool false))⟩])
 (.seq (.ops [⟨(some 5), none, .mv (.t 0)⟩, ⟨(some 6), none, .mv (.t 1)⟩, ⟨(some 7), none, .call 85 [(.t 5), (.t 6)]⟩, ⟨(some 8), none, .bin 0 .eql (.t 7) (.c (.int .i64 0))⟩, ⟨(some 4), none, .mv (.t 8)⟩])
 (.ret))⟩
theorem c43 : compF Go.Proofs.Tryd.prog 43 = some a43 := by kernel_rfl
def a47 : AFn := ⟨26, [.t 4], .seq (.ops [⟨(some 4), none, .mv (.c (.bool false))⟩])
 (.seq (.seq (.ops [⟨(some 6), none, .mv (.t 0)⟩, ⟨(some 7), none, .len false (.t 6)⟩, ⟨(some 8), none, .mv (.t 1)⟩, ⟨(some 9), none, .len false (.t 8)⟩, ⟨(some 10), none, .bin 0 .neq (.t 7) (.t 9)⟩])
 (.cond (.t 10) (.seq (.ops [⟨(some 4), none, .mv (.c (.bool false))⟩])
 (.ret)) (.skip)))
 (.seq (.seq (.ops [⟨(some 11), none, .mv (.t 0)⟩, ⟨(some 12), none, .len false (.t 11)⟩, ⟨(some 13), none, .mv (.c (.int .i64 0))⟩])
 (.block 0 (.loop (.seq (.ops [⟨(some 14), none, .bin 0 .lss (.t 13) (.t 12)⟩])
 (.seq (.cond (.t 14) (.skip) (.exit 0))
 (.seq (.block 1 (.seq (.ops [⟨(some 15), none, .mv (.t 13)⟩, ⟨(some 5), none, .mv (.t 15)⟩])
 (.seq (.any [(⟨(some 16), none, .mv (.t 0)⟩, []), (⟨(some 17), none, .mv (.t 5)⟩, [0]), (⟨(some 18), none, .iadr 1 (.t 16) (.t 17)⟩, []), (⟨(some 19), none, .load none (.t 18)⟩, []), (⟨(some 20), none, .mv (.t 1)⟩, [0, 1, 2, 3]), (⟨(some 21), none, .mv (.t 5)⟩, [0, 1, 2, 3, 4]), (⟨(some 22), none, .iadr 1 (.t 20) (.t 21)⟩, [0, 1, 2, 3]), (⟨(some 23), none, .load none (.t 22)⟩, [0, 1, 2, 3]), (⟨(some 24), none, .bin 0 .neq (.t 19) (.t 23)⟩, [])])
 (.cond (.t 24) (.seq (.ops [⟨(some 4), none, .mv (.c (.bool false))⟩])
 (.ret)) (.skip)))))
 (.ops [⟨(some 25), none, .bin 0 .add (.t 13) (.c (.int .i64 1))⟩, ⟨(some 13), none, .mv (.t 25)⟩])))))))
 (.seq (.ops [⟨(some 4), none, .mv (.c (.bool true))⟩])
 (.ret))))⟩
theorem c47 : compF Go.Proofs.Tryd.prog 47 = some a47 := by kernel_rfl
def a51 : AFn := ⟨71, [.t 4], .seq (.ops [⟨(some 4), none, .mv (.c (.bool false))⟩])
 (.seq (.ops [⟨(some 16), none, .load none (.t 1)⟩, ⟨(some 17), none, .mv (.t 0)⟩, ⟨(some 18), none, .call 52 [(.t 16), (.t 17)]⟩, ⟨(some 15), none, .mv (.t 18)⟩, ⟨(some 19), none, .ext (.t 15) 0⟩, ⟨(some 20), none, .ext (.t 15) 1⟩, ⟨(some 5), none, .mv (.t 19)⟩, ⟨(some 6), none, .mv (.t 20)⟩])
 (.seq (.seq (.ops [⟨(some 21), none, .mv (.t 6)⟩, ⟨(some 22), none, .un .not (.t 21)⟩])
 (.cond (.t 22) (.seq (.ops [⟨(some 4), none, .mv (.c (.bool false))⟩])
 (.ret)) (.skip)))
 (.seq (.ops [⟨(some 24), none, .load none (.t 2)⟩, ⟨(some 25), none, .load none (.t 1)⟩, ⟨(some 26), none, .call 14 [(.t 24), (.t 25)]⟩, ⟨(some 23), none, .mv (.t 26)⟩, ⟨(some 27), none, .ext (.t 23) 0⟩, ⟨(some 28), none, .ext (.t 23) 1⟩, ⟨(some 7), none, .mv (.t 27)⟩, ⟨(some 8), none, .mv (.t 28)⟩])
 (.seq (.ops [⟨(some 30), none, .load none (.t 2)⟩, ⟨(some 31), none, .mv (.t 5)⟩, ⟨(some 32), none, .call 14 [(.t 30), (.t 31)]⟩, ⟨(some 29), none, .mv (.t 32)⟩, ⟨(some 33), none, .ext (.t 29) 0⟩, ⟨(some 34), none, .ext (.t 29) 1⟩, ⟨(some 9), none, .mv (.t 33)⟩, ⟨(some 10), none, .mv (.t 34)⟩])
 (.seq (.ops [⟨(some 36), none, .load none (.t 2)⟩, ⟨(some 37), none, .load none (.t 1)⟩, ⟨(some 38), none, .call 53 [(.t 36), (.t 37)]⟩, ⟨(some 35), none, .mv (.t 38)⟩, ⟨(some 39), none, .ext (.t 35) 0⟩, ⟨(some 40), none, .ext (.t 35) 1⟩, ⟨(some 11), none, .mv (.t 39)⟩, ⟨(some 12), none, .mv (.t 40)⟩])
 (.seq (.ops [⟨(some 42), none, .load none (.t 2)⟩, ⟨(some 43), none, .mv (.t 5)⟩, ⟨(some 44), none, .call 53 [(.t 42), (.t 43)]⟩, ⟨(some 41), none, .mv (.t 44)⟩, ⟨(some 45), none, .ext (.t 41) 0⟩, ⟨(some 46), none, .ext (.t 41) 1⟩, ⟨(some 13), none, .mv (.t 45)⟩, ⟨(some 14), none, .mv (.t 46)⟩])
 (.seq (.ops [⟨(some 47), none, .mv (.t 8)⟩, ⟨(some 48), none, .bin 0 .eql (.t 47) (.c (.int .i64 0))⟩, ⟨(some 49), none, .mv (.t 48)⟩, ⟨(some 50), (some (49, true)), .mv (.t 10)⟩, ⟨(some 51), (some (49, true)), .bin 0 .eql (.t 50) (.c (.int .i64 0))⟩, ⟨(some 52), none, .pick (.t 49) (.t 51) (.c (.bool false))⟩, ⟨(some 53), none, .mv (.t 52)⟩, ⟨(some 54), (some (53, true)), .mv (.t 12)⟩, ⟨(some 55), (some (53, true)), .bin 0 .eql (.t 54) (.c (.int .i64 0))⟩, ⟨(some 56), none, .pick (.t 53) (.t 55) (.c (.bool false))⟩, ⟨(some 57), none, .mv (.t 56)⟩, ⟨(some 58), (some (57, true)), .mv (.t 14)⟩, ⟨(some 59), (some (57, true)), .bin 0 .eql (.t 58) (.c (.int .i64 0))⟩, ⟨(some 60), none, .pick (.t 57) (.t 59) (.c (.bool false))⟩, ⟨(some 61), none, .mv (.t 60)⟩, ⟨(some 62), (some (61, true)), .mv (.t 7)⟩, ⟨(some 63), (some (61, true)), .mv (.t 9)⟩, ⟨(some 64), (some (61, true)), .call 54 [(.t 62), (.t 63), (.c (.fn 47 []))]⟩, ⟨(some 65), none, .pick (.t 61) (.t 64) (.c (.bool false))⟩, ⟨(some 66), none, .mv (.t 65)⟩, ⟨(some 67), (some (66, true)), .mv (.t 11)⟩, ⟨(some 68), (some (66, true)), .mv (.t 13)⟩, ⟨(some 69), (some (66, true)), .call 47 [(.t 67), (.t 68)]⟩, ⟨(some 70), none, .pick (.t 66) (.t 69) (.c (.bool false))⟩, ⟨(some 4), none, .mv (.t 70)⟩])
 (.ret))))))))⟩
theorem c51 : compF Go.Proofs.Tryd.prog 51 = some a51 := by kernel_rfl
def a52 : AFn := ⟨32, [.t 4, .t 5], .seq (.ops [⟨(some 4), none, .mv (.c (.lit true 0 []))⟩, ⟨(some 5), none, .mv (.c (.bool false))⟩])
 (.seq (.ops [⟨(some 6), none, .mv (.c (.lit true 0 []))⟩])
 (.seq (.seq (.ops [⟨(some 9), none, .mv (.t 1)⟩, ⟨(some 10), none, .len false (.t 9)⟩, ⟨(some 11), none, .mv (.c (.int .i64 0))⟩])
 (.block 0 (.loop (.seq (.ops [⟨(some 12), none, .bin 0 .lss (.t 11) (.t 10)⟩])
 (.seq (.cond (.t 12) (.skip) (.exit 0))
 (.seq (.block 1 (.seq (.ops [⟨(some 13), none, .iadr 1 (.t 9) (.t 11)⟩, ⟨(some 14), none, .load none (.t 13)⟩, ⟨(some 8), none, .mv (.t 14)⟩])
 (.seq (.seq (.ops [⟨(some 15), none, .mv (.t 8)⟩, ⟨(some 16), none, .bin 0 .lss (.t 15) (.c (.int .i64 0))⟩, ⟨(some 17), none, .mv (.t 16)⟩, ⟨(some 18), (some (17, false)), .mv (.t 8)⟩, ⟨(some 19), (some (17, false)), .mv (.t 0)⟩, ⟨(some 20), (some (17, false)), .len false (.t 19)⟩, ⟨(some 21), (some (17, false)), .bin 0 .geq (.t 18) (.t 20)⟩, ⟨(some 22), none, .pick (.t 17) (.c (.bool true)) (.t 21)⟩])
 (.cond (.t 22) (.seq (.ops [⟨(some 4), none, .mv (.c (.lit true 0 []))⟩, ⟨(some 5), none, .mv (.c (.bool false))⟩])
 (.ret)) (.skip)))
 (.ops [⟨(some 23), none, .mv (.t 6)⟩, ⟨(some 24), none, .mv (.t 0)⟩, ⟨(some 25), none, .mv (.t 8)⟩, ⟨(some 26), none, .iadr 1 (.t 24) (.t 25)⟩, ⟨(some 27), none, .load none (.t 26)⟩, ⟨(some 28), none, .bslice 9 1 1 [(.str [])] [(0, 1, (.t 27))]⟩, ⟨(some 29), none, .app 9 1 16 (.t 23) (.t 28)⟩, ⟨(some 6), none, .mv (.t 29)⟩]))))
 (.ops [⟨(some 30), none, .bin 0 .add (.t 11) (.c (.int .i64 1))⟩, ⟨(some 11), none, .mv (.t 30)⟩])))))))
 (.seq (.ops [⟨(some 31), none, .mv (.t 6)⟩, ⟨(some 4), none, .mv (.t 31)⟩, ⟨(some 5), none, .mv (.c (.bool true))⟩])
 (.ret))))⟩
theorem c52 : compF Go.Proofs.Tryd.prog 52 = some a52 := by kernel_rfl
def a53 : AFn := ⟨34, [.t 4, .t 5], .seq (.ops [⟨(some 4), none, .mv (.c (.lit true 0 []))⟩, ⟨(some 5), none, .mv (.c (.int .i64 0))⟩])
 (.seq (.seq (.ops [⟨(some 10), none, .mv (.t 0)⟩, ⟨(some 11), none, .mv (.t 1)⟩, ⟨(some 12), none, .call 26 [(.t 10), (.t 11)]⟩, ⟨(some 6), none, .mv (.t 12)⟩])
 (.seq (.ops [⟨(some 13), none, .mv (.t 6)⟩, ⟨(some 14), none, .bin 0 .neq (.t 13) (.c (.int .i64 0))⟩])
 (.cond (.t 14) (.seq (.ops [⟨(some 15), none, .mv (.t 6)⟩, ⟨(some 4), none, .mv (.c (.lit true 0 []))⟩, ⟨(some 5), none, .mv (.t 15)⟩])
 (.ret)) (.skip))))
 (.seq (.ops [⟨(some 7), none, .mv (.c (.lit true 0 []))⟩])
 (.seq (.seq (.ops [⟨(some 16), none, .mv (.t 1)⟩, ⟨(some 17), none, .mv (.t 0)⟩, ⟨(some 18), none, .call 73 [(.t 16), (.t 17)]⟩, ⟨(some 19), none, .len false (.t 18)⟩, ⟨(some 20), none, .mv (.c (.int .i64 0))⟩])
 (.block 0 (.loop (.seq (.ops [⟨(some 21), none, .bin 0 .lss (.t 20) (.t 19)⟩])
 (.seq (.cond (.t 21) (.skip) (.exit 0))
 (.seq (.block 1 (.seq (.ops [⟨(some 22), none, .mv (.t 20)⟩, ⟨(some 23), none, .iadr 1 (.t 18) (.t 20)⟩, ⟨(some 24), none, .load none (.t 23)⟩, ⟨(some 8), none, .mv (.t 22)⟩, ⟨(some 9), none, .mv (.t 24)⟩])
 (.seq (.ops [⟨(some 25), none, .mv (.t 9)⟩, ⟨(some 26), none, .call 118 [(.t 25)]⟩, ⟨(some 27), none, .un .not (.t 26)⟩])
 (.cond (.t 27) (.ops [⟨(some 28), none, .mv (.t 7)⟩, ⟨(some 29), none, .mv (.t 8)⟩, ⟨(some 30), none, .bslice 3 1 1 [(.int .i64 0)] [(0, 1, (.t 29))]⟩, ⟨(some 31), none, .app 3 1 8 (.t 28) (.t 30)⟩, ⟨(some 7), none, .mv (.t 31)⟩]) (.skip)))))
 (.ops [⟨(some 32), none, .bin 0 .add (.t 20) (.c (.int .i64 1))⟩, ⟨(some 20), none, .mv (.t 32)⟩])))))))
 (.seq (.ops [⟨(some 33), none, .mv (.t 7)⟩, ⟨(some 4), none, .mv (.t 33)⟩, ⟨(some 5), none, .mv (.c (.int .i64 0))⟩])
 (.ret)))))⟩
theorem c53 : compF Go.Proofs.Tryd.prog 53 = some a53 := by kernel_rfl
def a54 : AFn := ⟨32, [.t 6], .seq (.ops [⟨(some 6), none, .mv (.c (.bool false))⟩])
 (.seq (.seq (.ops [⟨(some 10), none, .mv (.t 0)⟩, ⟨(some 11), none, .len false (.t 10)⟩, ⟨(some 12), none, .mv (.t 1)⟩, ⟨(some 13), none, .len false (.t 12)⟩, ⟨(some 14), none, .bin 0 .neq (.t 11) (.t 13)⟩])
 (.cond (.t 14) (.seq (.ops [⟨(some 6), none, .mv (.c (.bool false))⟩])
 (.ret)) (.skip)))
 (.seq (.seq (.ops [⟨(some 15), none, .mv (.t 0)⟩, ⟨(some 16), none, .len false (.t 15)⟩, ⟨(some 17), none, .mv (.c (.int .i64 0))⟩])
 (.block 0 (.loop (.seq (.ops [⟨(some 18), none, .bin 0 .lss (.t 17) (.t 16)⟩])
 (.seq (.cond (.t 18) (.skip) (.exit 0))
 (.seq (.block 1 (.seq (.ops [⟨(some 19), none, .mv (.t 17)⟩, ⟨(some 20), none, .iadr 1 (.t 15) (.t 17)⟩, ⟨(some 21), none, .load none (.t 20)⟩, ⟨(some 7), none, .mv (.t 19)⟩, ⟨(some 8), none, .mv (.t 21)⟩])
 (.seq (.ops [⟨(some 22), none, .mv (.t 1)⟩, ⟨(some 23), none, .mv (.t 7)⟩, ⟨(some 24), none, .iadr 1 (.t 22) (.t 23)⟩, ⟨(some 25), none, .load none (.t 24)⟩, ⟨(some 9), none, .mv (.t 25)⟩])
 (.seq (.ops [⟨(some 26), none, .mv (.t 2)⟩, ⟨(some 27), none, .mv (.t 8)⟩, ⟨(some 28), none, .mv (.t 9)⟩, ⟨(some 29), none, .callv (.t 26) [(.t 27), (.t 28)]⟩, ⟨(some 30), none, .un .not (.t 29)⟩])
 (.cond (.t 30) (.seq (.ops [⟨(some 6), none, .mv (.c (.bool false))⟩])
 (.ret)) (.skip))))))
 (.ops [⟨(some 31), none, .bin 0 .add (.t 17) (.c (.int .i64 1))⟩, ⟨(some 17), none, .mv (.t 31)⟩])))))))
 (.seq (.ops [⟨(some 6), none, .mv (.c (.bool true))⟩])
 (.ret))))⟩
theorem c54 : compF Go.Proofs.Tryd.prog 54 = some a54 := by kernel_rfl
def a55 : AFn := ⟨33, [.t 6], .seq (.ops [⟨(some 6), none, .mv (.c (.lit true 0 []))⟩])
 (.seq (.ops [⟨(some 8), none, .mv (.t 0)⟩, ⟨(some 9), none, .mv (.t 1)⟩, ⟨(some 10), none, .mv (.t 2)⟩, ⟨(some 11), none, .mv (.t 0)⟩, ⟨(some 12), none, .len false (.t 11)⟩, ⟨(some 13), none, .slc3 1 (.t 8) (some (.t 9)) (some (.t 10)) (.t 12)⟩])
 (.seq (.seq (.ops [⟨(some 14), none, .mv (.t 1)⟩, ⟨(some 15), none, .mv (.t 2)⟩, ⟨(some 16), none, .bin 0 .eql (.t 14) (.t 15)⟩])
 (.cond (.t 16) (.seq (.ops [⟨(some 17), none, .mv (.t 0)⟩, ⟨(some 6), none, .mv (.t 17)⟩])
 (.ret)) (.skip)))
 (.seq (.ops [⟨(some 18), none, .mv (.t 0)⟩, ⟨(some 19), none, .len false (.t 18)⟩, ⟨(some 7), none, .mv (.t 19)⟩])
 (.seq (.any [(⟨(some 20), none, .mv (.t 0)⟩, []), (⟨(some 21), none, .mv (.t 1)⟩, [0]), (⟨(some 22), none, .slc 1 (.t 20) none (some (.t 21))⟩, []), (⟨(some 23), none, .mv (.t 0)⟩, [0, 1, 2]), (⟨(some 24), none, .mv (.t 2)⟩, [0, 1, 2, 3]), (⟨(some 25), none, .slc 1 (.t 23) (some (.t 24)) none⟩, [0, 1, 2]), (⟨(some 26), none, .appin 1 (.t 22) (.t 25)⟩, []), (⟨(some 0), none, .mv (.t 26)⟩, [])])
 (.seq (.ops [⟨(some 27), none, .mv (.t 0)⟩, ⟨(some 28), none, .mv (.t 0)⟩, ⟨(some 29), none, .len false (.t 28)⟩, ⟨(some 30), none, .mv (.t 7)⟩, ⟨(some 31), none, .slc 1 (.t 27) (some (.t 29)) (some (.t 30))⟩, ⟨none, none, .clr [(.int .i64 0)] (.t 31)⟩])
 (.seq (.ops [⟨(some 32), none, .mv (.t 0)⟩, ⟨(some 6), none, .mv (.t 32)⟩])
 (.ret)))))))⟩
theorem c55 : compF Go.Proofs.Tryd.prog 55 = some a55 := by kernel_rfl
def a56 : AFn := ⟨8, [.t 2], .seq (.ops [⟨(some 2), none, .mv (.c (.lit true 0 []))⟩])
 (.seq (.seq (.ops [⟨(some 3), none, .mv (.t 0)⟩, ⟨(some 4), none, .bin 3 .eql (.t 3) (.c (.lit true 0 []))⟩])
 (.cond (.t 4) (.seq (.ops [⟨(some 2), none, .mv (.c (.lit true 0 []))⟩])
 (.ret)) (.skip)))
 (.seq (.ops [⟨(some 5), none, .bslice 3 1 0 [(.int .i64 0)] []⟩, ⟨(some 6), none, .mv (.t 0)⟩, ⟨(some 7), none, .app 3 1 8 (.t 5) (.t 6)⟩, ⟨(some 2), none, .mv (.t 7)⟩])
 (.ret)))⟩
theorem c56 : compF Go.Proofs.Tryd.prog 56 = some a56 := by kernel_rfl
def a57 : AFn := ⟨22, [.t 6], .seq (.ops [⟨(some 6), none, .mv (.c (.int .i64 0))⟩])
 (.seq (.seq (.ops [⟨(some 7), none, .mv (.t 0)⟩, ⟨(some 8), none, .call 43 [(.t 7), (.c (.int .i64 12))]⟩])
 (.cond (.t 8) (.seq (.ops [⟨(some 9), none, .mv (.t 0)⟩, ⟨(some 10), none, .mv (.t 1)⟩, ⟨(some 11), none, .bin 0 .sub (.t 10) (.c (.int .i64 1))⟩, ⟨(some 12), none, .mv (.t 2)⟩, ⟨(some 13), none, .bin 0 .add (.t 12) (.c (.int .i64 1))⟩, ⟨(some 14), none, .mv (.t 1)⟩, ⟨(some 15), none, .mv (.t 2)⟩, ⟨(some 16), none, .bslice 3 1 6 [(.int .i64 0)] [(0, 1, (.t 11)), (1, 1, (.t 13)), (2, 1, (.t 14)), (3, 1, (.t 15)), (4, 1, (.c (.int .i64 (-1099511627776)))), (5, 1, (.c (.int .i64 1099511627776)))]⟩, ⟨(some 17), none, .call 58 [(.t 9), (.t 16)]⟩, ⟨(some 6), none, .mv (.t 17)⟩])
 (.ret)) (.skip)))
 (.seq (.ops [⟨(some 18), none, .mv (.t 0)⟩, ⟨(some 19), none, .mv (.t 1)⟩, ⟨(some 20), none, .mv (.t 2)⟩, ⟨(some 21), none, .call 37 [(.t 18), (.t 19), (.t 20)]⟩, ⟨(some 6), none, .mv (.t 21)⟩])
 (.ret)))⟩
theorem c57 : compF Go.Proofs.Tryd.prog 57 = some a57 := by kernel_rfl
def a58 : AFn := ⟨12, [.t 4], .seq (.ops [⟨(some 4), none, .mv (.c (.int .i64 0))⟩])
 (.seq (.ops [⟨(some 5), none, .mv (.t 1)⟩, ⟨(some 6), none, .mv (.t 0)⟩, ⟨(some 7), none, .mv (.t 1)⟩, ⟨(some 8), none, .len false (.t 7)⟩, ⟨(some 9), none, .call 85 [(.t 6), (.t 8)]⟩, ⟨(some 10), none, .iadr 1 (.t 5) (.t 9)⟩, ⟨(some 11), none, .load none (.t 10)⟩, ⟨(some 4), none, .mv (.t 11)⟩])
 (.ret))⟩
theorem c58 : compF Go.Proofs.Tryd.prog 58 = some a58 := by kernel_rfl
def a73 : AFn := ⟨38, [.t 4], .seq (.ops [⟨(some 4), none, .mv (.c (.lit true 0 []))⟩])
 (.seq (.ops [⟨(some 5), none, .mv (.c (.lit true 0 []))⟩])
 (.seq (.seq (.ops [⟨(some 10), none, .mv (.t 1)⟩, ⟨(some 11), none, .mv (.c (.int .i64 0))⟩])
 (.block 0 (.loop (.seq (.ops [⟨(some 12), none, .bin 0 .lss (.t 11) (.t 10)⟩])
 (.seq (.cond (.t 12) (.skip) (.exit 0))
 (.seq (.block 1 (.seq (.ops [⟨(some 13), none, .mv (.t 11)⟩, ⟨(some 6), none, .mv (.t 13)⟩])
 (.seq (.ops [⟨(some 14), none, .mv (.t 0)⟩, ⟨(some 15), none, .len false (.t 14)⟩, ⟨(some 16), none, .mks 5 1 1 [(.int .u8 0)] (.t 15)⟩, ⟨(some 7), none, .mv (.t 16)⟩])
 (.seq (.seq (.ops [⟨(some 17), none, .mv (.t 0)⟩, ⟨(some 18), none, .len false (.t 17)⟩, ⟨(some 19), none, .mv (.c (.int .i64 0))⟩])
 (.block 2 (.loop (.seq (.ops [⟨(some 20), none, .bin 0 .lss (.t 19) (.t 18)⟩])
 (.seq (.cond (.t 20) (.skip) (.exit 2))
 (.seq (.block 3 (.seq (.ops [⟨(some 21), none, .mv (.t 19)⟩, ⟨(some 22), none, .iadr 1 (.t 17) (.t 19)⟩, ⟨(some 23), none, .load none (.t 22)⟩, ⟨(some 8), none, .mv (.t 21)⟩, ⟨(some 9), none, .mv (.t 23)⟩])
 (.ops [⟨(some 24), none, .mv (.t 7)⟩, ⟨(some 25), none, .mv (.t 8)⟩, ⟨(some 26), none, .mv (.t 9)⟩, ⟨(some 27), none, .mv (.t 6)⟩, ⟨(some 28), none, .idxs (.t 26) (.t 27)⟩, ⟨(some 29), none, .iadr 1 (.t 24) (.t 25)⟩, ⟨none, none, .store 1 (.t 29) (.t 28)⟩])))
 (.ops [⟨(some 30), none, .bin 0 .add (.t 19) (.c (.int .i64 1))⟩, ⟨(some 19), none, .mv (.t 30)⟩])))))))
 (.ops [⟨(some 31), none, .mv (.t 5)⟩, ⟨(some 32), none, .mv (.t 7)⟩, ⟨(some 33), none, .b2s (.t 32)⟩, ⟨(some 34), none, .bslice 9 1 1 [(.str [])] [(0, 1, (.t 33))]⟩, ⟨(some 35), none, .app 9 1 16 (.t 31) (.t 34)⟩, ⟨(some 5), none, .mv (.t 35)⟩])))))
 (.ops [⟨(some 36), none, .bin 0 .add (.t 11) (.c (.int .i64 1))⟩, ⟨(some 11), none, .mv (.t 36)⟩])))))))
 (.seq (.ops [⟨(some 37), none, .mv (.t 5)⟩, ⟨(some 4), none, .mv (.t 37)⟩])
 (.ret))))⟩
theorem c73 : compF Go.Proofs.Tryd.prog 73 = some a73 := by kernel_rfl
def a75 : AFn := ⟨38, [.t 4, .t 5], .seq (.ops [⟨(some 4), none, .mv (.c (.int .i64 0))⟩, ⟨(some 5), none, .mv (.c (.lit true 0 []))⟩])
 (.seq (.ops [⟨(some 9), none, .mmk (.i .u64) (.bool false)⟩, ⟨(some 6), none, .mv (.t 9)⟩])
 (.seq (.seq (.ops [⟨(some 10), none, .mv (.t 0)⟩, ⟨(some 11), none, .len false (.t 10)⟩, ⟨(some 12), none, .mv (.c (.int .i64 0))⟩])
 (.block 0 (.loop (.seq (.ops [⟨(some 13), none, .bin 0 .lss (.t 12) (.t 11)⟩])
 (.seq (.cond (.t 13) (.skip) (.exit 0))
 (.seq (.block 1 (.seq (.ops [⟨(some 14), none, .iadr 1 (.t 10) (.t 12)⟩, ⟨(some 15), none, .load none (.t 14)⟩, ⟨(some 8), none, .mv (.t 15)⟩])
 (.seq (.ops [⟨(some 16), none, .mv (.t 6)⟩, ⟨(some 17), none, .mv (.t 8)⟩, ⟨(some 18), none, .mv (.t 1)⟩, ⟨(some 19), none, .bin 0 .and (.t 17) (.t 18)⟩, ⟨none, none, .mup (.i .u64) (.t 16) (.t 19) (.c (.bool true))⟩])
 (.ops [⟨(some 20), none, .mv (.t 5)⟩, ⟨(some 21), none, .mv (.t 8)⟩, ⟨(some 22), none, .mv (.t 1)⟩, ⟨(some 23), none, .bin 0 .and (.t 21) (.t 22)⟩, ⟨(some 24), none, .bin 0 .neq (.t 23) (.c (.int .u64 0))⟩, ⟨(some 25), none, .mv (.t 24)⟩, ⟨(some 26), (some (25, true)), .mv (.t 8)⟩, ⟨(some 27), (some (25, true)), .mv (.t 1)⟩, ⟨(some 28), (some (25, true)), .bin 0 .and (.t 26) (.t 27)⟩, ⟨(some 29), (some (25, true)), .mv (.t 1)⟩, ⟨(some 30), (some (25, true)), .bin 0 .neq (.t 28) (.t 29)⟩, ⟨(some 31), none, .pick (.t 25) (.t 30) (.c (.bool false))⟩, ⟨(some 32), none, .bslice 4 1 1 [(.bool false)] [(0, 1, (.t 31))]⟩, ⟨(some 33), none, .app 4 1 1 (.t 20) (.t 32)⟩, ⟨(some 5), none, .mv (.t 33)⟩]))))
 (.ops [⟨(some 34), none, .bin 0 .add (.t 12) (.c (.int .i64 1))⟩, ⟨(some 12), none, .mv (.t 34)⟩])))))))
 (.seq (.ops [⟨(some 35), none, .mv (.t 6)⟩, ⟨(some 36), none, .mlen (.t 35)⟩, ⟨(some 37), none, .mv (.t 5)⟩, ⟨(some 4), none, .mv (.t 36)⟩, ⟨(some 5), none, .mv (.t 37)⟩])
 (.ret))))⟩
theorem c75 : compF Go.Proofs.Tryd.prog 75 = some a75 := by kernel_rfl
def a76 : AFn := ⟨8, [.t 2], .seq (.ops [⟨(some 2), none, .mv (.c (.int .i64 0))⟩])
 (.seq (.cond (.c (.bool false)) (.seq (.ops [⟨(some 3), none, .mv (.t 0)⟩, ⟨(some 4), none, .conv .u32 (.t 3)⟩, ⟨(some 5), none, .call 130 [(.t 4)]⟩, ⟨(some 2), none, .mv (.t 5)⟩])
 (.ret)) (.skip))
 (.seq (.ops [⟨(some 6), none, .mv (.t 0)⟩, ⟨(some 7), none, .call 131 [(.t 6)]⟩, ⟨(some 2), none, .mv (.t 7)⟩])
 (.ret)))⟩
theorem c76 : compF Go.Proofs.Tryd.prog 76 = some a76 := by kernel_rfl
def a77 : AFn := ⟨26, [.t 4], .seq (.ops [⟨(some 4), none, .mv (.c (.bool false))⟩])
 (.seq (.seq (.ops [⟨(some 6), none, .mv (.t 0)⟩, ⟨(some 7), none, .len false (.t 6)⟩, ⟨(some 8), none, .mv (.t 1)⟩, ⟨(some 9), none, .len false (.t 8)⟩, ⟨(some 10), none, .bin 0 .neq (.t 7) (.t 9)⟩])
 (.cond (.t 10) (.seq (.ops [⟨(some 4), none, .mv (.c (.bool false))⟩])
 (.ret)) (.skip)))
 (.seq (.seq (.ops [⟨(some 11), none, .mv (.t 0)⟩, ⟨(some 12), none, .len false (.t 11)⟩, ⟨(some 13), none, .mv (.c (.int .i64 0))⟩])
 (.block 0 (.loop (.seq (.ops [⟨(some 14), none, .bin 0 .lss (.t 13) (.t 12)⟩])
 (.seq (.cond (.t 14) (.skip) (.exit 0))
 (.seq (.block 1 (.seq (.ops [⟨(some 15), none, .mv (.t 13)⟩, ⟨(some 5), none, .mv (.t 15)⟩])
 (.seq (.any [(⟨(some 16), none, .mv (.t 0)⟩, []), (⟨(some 17), none, .mv (.t 5)⟩, [0]), (⟨(some 18), none, .iadr 1 (.t 16) (.t 17)⟩, []), (⟨(some 19), none, .load none (.t 18)⟩, []), (⟨(some 20), none, .mv (.t 1)⟩, [0, 1, 2, 3]), (⟨(some 21), none, .mv (.t 5)⟩, [0, 1, 2, 3, 4]), (⟨(some 22), none, .iadr 1 (.t 20) (.t 21)⟩, [0, 1, 2, 3]), (⟨(some 23), none, .load none (.t 22)⟩, [0, 1, 2, 3]), (⟨(some 24), none, .bin 2 .neq (.t 19) (.t 23)⟩, [])])
 (.cond (.t 24) (.seq (.ops [⟨(some 4), none, .mv (.c (.bool false))⟩])
 (.ret)) (.skip)))))
 (.ops [⟨(some 25), none, .bin 0 .add (.t 13) (.c (.int .i64 1))⟩, ⟨(some 13), none, .mv (.t 25)⟩])))))))
 (.seq (.ops [⟨(some 4), none, .mv (.c (.bool true))⟩])
 (.ret))))⟩
theorem c77 : compF Go.Proofs.Tryd.prog 77 = some a77 := by kernel_rfl
def a78 : AFn := ⟨5, [.t 2], .seq (.ops [⟨(some 2), none, .mv (.c (.int .i64 0))⟩])
 (.seq (.seq (.ops [⟨(some 3), none, .mv (.t 0)⟩, ⟨(some 4), none, .call 91 [(.t 3), (.c (.int .i64 1)), (.c (.int .i64 100))]⟩])
 (.cond (.t 4) (.seq (.ops [⟨(some 2), none, .mv (.c (.int .i64 1))⟩])
 (.ret)) (.skip)))
 (.seq (.ops [⟨(some 2), none, .mv (.c (.int .i64 0))⟩])
 (.ret)))⟩
theorem c78 : compF Go.Proofs.Tryd.prog 78 = some a78 := by kernel_rfl
def a79 : AFn := ⟨12, [.t 4], .seq (.ops [⟨(some 4), none, .mv (.c (.int .i64 0))⟩])
 (.seq (.block 0 (.loop (.seq (.seq (.ops [⟨(some 5), none, .mv (.t 1)⟩, ⟨(some 6), none, .mv (.t 0)⟩, ⟨(some 7), none, .callv (.t 5) [(.t 6)]⟩, ⟨(some 8), none, .un .not (.t 7)⟩])
 (.cond (.t 8) (.skip) (.exit 0)))
 (.block 1 (.ops [⟨(some 9), none, .mv (.t 0)⟩, ⟨(some 10), none, .bin 0 .add (.t 9) (.c (.int .i64 1))⟩, ⟨(some 0), none, .mv (.t 10)⟩])))))
 (.seq (.ops [⟨(some 11), none, .mv (.t 0)⟩, ⟨(some 4), none, .mv (.t 11)⟩])
 (.ret)))⟩
theorem c79 : compF Go.Proofs.Tryd.prog 79 = some a79 := by kernel_rfl
def a80 : AFn := ⟨9, [.t 3], .seq (.ops [⟨(some 3), none, .mv (.c (.bool false))⟩])
 (.seq (.any [(⟨(some 4), none, .mv (.t 0)⟩, []), (⟨(some 5), none, .bin 0 .shl (.c (.int .i64 1)) (.t 4)⟩, []), (⟨(some 6), none, .bin 0 .sub (.t 5) (.c (.int .i64 2))⟩, []), (⟨(some 7), none, .load none (.t 1)⟩, [0, 1, 2]), (⟨(some 8), none, .bin 0 .geq (.t 6) (.t 7)⟩, []), (⟨(some 3), none, .mv (.t 8)⟩, [])])
 (.ret))⟩
theorem c80 : compF Go.Proofs.Tryd.prog 80 = some a80 := by kernel_rfl
def a81 : AFn := ⟨24, [.t 4], .seq (.ops [⟨(some 4), none, .mv (.c (.str []))⟩])
 (.seq (.ops [⟨(some 5), none, .mv (.c (.lit true 0 []))⟩])
 (.seq (.seq (.ops [⟨(some 7), none, .mv (.t 1)⟩, ⟨(some 8), none, .bin 0 .sub (.t 7) (.c (.int .i64 1))⟩, ⟨(some 6), none, .mv (.t 8)⟩])
 (.block 0 (.loop (.seq (.seq (.ops [⟨(some 9), none, .mv (.t 6)⟩, ⟨(some 10), none, .bin 0 .geq (.t 9) (.c (.int .i64 0))⟩])
 (.cond (.t 10) (.skip) (.exit 0)))
 (.seq (.block 1 (.ops [⟨(some 13), none, .mv (.t 5)⟩, ⟨(some 14), none, .mv (.t 0)⟩, ⟨(some 15), none, .mv (.t 6)⟩, ⟨(some 16), none, .bin 0 .shr (.t 14) (.t 15)⟩, ⟨(some 17), none, .bin 0 .and (.t 16) (.c (.int .i64 1))⟩, ⟨(some 18), none, .bin 0 .add (.c (.int .i64 48)) (.t 17)⟩, ⟨(some 19), none, .conv .u8 (.t 18)⟩, ⟨(some 20), none, .bslice 5 1 1 [(.int .u8 0)] [(0, 1, (.t 19))]⟩, ⟨(some 21), none, .app 5 1 1 (.t 13) (.t 20)⟩, ⟨(some 5), none, .mv (.t 21)⟩]))
 (.ops [⟨(some 11), none, .mv (.t 6)⟩, ⟨(some 12), none, .bin 0 .sub (.t 11) (.c (.int .i64 1))⟩, ⟨(some 6), none, .mv (.t 12)⟩]))))))
 (.seq (.ops [⟨(some 22), none, .mv (.t 5)⟩, ⟨(some 23), none, .b2s (.t 22)⟩, ⟨(some 4), none, .mv (.t 23)⟩])
 (.ret))))⟩
theorem c81 : compF Go.Proofs.Tryd.prog 81 = some a81 := by kernel_rfl
def a82 : AFn := ⟨17, [.t 4, .t 5], .seq (.ops [⟨(some 4), none, .mv (.c (.str []))⟩, ⟨(some 5), none, .mv (.c (.int .i64 0))⟩])
 (.seq (.seq (.ops [⟨(some 6), none, .mv (.t 0)⟩, ⟨(some 7), none, .call 132 [(.t 6)]⟩, ⟨(some 8), none, .un .not (.t 7)⟩, ⟨(some 9), none, .mv (.t 8)⟩, ⟨(some 10), (some (9, false)), .mv (.t 1)⟩, ⟨(some 11), (some (9, false)), .call 132 [(.t 10)]⟩, ⟨(some 12), (some (9, false)), .un .not (.t 11)⟩, ⟨(some 13), none, .pick (.t 9) (.c (.bool true)) (.t 12)⟩])
 (.cond (.t 13) (.seq (.ops [⟨(some 4), none, .mv (.c (.str []))⟩, ⟨(some 5), none, .mv (.c (.int .i64 1))⟩])
 (.ret)) (.skip)))
 (.seq (.ops [⟨(some 14), none, .mv (.t 0)⟩, ⟨(some 15), none, .mv (.t 1)⟩, ⟨(some 16), none, .call 133 [(.t 14), (.t 15)]⟩, ⟨(some 4), none, .mv (.t 16)⟩, ⟨(some 5), none, .mv (.c (.int .i64 0))⟩])
 (.ret)))⟩
theorem c82 : compF Go.Proofs.Tryd.prog 82 = some a82 := by kernel_rfl
def a83 : AFn := ⟨27, [.c 2 (some 2), .t 3, .t 4], .seq (.ops [⟨(some 1), none, .box 107 (.t 0)⟩, ⟨(some 2), none, .alloc 61 [(.int .i64 0), (.int .i64 0)]⟩, ⟨(some 3), none, .mv (.c (.bool false))⟩, ⟨(some 4), none, .mv (.c (.int .i64 0))⟩])
 (.seq (.seq (.ops [⟨(some 8), none, .load (some 2) (.t 1)⟩, ⟨(some 9), none, .call 134 [(.t 8)]⟩, ⟨(some 5), none, .mv (.t 9)⟩])
 (.seq (.ops [⟨(some 10), none, .mv (.t 5)⟩, ⟨(some 11), none, .bin 0 .neq (.t 10) (.c (.int .i64 0))⟩])
 (.cond (.t 11) (.seq (.ops [⟨(some 12), none, .build [(.int .i64 0), (.int .i64 0)] []⟩, ⟨(some 13), none, .mv (.t 5)⟩, ⟨none, none, .store 2 (.t 2) (.t 12)⟩, ⟨(some 3), none, .mv (.c (.bool false))⟩, ⟨(some 4), none, .mv (.t 13)⟩])
 (.ret)) (.skip))))
 (.seq (.any [(⟨(some 15), none, .load (some 2) (.t 1)⟩, []), (⟨(some 16), none, .load (some 2) (.t 1)⟩, [0]), (⟨(some 17), none, .call 136 [(.t 16)]⟩, [0]), (⟨(some 18), none, .call 135 [(.t 15), (.t 17)]⟩, []), (⟨(some 14), none, .mv (.t 18)⟩, []), (⟨(some 19), none, .ext (.t 14) 0⟩, []), (⟨(some 20), none, .ext (.t 14) 1⟩, [5]), (⟨(some 6), none, .mv (.t 19)⟩, [6]), (⟨(some 7), none, .mv (.t 20)⟩, [])])
 (.seq (.seq (.ops [⟨(some 21), none, .mv (.t 7)⟩, ⟨(some 22), none, .bin 0 .eql (.t 21) (.c (.int .i64 0))⟩])
 (.cond (.t 22) (.seq (.ops [⟨(some 23), none, .build [(.int .i64 0), (.int .i64 0)] []⟩, ⟨none, none, .store 2 (.t 2) (.t 23)⟩, ⟨(some 3), none, .mv (.c (.bool false))⟩, ⟨(some 4), none, .mv (.c (.int .i64 0))⟩])
 (.ret)) (.skip)))
 (.seq (.ops [⟨(some 24), none, .mv (.t 6)⟩, ⟨(some 25), none, .mv (.t 7)⟩, ⟨(some 26), none, .call 106 [(.t 24), (.t 25)]⟩, ⟨none, none, .store 2 (.t 2) (.t 26)⟩, ⟨(some 3), none, .mv (.c (.bool true))⟩, ⟨(some 4), none, .mv (.c (.int .i64 0))⟩])
 (.ret)))))⟩
theorem c83 : compF Go.Proofs.Tryd.prog 83 = some a83 := by kernel_rfl
def a84 : AFn := ⟨16, [.t 4], .seq (.ops [⟨(some 4), none, .mv (.c (.str []))⟩])
 (.seq (.ops [⟨(some 5), none, .mv (.c (.str []))⟩])
 (.seq (.seq (.ops [⟨(some 6), none, .mv (.t 1)⟩, ⟨(some 7), none, .mv (.c (.int .i64 0))⟩])
 (.block 0 (.loop (.seq (.ops [⟨(some 8), none, .bin 0 .lss (.t 7) (.t 6)⟩])
 (.seq (.cond (.t 8) (.skip) (.exit 0))
 (.seq (.block 1 (.ops [⟨(some 9), none, .mv (.t 5)⟩, ⟨(some 10), none, .mv (.t 0)⟩, ⟨(some 11), none, .bslice 9 1 2 [(.str [])] [(0, 1, (.c (.str [48]))), (1, 1, (.c (.str [49])))]⟩, ⟨(some 12), none, .call 86 [(.t 10), (.t 11)]⟩, ⟨(some 13), none, .bin 1 .add (.t 9) (.t 12)⟩, ⟨(some 5), none, .mv (.t 13)⟩]))
 (.ops [⟨(some 14), none, .bin 0 .add (.t 7) (.c (.int .i64 1))⟩, ⟨(some 7), none, .mv (.t 14)⟩])))))))
 (.seq (.ops [⟨(some 15), none, .mv (.t 5)⟩, ⟨(some 4), none, .mv (.t 15)⟩])
 (.ret))))⟩
theorem c84 : compF Go.Proofs.Tryd.prog 84 = some a84 := by kernel_rfl
def a85 : AFn := ⟨64, [.t 4], .seq (.ops [⟨(some 4), none, .mv (.c (.int .i64 0))⟩])
 (.seq (.ops [⟨(some 7), none, .mv (.t 0)⟩, ⟨(some 8), none, .nilchk (.t 7)⟩, ⟨(some 9), none, .fadr 1 (.t 8)⟩, ⟨(some 10), none, .load none (.t 9)⟩, ⟨(some 11), none, .bin 0 .add (.t 10) (.c (.int .i64 1))⟩, ⟨(some 12), none, .nilchk (.t 7)⟩, ⟨(some 13), none, .fadr 1 (.t 12)⟩, ⟨none, none, .store 1 (.t 13) (.t 11)⟩])
 (.seq (.seq (.ops [⟨(some 14), none, .mv (.t 0)⟩, ⟨(some 15), none, .nilchk (.t 14)⟩, ⟨(some 16), none, .fadr 0 (.t 15)⟩, ⟨(some 17), none, .load none (.t 16)⟩, ⟨(some 18), none, .len false (.t 17)⟩, ⟨(some 19), none, .bin 0 .eql (.t 18) (.c (.int .i64 0))⟩])
 (.cond (.t 19) (.seq (.ops [⟨(some 20), none, .mv (.t 0)⟩, ⟨(some 21), none, .nilchk (.t 20)⟩, ⟨(some 22), none, .fadr 1 (.t 21)⟩, ⟨(some 23), none, .load none (.t 22)⟩, ⟨(some 24), none, .bin 0 .mul (.t 23) (.c (.int .i64 7919))⟩, ⟨(some 25), none, .mv (.t 1)⟩, ⟨(some 26), none, .call 137 [(.t 24), (.t 25)]⟩, ⟨(some 4), none, .mv (.t 26)⟩])
 (.ret)) (.skip)))
 (.seq (.any [(⟨(some 27), none, .mv (.t 0)⟩, []), (⟨(some 28), none, .nilchk (.t 27)⟩, []), (⟨(some 29), none, .fadr 1 (.t 28)⟩, []), (⟨(some 30), none, .load none (.t 29)⟩, []), (⟨(some 31), none, .bin 0 .sub (.t 30) (.c (.int .i64 1))⟩, []), (⟨(some 32), none, .mv (.t 0)⟩, [0, 1, 2, 3, 4]), (⟨(some 33), none, .nilchk (.t 32)⟩, [0, 1, 2, 3, 4]), (⟨(some 34), none, .fadr 0 (.t 33)⟩, [0, 1, 2, 3, 4]), (⟨(some 35), none, .load none (.t 34)⟩, [0, 1, 2, 3, 4]), (⟨(some 36), none, .len false (.t 35)⟩, [0, 1, 2, 3, 4]), (⟨(some 37), none, .bin 0 .rem (.t 31) (.t 36)⟩, []), (⟨(some 5), none, .mv (.t 37)⟩, [])])
 (.seq (.any [(⟨(some 38), none, .mv (.t 0)⟩, []), (⟨(some 39), none, .nilchk (.t 38)⟩, []), (⟨(some 40), none, .fadr 1 (.t 39)⟩, []), (⟨(some 41), none, .load none (.t 40)⟩, []), (⟨(some 42), none, .bin 0 .sub (.t 41) (.c (.int .i64 1))⟩, []), (⟨(some 43), none, .mv (.t 0)⟩, [0, 1, 2, 3, 4]), (⟨(some 44), none, .nilchk (.t 43)⟩, [0, 1, 2, 3, 4]), (⟨(some 45), none, .fadr 0 (.t 44)⟩, [0, 1, 2, 3, 4]), (⟨(some 46), none, .load none (.t 45)⟩, [0, 1, 2, 3, 4]), (⟨(some 47), none, .len false (.t 46)⟩, [0, 1, 2, 3, 4]), (⟨(some 48), none, .bin 0 .quo (.t 42) (.t 47)⟩, []), (⟨(some 6), none, .mv (.t 48)⟩, [])])
 (.seq (.ops [⟨(some 49), none, .mv (.t 0)⟩, ⟨(some 50), none, .nilchk (.t 49)⟩, ⟨(some 51), none, .fadr 0 (.t 50)⟩, ⟨(some 52), none, .load none (.t 51)⟩, ⟨(some 53), none, .mv (.t 5)⟩, ⟨(some 54), none, .iadr 1 (.t 52) (.t 53)⟩, ⟨(some 55), none, .load none (.t 54)⟩, ⟨(some 56), none, .call 137 [(.t 55), (.c (.int .i64 1073741824))]⟩, ⟨(some 57), none, .mv (.t 6)⟩, ⟨(some 58), none, .mv (.t 5)⟩, ⟨(some 59), none, .bin 0 .add (.c (.int .i64 7919)) (.t 58)⟩, ⟨(some 60), none, .bin 0 .mul (.t 57) (.t 59)⟩, ⟨(some 61), none, .bin 0 .add (.t 56) (.t 60)⟩, ⟨(some 62), none, .mv (.t 1)⟩, ⟨(some 63), none, .call 137 [(.t 61), (.t 62)]⟩, ⟨(some 4), none, .mv (.t 63)⟩])
 (.ret))))))⟩
theorem c85 : compF Go.Proofs.Tryd.prog 85 = some a85 := by kernel_rfl
def a86 : AFn := ⟨12, [.t 4], .seq (.ops [⟨(some 4), none, .mv (.c (.str []))⟩])
 (.seq (.ops [⟨(some 5), none, .mv (.t 1)⟩, ⟨(some 6), none, .mv (.t 0)⟩, ⟨(some 7), none, .mv (.t 1)⟩, ⟨(some 8), none, .len false (.t 7)⟩, ⟨(some 9), none, .call 85 [(.t 6), (.t 8)]⟩, ⟨(some 10), none, .iadr 1 (.t 5) (.t 9)⟩, ⟨(some 11), none, .load none (.t 10)⟩, ⟨(some 4), none, .mv (.t 11)⟩])
 (.ret))⟩
theorem c86 : compF Go.Proofs.Tryd.prog 86 = some a86 := by kernel_rfl
def a87 : AFn := ⟨63, [.t 6], .seq (.ops [⟨(some 6), none, .mv (.c (.str []))⟩])
 (.seq (.seq (.ops [⟨(some 9), none, .mv (.t 1)⟩, ⟨(some 10), none, .bin 1 .eql (.t 9) (.c (.str []))⟩, ⟨(some 11), none, .mv (.t 10)⟩, ⟨(some 12), (some (11, false)), .mv (.t 2)⟩, ⟨(some 13), (some (11, false)), .bin 1 .eql (.t 12) (.c (.str []))⟩, ⟨(some 14), none, .pick (.t 11) (.c (.bool true)) (.t 13)⟩])
 (.cond (.t 14) (.seq (.ops [⟨(some 15), none, .mv (.t 2)⟩, ⟨(some 6), none, .mv (.t 15)⟩])
 (.ret)) (.skip)))
 (.seq (.ops [⟨(some 16), none, .mv (.t 0)⟩, ⟨(some 17), none, .mv (.t 1)⟩, ⟨(some 18), none, .len true (.t 17)⟩, ⟨(some 19), none, .call 85 [(.t 16), (.t 18)]⟩, ⟨(some 7), none, .mv (.t 19)⟩])
 (.seq (.ops [⟨(some 20), none, .mv (.t 2)⟩, ⟨(some 21), none, .mv (.t 0)⟩, ⟨(some 22), none, .mv (.t 2)⟩, ⟨(some 23), none, .len true (.t 22)⟩, ⟨(some 24), none, .call 85 [(.t 21), (.t 23)]⟩, ⟨(some 25), none, .idxs (.t 20) (.t 24)⟩, ⟨(some 8), none, .mv (.t 25)⟩])
 (.seq (.seq (.ops [⟨(some 26), none, .mv (.t 0)⟩, ⟨(some 27), none, .call 85 [(.t 26), (.c (.int .i64 3))]⟩])
 (.block 0 (.seq (.ops [⟨(some 29), none, .bin 0 .eql (.t 27) (.c (.int .i64 0))⟩, ⟨(some 28), none, .mv (.t 29)⟩])
 (.cond (.t 28) (.seq (.any [(⟨(some 30), none, .mv (.t 1)⟩, []), (⟨(some 31), none, .mv (.t 7)⟩, [0]), (⟨(some 32), none, .sls (.t 30) none (some (.t 31))⟩, []), (⟨(some 33), none, .mv (.t 8)⟩, [0, 1, 2]), (⟨(some 34), none, .conv .i32 (.t 33)⟩, [0, 1, 2]), (⟨(some 35), none, .i2s (.t 34)⟩, [0, 1, 2]), (⟨(some 36), none, .bin 1 .add (.t 32) (.t 35)⟩, []), (⟨(some 37), none, .mv (.t 1)⟩, [0, 1, 2, 3, 4, 5, 6]), (⟨(some 38), none, .mv (.t 7)⟩, [0, 1, 2, 3, 4, 5, 6, 7]), (⟨(some 39), none, .bin 0 .add (.t 38) (.c (.int .i64 1))⟩, [0, 1, 2, 3, 4, 5, 6, 7]), (⟨(some 40), none, .sls (.t 37) (some (.t 39)) none⟩, [0, 1, 2, 3, 4, 5, 6]), (⟨(some 41), none, .bin 1 .add (.t 36) (.t 40)⟩, []), (⟨(some 6), none, .mv (.t 41)⟩, [])])
 (.ret)) (.seq (.ops [⟨(some 43), none, .bin 0 .eql (.t 27) (.c (.int .i64 1))⟩, ⟨(some 42), none, .mv (.t 43)⟩])
 (.cond (.t 42) (.seq (.any [(⟨(some 44), none, .mv (.t 1)⟩, []), (⟨(some 45), none, .mv (.t 7)⟩, [0]), (⟨(some 46), none, .sls (.t 44) none (some (.t 45))⟩, []), (⟨(some 47), none, .mv (.t 8)⟩, [0, 1, 2]), (⟨(some 48), none, .conv .i32 (.t 47)⟩, [0, 1, 2]), (⟨(some 49), none, .i2s (.t 48)⟩, [0, 1, 2]), (⟨(some 50), none, .bin 1 .add (.t 46) (.t 49)⟩, []), (⟨(some 51), none, .mv (.t 1)⟩, [0, 1, 2, 3, 4, 5, 6]), (⟨(some 52), none, .mv (.t 7)⟩, [0, 1, 2, 3, 4, 5, 6, 7]), (⟨(some 53), none, .sls (.t 51) (some (.t 52)) none⟩, [0, 1, 2, 3, 4, 5, 6]), (⟨(some 54), none, .bin 1 .add (.t 50) (.t 53)⟩, []), (⟨(some 6), none, .mv (.t 54)⟩, [])])
 (.ret)) (.skip)))))))
 (.seq (.any [(⟨(some 55), none, .mv (.t 1)⟩, []), (⟨(some 56), none, .mv (.t 7)⟩, [0]), (⟨(some 57), none, .sls (.t 55) none (some (.t 56))⟩, []), (⟨(some 58), none, .mv (.t 1)⟩, [0, 1, 2]), (⟨(some 59), none, .mv (.t 7)⟩, [0, 1, 2, 3]), (⟨(some 60), none, .bin 0 .add (.t 59) (.c (.int .i64 1))⟩, [0, 1, 2, 3]), (⟨(some 61), none, .sls (.t 58) (some (.t 60)) none⟩, [0, 1, 2]), (⟨(some 62), none, .bin 1 .add (.t 57) (.t 61)⟩, []), (⟨(some 6), none, .mv (.t 62)⟩, [])])
 (.ret))))))⟩
theorem c87 : compF Go.Proofs.Tryd.prog 87 = some a87 := by kernel_rfl
def a89 : AFn := ⟨15, [.t 6], .seq (.ops [⟨(some 6), none, .mv (.c (.bool false))⟩])
 (.seq (.ops [⟨(some 7), none, .mv (.t 1)⟩, ⟨(some 8), none, .mv (.t 0)⟩, ⟨(some 9), none, .bin 0 .leq (.t 7) (.t 8)⟩, ⟨(some 10), none, .mv (.t 9)⟩, ⟨(some 11), (some (10, true)), .mv (.t 0)⟩, ⟨(some 12), (some (10, true)), .mv (.t 2)⟩, ⟨(some 13), (some (10, true)), .bin 0 .leq (.t 11) (.t 12)⟩, ⟨(some 14), none, .pick (.t 10) (.t 13) (.c (.bool false))⟩, ⟨(some 6), none, .mv (.t 14)⟩])
 (.ret))⟩
theorem c89 : compF Go.Proofs.Tryd.prog 89 = some a89 := by kernel_rfl
def a90 : AFn := ⟨6, [.t 2], .seq (.ops [⟨(some 2), none, .mv (.c (.int .i64 0))⟩])
 (.seq (.seq (.ops [⟨(some 3), none, .mv (.t 0)⟩, ⟨(some 4), none, .call 138 [(.t 3), (.c (.str [48, 49]))]⟩, ⟨(some 5), none, .bin 1 .neq (.t 4) (.c (.str []))⟩])
 (.cond (.t 5) (.seq (.ops [⟨(some 2), none, .mv (.c (.int .i64 9))⟩])
 (.ret)) (.skip)))
 (.seq (.ops [⟨(some 2), none, .mv (.c (.int .i64 0))⟩])
 (.ret)))⟩
theorem c90 : compF Go.Proofs.Tryd.prog 90 = some a90 := by kernel_rfl
def a91 : AFn := ⟨15, [.t 6], .seq (.ops [⟨(some 6), none, .mv (.c (.bool false))⟩])
 (.seq (.ops [⟨(some 7), none, .mv (.t 0)⟩, ⟨(some 8), none, .mv (.t 1)⟩, ⟨(some 9), none, .bin 0 .lss (.t 7) (.t 8)⟩, ⟨(some 10), none, .mv (.t 9)⟩, ⟨(some 11), (some (10, false)), .mv (.t 0)⟩, ⟨(some 12), (some (10, false)), .mv (.t 2)⟩, ⟨(some 13), (some (10, false)), .bin 0 .gtr (.t 11) (.t 12)⟩, ⟨(some 14), none, .pick (.t 10) (.c (.bool true)) (.t 13)⟩, ⟨(some 6), none, .mv (.t 14)⟩])
 (.ret))⟩
theorem c91 : compF Go.Proofs.Tryd.prog 91 = some a91 := by kernel_rfl
def a92 : AFn := ⟨6, [.t 2], .seq (.ops [⟨(some 2), none, .mv (.c (.bool false))⟩])
 (.seq (.ops [⟨(some 3), none, .mv (.t 0)⟩, ⟨(some 4), none, .call 138 [(.t 3), (.c (.str [48, 49]))]⟩, ⟨(some 5), none, .bin 1 .eql (.t 4) (.c (.str []))⟩, ⟨(some 2), none, .mv (.t 5)⟩])
 (.ret))⟩
theorem c92 : compF Go.Proofs.Tryd.prog 92 = some a92 := by kernel_rfl
def a105 : AFn := ⟨29, [.t 4], .seq (.ops [⟨(some 4), none, .mv (.c (.lit true 0 []))⟩])
 (.seq (.ops [⟨(some 9), none, .mv (.t 0)⟩, ⟨(some 10), none, .call 144 [(.t 9)]⟩, ⟨(some 5), none, .mv (.t 10)⟩])
 (.seq (.ops [⟨(some 6), none, .mv (.c (.lit true 0 []))⟩])
 (.seq (.seq (.ops [⟨(some 11), none, .mv (.t 1)⟩, ⟨(some 12), none, .len false (.t 11)⟩, ⟨(some 13), none, .mv (.c (.int .i64 0))⟩])
 (.block 0 (.loop (.seq (.ops [⟨(some 14), none, .bin 0 .lss (.t 13) (.t 12)⟩])
 (.seq (.cond (.t 14) (.skip) (.exit 0))
 (.seq (.block 1 (.seq (.ops [⟨(some 15), none, .iadr 2 (.t 11) (.t 13)⟩, ⟨(some 16), none, .load (some 2) (.t 15)⟩, ⟨(some 8), none, .alloc 128 [(.int .i64 0), (.lit true 0 [])]⟩, ⟨none, none, .store 2 (.t 8) (.t 16)⟩])
 (.any [(⟨(some 17), none, .mv (.t 6)⟩, []), (⟨(some 18), none, .mv (.t 5)⟩, [0]), (⟨(some 19), none, .load (some 2) (.t 8)⟩, [0, 1]), (⟨(some 20), none, .mv (.t 0)⟩, [0, 1, 2]), (⟨(some 21), none, .iadr 1 (.t 20) (.c (.int .i64 0))⟩, [0, 1, 2]), (⟨(some 22), none, .load none (.t 21)⟩, [0, 1, 2]), (⟨(some 23), none, .len true (.t 22)⟩, [0, 1, 2]), (⟨(some 24), none, .call 145 [(.t 18), (.t 19), (.t 23)]⟩, [0]), (⟨(some 25), none, .bslice 132 1 1 [(.int .u64 0)] [(0, 1, (.t 24))]⟩, [0]), (⟨(some 26), none, .app 132 1 8 (.t 17) (.t 25)⟩, []), (⟨(some 6), none, .mv (.t 26)⟩, [])])))
 (.ops [⟨(some 27), none, .bin 0 .add (.t 13) (.c (.int .i64 1))⟩, ⟨(some 13), none, .mv (.t 27)⟩])))))))
 (.seq (.ops [⟨(some 28), none, .mv (.t 6)⟩, ⟨(some 4), none, .mv (.t 28)⟩])
 (.ret)))))⟩
def a106 : AFn := ⟨19, [.c 4 (some 2)], .seq (.ops [⟨(some 4), none, .alloc 61 [(.int .i64 0), (.int .i64 0)]⟩])
 (.seq (.ops [⟨(some 6), none, .mv (.t 0)⟩, ⟨(some 7), none, .mv (.t 0)⟩, ⟨(some 8), none, .un .neg (.t 7)⟩, ⟨(some 9), none, .mm true (.t 6) [(.t 8)]⟩, ⟨(some 10), none, .mv (.t 1)⟩, ⟨(some 11), none, .call 146 [(.t 9), (.t 10)]⟩, ⟨(some 5), none, .mv (.t 11)⟩])
 (.seq (.any [(⟨(some 12), none, .mv (.t 0)⟩, []), (⟨(some 13), none, .mv (.t 5)⟩, [0]), (⟨(some 14), none, .bin 0 .quo (.t 12) (.t 13)⟩, []), (⟨(some 15), none, .mv (.t 1)⟩, [0, 1, 2]), (⟨(some 16), none, .mv (.t 5)⟩, [0, 1, 2, 3]), (⟨(some 17), none, .bin 0 .quo (.t 15) (.t 16)⟩, [0, 1, 2]), (⟨(some 18), none, .build [(.int .i64 0), (.int .i64 0)] [(0, 1, (.t 14)), (1, 1, (.t 17))]⟩, []), (⟨none, none, .store 2 (.t 4) (.t 18)⟩, [])])
 (.ret)))⟩
theorem c106 : compF Go.Proofs.Tryd.prog 106 = some a106 := by kernel_rfl
def a116 : AFn := ⟨9, [.t 4], .seq (.ops [⟨(some 4), none, .mv (.c (.bool false))⟩])
 (.seq (.ops [⟨(some 5), none, .mv (.t 0)⟩, ⟨(some 6), none, .mv (.t 1)⟩, ⟨(some 7), none, .call 155 [(.t 5), (.t 6)]⟩, ⟨(some 8), none, .bin 0 .geq (.t 7) (.c (.int .i64 0))⟩, ⟨(some 4), none, .mv (.t 8)⟩])
 (.ret))⟩
def a118 : AFn := ⟨9, [.t 2], .seq (.ops [⟨(some 2), none, .mv (.c (.bool false))⟩])
 (.seq (.ops [⟨(some 3), none, .mv (.t 0)⟩, ⟨(some 4), none, .call 154 [(.t 3), (.c (.str [48]))]⟩, ⟨(some 5), none, .mv (.t 4)⟩, ⟨(some 6), (some (5, true)), .mv (.t 0)⟩, ⟨(some 7), (some (5, true)), .call 154 [(.t 6), (.c (.str [49]))]⟩, ⟨(some 8), none, .pick (.t 5) (.t 7) (.c (.bool false))⟩, ⟨(some 2), none, .mv (.t 8)⟩])
 (.ret))⟩
theorem c118 : compF Go.Proofs.Tryd.prog 118 = some a118 := by kernel_rfl
def a131 : AFn := ⟨35, [.t 2], .seq (.ops [⟨(some 2), none, .mv (.c (.int .i64 0))⟩])
 (.seq (.ops [⟨(some 3), none, .mv (.t 0)⟩, ⟨(some 4), none, .bin 0 .shr (.t 3) (.c (.int .u64 1))⟩, ⟨(some 5), none, .bin 0 .and (.t 4) (.c (.int .u64 6148914691236517205))⟩, ⟨(some 6), none, .mv (.t 0)⟩, ⟨(some 7), none, .bin 0 .and (.t 6) (.c (.int .u64 6148914691236517205))⟩, ⟨(some 8), none, .bin 0 .add (.t 5) (.t 7)⟩, ⟨(some 0), none, .mv (.t 8)⟩])
 (.seq (.ops [⟨(some 9), none, .mv (.t 0)⟩, ⟨(some 10), none, .bin 0 .shr (.t 9) (.c (.int .u64 2))⟩, ⟨(some 11), none, .bin 0 .and (.t 10) (.c (.int .u64 3689348814741910323))⟩, ⟨(some 12), none, .mv (.t 0)⟩, ⟨(some 13), none, .bin 0 .and (.t 12) (.c (.int .u64 3689348814741910323))⟩, ⟨(some 14), none, .bin 0 .add (.t 11) (.t 13)⟩, ⟨(some 0), none, .mv (.t 14)⟩])
 (.seq (.ops [⟨(some 15), none, .mv (.t 0)⟩, ⟨(some 16), none, .bin 0 .shr (.t 15) (.c (.int .u64 4))⟩, ⟨(some 17), none, .mv (.t 0)⟩, ⟨(some 18), none, .bin 0 .add (.t 16) (.t 17)⟩, ⟨(some 19), none, .bin 0 .and (.t 18) (.c (.int .u64 1085102592571150095))⟩, ⟨(some 0), none, .mv (.t 19)⟩])
 (.seq (.ops [⟨(some 20), none, .mv (.t 0)⟩, ⟨(some 21), none, .mv (.t 0)⟩, ⟨(some 22), none, .bin 0 .shr (.t 21) (.c (.int .u64 8))⟩, ⟨(some 23), none, .bin 0 .add (.t 20) (.t 22)⟩, ⟨(some 0), none, .mv (.t 23)⟩])
 (.seq (.ops [⟨(some 24), none, .mv (.t 0)⟩, ⟨(some 25), none, .mv (.t 0)⟩, ⟨(some 26), none, .bin 0 .shr (.t 25) (.c (.int .u64 16))⟩, ⟨(some 27), none, .bin 0 .add (.t 24) (.t 26)⟩, ⟨(some 0), none, .mv (.t 27)⟩])
 (.seq (.ops [⟨(some 28), none, .mv (.t 0)⟩, ⟨(some 29), none, .mv (.t 0)⟩, ⟨(some 30), none, .bin 0 .shr (.t 29) (.c (.int .u64 32))⟩, ⟨(some 31), none, .bin 0 .add (.t 28) (.t 30)⟩, ⟨(some 0), none, .mv (.t 31)⟩])
 (.seq (.ops [⟨(some 32), none, .mv (.t 0)⟩, ⟨(some 33), none, .conv .i64 (.t 32)⟩, ⟨(some 34), none, .bin 0 .and (.t 33) (.c (.int .i64 127))⟩, ⟨(some 2), none, .mv (.t 34)⟩])
 (.ret))))))))⟩
theorem c131 : compF Go.Proofs.Tryd.prog 131 = some a131 := by kernel_rfl
def a132 : AFn := ⟨6, [.t 2], .seq (.ops [⟨(some 2), none, .mv (.c (.bool false))⟩])
 (.seq (.ops [⟨(some 3), none, .mv (.t 0)⟩, ⟨(some 4), none, .call 91 [(.t 3), (.c (.int .i64 0)), (.c (.int .i64 15))]⟩, ⟨(some 5), none, .un .not (.t 4)⟩, ⟨(some 2), none, .mv (.t 5)⟩])
 (.ret))⟩
theorem c132 : compF Go.Proofs.Tryd.prog 132 = some a132 := by kernel_rfl
def a133 : AFn := ⟨57, [.t 4], .seq (.ops [⟨(some 4), none, .mv (.c (.str []))⟩])
 (.seq (.ops [⟨(some 12), none, .mmk (.i .i64) (.str [])⟩, ⟨(some 13), none, .mv (.t 0)⟩, ⟨none, none, .mup (.i .i64) (.t 12) (.t 13) (.c (.str []))⟩, ⟨(some 14), none, .mv (.t 12)⟩, ⟨(some 5), none, .mv (.t 14)⟩])
 (.seq (.ops [⟨(some 15), none, .mv (.t 0)⟩, ⟨(some 16), none, .bslice 3 1 1 [(.int .i64 0)] [(0, 1, (.t 15))]⟩, ⟨(some 6), none, .mv (.t 16)⟩])
 (.seq (.block 0 (.loop (.seq (.seq (.ops [⟨(some 17), none, .mv (.t 6)⟩, ⟨(some 18), none, .len false (.t 17)⟩, ⟨(some 19), none, .bin 0 .gtr (.t 18) (.c (.int .i64 0))⟩])
 (.cond (.t 19) (.skip) (.exit 0)))
 (.block 1 (.seq (.ops [⟨(some 20), none, .mv (.t 6)⟩, ⟨(some 21), none, .iadr 1 (.t 20) (.c (.int .i64 0))⟩, ⟨(some 22), none, .load none (.t 21)⟩, ⟨(some 7), none, .mv (.t 22)⟩])
 (.seq (.ops [⟨(some 23), none, .mv (.t 6)⟩, ⟨(some 24), none, .slc 1 (.t 23) (some (.c (.int .i64 1))) none⟩, ⟨(some 6), none, .mv (.t 24)⟩])
 (.seq (.ops [⟨(some 25), none, .mv (.c (.int .i64 0))⟩])
 (.block 2 (.loop (.seq (.ops [⟨(some 26), none, .bin 0 .lss (.t 25) (.c (.int .i64 2))⟩])
 (.seq (.cond (.t 26) (.skip) (.exit 2))
 (.seq (.block 3 (.seq (.ops [⟨(some 27), none, .mv (.t 25)⟩, ⟨(some 8), none, .mv (.t 27)⟩])
 (.seq (.ops [⟨(some 28), none, .mv (.t 7)⟩, ⟨(some 29), none, .mv (.t 8)⟩, ⟨(some 30), none, .call 170 [(.t 28), (.t 29)]⟩, ⟨(some 9), none, .mv (.t 30)⟩])
 (.seq (.ops [⟨(some 32), none, .mv (.t 5)⟩, ⟨(some 33), none, .mv (.t 9)⟩, ⟨(some 34), none, .mlk true (.i .i64) (.str []) (.t 32) (.t 33)⟩, ⟨(some 31), none, .mv (.t 34)⟩, ⟨(some 35), none, .ext (.t 31) 0⟩, ⟨(some 36), none, .ext (.t 31) 1⟩, ⟨(some 10), none, .mv (.t 35)⟩, ⟨(some 11), none, .mv (.t 36)⟩])
 (.seq (.ops [⟨(some 37), none, .mv (.t 11)⟩, ⟨(some 38), none, .un .not (.t 37)⟩])
 (.cond (.t 38) (.seq (.ops [⟨(some 39), none, .mv (.t 5)⟩, ⟨(some 40), none, .mv (.t 9)⟩, ⟨(some 41), none, .mv (.t 5)⟩, ⟨(some 42), none, .mv (.t 7)⟩, ⟨(some 43), none, .mlk false (.i .i64) (.str []) (.t 41) (.t 42)⟩, ⟨(some 44), none, .mv (.t 8)⟩, ⟨(some 45), none, .bin 0 .add (.c (.int .i64 48)) (.t 44)⟩, ⟨(some 46), none, .conv .i32 (.t 45)⟩, ⟨(some 47), none, .i2s (.t 46)⟩, ⟨(some 48), none, .bin 1 .add (.t 43) (.t 47)⟩, ⟨none, none, .mup (.i .i64) (.t 39) (.t 40) (.t 48)⟩])
 (.ops [⟨(some 49), none, .mv (.t 6)⟩, ⟨(some 50), none, .mv (.t 9)⟩, ⟨(some 51), none, .bslice 3 1 1 [(.int .i64 0)] [(0, 1, (.t 50))]⟩, ⟨(some 52), none, .app 3 1 8 (.t 49) (.t 51)⟩, ⟨(some 6), none, .mv (.t 52)⟩])) (.skip)))))))
 (.ops [⟨(some 53), none, .bin 0 .add (.t 25) (.c (.int .i64 1))⟩, ⟨(some 25), none, .mv (.t 53)⟩])))))))))))))
 (.seq (.ops [⟨(some 54), none, .mv (.t 5)⟩, ⟨(some 55), none, .mv (.t 1)⟩, ⟨(some 56), none, .mlk false (.i .i64) (.str []) (.t 54) (.t 55)⟩, ⟨(some 4), none, .mv (.t 56)⟩])
 (.ret)))))⟩
theorem c133 : compF Go.Proofs.Tryd.prog 133 = some a133 := by kernel_rfl
def a134 : AFn := ⟨72, [.t 2], .seq (.ops [⟨(some 1), none, .box 107 (.t 0)⟩, ⟨(some 2), none, .mv (.c (.int .i64 0))⟩])
 (.seq (.block 0 (.seq (.ops [⟨(some 7), none, .fadr 0 (.t 1)⟩, ⟨(some 8), none, .load none (.t 7)⟩, ⟨(some 9), none, .len false (.t 8)⟩, ⟨(some 10), none, .bin 0 .eql (.t 9) (.c (.int .i64 0))⟩, ⟨(some 6), none, .mv (.t 10)⟩])
 (.cond (.t 6) (.seq (.ops [⟨(some 2), none, .mv (.c (.int .i64 8))⟩])
 (.ret)) (.seq (.ops [⟨(some 12), none, .fadr 0 (.t 1)⟩, ⟨(some 13), none, .load none (.t 12)⟩, ⟨(some 14), none, .len false (.t 13)⟩, ⟨(some 15), none, .bin 0 .gtr (.t 14) (.c (.int .i64 60))⟩, ⟨(some 11), none, .mv (.t 15)⟩])
 (.cond (.t 11) (.seq (.ops [⟨(some 2), none, .mv (.c (.int .i64 2))⟩])
 (.ret)) (.skip))))))
 (.seq (.seq (.ops [⟨(some 16), none, .fadr 0 (.t 1)⟩, ⟨(some 17), none, .load none (.t 16)⟩, ⟨(some 18), none, .len false (.t 17)⟩, ⟨(some 19), none, .mv (.c (.int .i64 0))⟩])
 (.block 1 (.loop (.seq (.ops [⟨(some 20), none, .bin 0 .lss (.t 19) (.t 18)⟩])
 (.seq (.cond (.t 20) (.skip) (.exit 1))
 (.seq (.block 2 (.seq (.ops [⟨(some 21), none, .iadr 1 (.t 17) (.t 19)⟩, ⟨(some 22), none, .load none (.t 21)⟩, ⟨(some 4), none, .mv (.t 22)⟩])
 (.block 3 (.seq (.ops [⟨(some 24), none, .mv (.t 4)⟩, ⟨(some 25), none, .bin 1 .eql (.t 24) (.c (.str []))⟩, ⟨(some 23), none, .mv (.t 25)⟩])
 (.cond (.t 23) (.seq (.ops [⟨(some 2), none, .mv (.c (.int .i64 8))⟩])
 (.ret)) (.seq (.ops [⟨(some 27), none, .mv (.t 4)⟩, ⟨(some 28), none, .len true (.t 27)⟩, ⟨(some 29), none, .bin 0 .gtr (.t 28) (.c (.int .i64 60))⟩, ⟨(some 26), none, .mv (.t 29)⟩])
 (.cond (.t 26) (.seq (.ops [⟨(some 2), none, .mv (.c (.int .i64 2))⟩])
 (.ret)) (.seq (.ops [⟨(some 31), none, .mv (.t 4)⟩, ⟨(some 32), none, .len true (.t 31)⟩, ⟨(some 33), none, .fadr 0 (.t 1)⟩, ⟨(some 34), none, .load none (.t 33)⟩, ⟨(some 35), none, .iadr 1 (.t 34) (.c (.int .i64 0))⟩, ⟨(some 36), none, .load none (.t 35)⟩, ⟨(some 37), none, .len true (.t 36)⟩, ⟨(some 38), none, .bin 0 .neq (.t 32) (.t 37)⟩, ⟨(some 30), none, .mv (.t 38)⟩])
 (.cond (.t 30) (.seq (.ops [⟨(some 2), none, .mv (.c (.int .i64 3))⟩])
 (.ret)) (.seq (.ops [⟨(some 40), none, .mv (.t 4)⟩, ⟨(some 41), none, .call 171 [(.t 40)]⟩, ⟨(some 39), none, .mv (.t 41)⟩])
 (.cond (.t 39) (.seq (.ops [⟨(some 2), none, .mv (.c (.int .i64 9))⟩])
 (.ret)) (.skip))))))))))))
 (.ops [⟨(some 42), none, .bin 0 .add (.t 19) (.c (.int .i64 1))⟩, ⟨(some 19), none, .mv (.t 42)⟩])))))))
 (.seq (.seq (.ops [⟨(some 43), none, .fadr 1 (.t 1)⟩, ⟨(some 44), none, .load none (.t 43)⟩, ⟨(some 45), none, .len true (.t 44)⟩, ⟨(some 46), none, .mv (.c (.int .i64 0))⟩])
 (.block 4 (.loop (.seq (.ops [⟨(some 47), none, .bin 0 .lss (.t 46) (.t 45)⟩])
 (.seq (.cond (.t 47) (.skip) (.exit 4))
 (.seq (.block 5 (.seq (.ops [⟨(some 48), none, .mv (.t 46)⟩, ⟨(some 5), none, .mv (.t 48)⟩])
 (.block 6 (.seq (.ops [⟨(some 50), none, .fadr 1 (.t 1)⟩, ⟨(some 51), none, .load none (.t 50)⟩, ⟨(some 52), none, .mv (.t 5)⟩, ⟨(some 53), none, .idxs (.t 51) (.t 52)⟩, ⟨(some 54), none, .call 172 [(.t 53)]⟩, ⟨(some 55), none, .un .not (.t 54)⟩, ⟨(some 49), none, .mv (.t 55)⟩])
 (.cond (.t 49) (.seq (.ops [⟨(some 2), none, .mv (.c (.int .i64 9))⟩])
 (.ret)) (.seq (.any [(⟨(some 57), none, .mv (.t 5)⟩, []), (⟨(some 58), none, .bin 0 .gtr (.t 57) (.c (.int .i64 0))⟩, []), (⟨(some 59), none, .mv (.t 58)⟩, []), (⟨(some 60), (some (59, true)), .fadr 1 (.t 1)⟩, []), (⟨(some 61), (some (59, true)), .load none (.t 60)⟩, []), (⟨(some 62), (some (59, true)), .mv (.t 5)⟩, [3, 4]), (⟨(some 63), (some (59, true)), .idxs (.t 61) (.t 62)⟩, []), (⟨(some 64), (some (59, true)), .fadr 1 (.t 1)⟩, [3, 4, 5, 6]), (⟨(some 65), (some (59, true)), .load none (.t 64)⟩, [3, 4, 5, 6]), (⟨(some 66), (some (59, true)), .mv (.t 5)⟩, [3, 4, 5, 6, 7, 8]), (⟨(some 67), (some (59, true)), .bin 0 .sub (.t 66) (.c (.int .i64 1))⟩, [3, 4, 5, 6, 7, 8]), (⟨(some 68), (some (59, true)), .idxs (.t 65) (.t 67)⟩, [3, 4, 5, 6]), (⟨(some 69), (some (59, true)), .bin 0 .leq (.t 63) (.t 68)⟩, []), (⟨(some 70), none, .pick (.t 59) (.t 69) (.c (.bool false))⟩, []), (⟨(some 56), none, .mv (.t 70)⟩, [])])
 (.cond (.t 56) (.seq (.ops [⟨(some 2), none, .mv (.c (.int .i64 7))⟩])
 (.ret)) (.skip))))))))
 (.ops [⟨(some 71), none, .bin 0 .add (.t 46) (.c (.int .i64 1))⟩, ⟨(some 46), none, .mv (.t 71)⟩])))))))
 (.seq (.ops [⟨(some 2), none, .mv (.c (.int .i64 0))⟩])
 (.ret)))))⟩
theorem c134 : compF Go.Proofs.Tryd.prog 134 = some a134 := by kernel_rfl
def a135 : AFn := ⟨30, [.t 4, .t 5], .seq (.ops [⟨(some 2), none, .box 107 (.t 0)⟩, ⟨(some 4), none, .mv (.c (.int .i64 0))⟩, ⟨(some 5), none, .mv (.c (.int .i64 0))⟩])
 (.seq (.seq (.ops [⟨(some 9), none, .mv (.t 1)⟩, ⟨(some 10), none, .len false (.t 9)⟩, ⟨(some 11), none, .mv (.c (.int .i64 0))⟩])
 (.block 0 (.loop (.seq (.ops [⟨(some 12), none, .bin 0 .lss (.t 11) (.t 10)⟩])
 (.seq (.cond (.t 12) (.skip) (.exit 0))
 (.seq (.block 1 (.seq (.ops [⟨(some 13), none, .iadr 2 (.t 9) (.t 11)⟩, ⟨(some 14), none, .load (some 2) (.t 13)⟩, ⟨(some 7), none, .alloc 183 [(.int .i64 0), (.int .i64 0)]⟩, ⟨none, none, .store 2 (.t 7) (.t 14)⟩])
 (.seq (.ops [⟨(some 15), none, .load (some 2) (.t 2)⟩, ⟨(some 16), none, .load (some 2) (.t 7)⟩, ⟨(some 17), none, .call 173 [(.t 15), (.t 16)]⟩, ⟨(some 8), none, .mv (.t 17)⟩])
 (.seq (.seq (.ops [⟨(some 18), none, .mv (.t 8)⟩, ⟨(some 19), none, .call 174 [(.t 18)]⟩])
 (.cond (.t 19) (.ops [⟨(some 20), none, .mv (.t 5)⟩, ⟨(some 21), none, .bin 0 .add (.t 20) (.c (.int .i64 1))⟩, ⟨(some 5), none, .mv (.t 21)⟩]) (.skip)))
 (.seq (.ops [⟨(some 22), none, .load (some 2) (.t 2)⟩, ⟨(some 23), none, .mv (.t 8)⟩, ⟨(some 24), none, .call 175 [(.t 22), (.t 23)]⟩])
 (.cond (.t 24) (.ops [⟨(some 25), none, .mv (.t 4)⟩, ⟨(some 26), none, .bin 0 .add (.t 25) (.c (.int .i64 1))⟩, ⟨(some 4), none, .mv (.t 26)⟩]) (.skip)))))))
 (.ops [⟨(some 27), none, .bin 0 .add (.t 11) (.c (.int .i64 1))⟩, ⟨(some 11), none, .mv (.t 27)⟩])))))))
 (.seq (.ops [⟨(some 28), none, .mv (.t 4)⟩, ⟨(some 29), none, .mv (.t 5)⟩, ⟨(some 4), none, .mv (.t 28)⟩, ⟨(some 5), none, .mv (.t 29)⟩])
 (.ret)))⟩
theorem c135 : compF Go.Proofs.Tryd.prog 135 = some a135 := by kernel_rfl
def a136 : AFn := ⟨29, [.t 2], .seq (.ops [⟨(some 1), none, .box 107 (.t 0)⟩, ⟨(some 2), none, .mv (.c (.lit true 0 []))⟩])
 (.seq (.ops [⟨(some 3), none, .mv (.c (.lit true 0 []))⟩])
 (.seq (.seq (.ops [⟨(some 7), none, .fadr 0 (.t 1)⟩, ⟨(some 8), none, .load none (.t 7)⟩, ⟨(some 9), none, .len false (.t 8)⟩, ⟨(some 10), none, .mv (.c (.int .i64 0))⟩])
 (.block 0 (.loop (.seq (.ops [⟨(some 11), none, .bin 0 .lss (.t 10) (.t 9)⟩])
 (.seq (.cond (.t 11) (.skip) (.exit 0))
 (.seq (.block 1 (.seq (.ops [⟨(some 12), none, .mv (.t 10)⟩, ⟨(some 13), none, .iadr 1 (.t 8) (.t 10)⟩, ⟨(some 14), none, .load none (.t 13)⟩, ⟨(some 4), none, .mv (.t 12)⟩, ⟨(some 5), none, .mv (.t 14)⟩])
 (.seq (.ops [⟨(some 15), none, .mv (.t 5)⟩, ⟨(some 16), none, .len true (.t 15)⟩, ⟨(some 17), none, .mv (.c (.int .i64 0))⟩])
 (.block 2 (.loop (.seq (.ops [⟨(some 18), none, .bin 0 .lss (.t 17) (.t 16)⟩])
 (.seq (.cond (.t 18) (.skip) (.exit 2))
 (.seq (.block 3 (.seq (.ops [⟨(some 19), none, .mv (.t 17)⟩, ⟨(some 6), none, .mv (.t 19)⟩])
 (.ops [⟨(some 20), none, .mv (.t 3)⟩, ⟨(some 21), none, .mv (.t 6)⟩, ⟨(some 22), none, .mv (.t 4)⟩, ⟨(some 23), none, .build [(.int .i64 0), (.int .i64 0)] [(0, 1, (.t 21)), (1, 1, (.t 22))]⟩, ⟨(some 24), none, .bslice 183 2 1 [(.int .i64 0), (.int .i64 0)] [(0, 2, (.t 23))]⟩, ⟨(some 25), none, .app 183 2 16 (.t 20) (.t 24)⟩, ⟨(some 3), none, .mv (.t 25)⟩])))
 (.ops [⟨(some 26), none, .bin 0 .add (.t 17) (.c (.int .i64 1))⟩, ⟨(some 17), none, .mv (.t 26)⟩])))))))))
 (.ops [⟨(some 27), none, .bin 0 .add (.t 10) (.c (.int .i64 1))⟩, ⟨(some 10), none, .mv (.t 27)⟩])))))))
 (.seq (.ops [⟨(some 28), none, .mv (.t 3)⟩, ⟨(some 2), none, .mv (.t 28)⟩])
 (.ret))))⟩
theorem c136 : compF Go.Proofs.Tryd.prog 136 = some a136 := by kernel_rfl
def a137 : AFn := ⟨16, [.t 4], .seq (.ops [⟨(some 4), none, .mv (.c (.int .i64 0))⟩])
 (.seq (.seq (.ops [⟨(some 5), none, .mv (.t 1)⟩, ⟨(some 6), none, .bin 0 .lss (.t 5) (.c (.int .i64 1))⟩])
 (.cond (.t 6) (.seq (.ops [⟨(some 4), none, .mv (.c (.int .i64 0))⟩])
 (.ret)) (.skip)))
 (.seq (.ops [⟨(some 7), none, .mv (.t 0)⟩, ⟨(some 8), none, .mv (.t 1)⟩, ⟨(some 9), none, .bin 0 .rem (.t 7) (.t 8)⟩, ⟨(some 0), none, .mv (.t 9)⟩])
 (.seq (.seq (.ops [⟨(some 10), none, .mv (.t 0)⟩, ⟨(some 11), none, .bin 0 .lss (.t 10) (.c (.int .i64 0))⟩])
 (.cond (.t 11) (.ops [⟨(some 12), none, .mv (.t 0)⟩, ⟨(some 13), none, .mv (.t 1)⟩, ⟨(some 14), none, .bin 0 .add (.t 12) (.t 13)⟩, ⟨(some 0), none, .mv (.t 14)⟩]) (.skip)))
 (.seq (.ops [⟨(some 15), none, .mv (.t 0)⟩, ⟨(some 4), none, .mv (.t 15)⟩])
 (.ret)))))⟩
theorem c137 : compF Go.Proofs.Tryd.prog 137 = some a137 := by kernel_rfl
def a146 : AFn := ⟨12, [.t 4], .seq (.ops [⟨(some 4), none, .mv (.c (.int .i64 0))⟩])
 (.seq (.block 0 (.loop (.seq (.seq (.ops [⟨(some 5), none, .mv (.t 1)⟩, ⟨(some 6), none, .bin 0 .neq (.t 5) (.c (.int .i64 0))⟩])
 (.cond (.t 6) (.skip) (.exit 0)))
 (.block 1 (.any [(⟨(some 7), none, .mv (.t 1)⟩, []), (⟨(some 8), none, .mv (.t 0)⟩, [0]), (⟨(some 9), none, .mv (.t 1)⟩, [0, 1]), (⟨(some 10), none, .bin 0 .rem (.t 8) (.t 9)⟩, [0]), (⟨(some 0), none, .mv (.t 7)⟩, [2, 3]), (⟨(some 1), none, .mv (.t 10)⟩, [])])))))
 (.seq (.ops [⟨(some 11), none, .mv (.t 0)⟩, ⟨(some 4), none, .mv (.t 11)⟩])
 (.ret)))⟩
theorem c146 : compF Go.Proofs.Tryd.prog 146 = some a146 := by kernel_rfl
def a170 : AFn := ⟨28, [.t 4], .seq (.ops [⟨(some 4), none, .mv (.c (.int .i64 0))⟩])
 (.seq (.ops [⟨(some 6), none, .build [(.int .i64 0), (.int .i64 0)] [(0, 1, (.c (.int .i64 1))), (1, 1, (.c (.int .i64 0)))]⟩, ⟨(some 7), none, .build [(.int .i64 0), (.int .i64 0)] [(0, 1, (.c (.int .i64 1))), (1, 1, (.c (.int .i64 2)))]⟩, ⟨(some 8), none, .build [(.int .i64 0), (.int .i64 0)] [(0, 1, (.c (.int .i64 3))), (1, 1, (.c (.int .i64 9)))]⟩, ⟨(some 9), none, .build [(.int .i64 0), (.int .i64 0)] [(0, 1, (.c (.int .i64 4))), (1, 1, (.c (.int .i64 5)))]⟩, ⟨(some 10), none, .build [(.int .i64 0), (.int .i64 0)] [(0, 1, (.c (.int .i64 4))), (1, 1, (.c (.int .i64 5)))]⟩, ⟨(some 11), none, .build [(.int .i64 0), (.int .i64 0)] [(0, 1, (.c (.int .i64 6))), (1, 1, (.c (.int .i64 8)))]⟩, ⟨(some 12), none, .build [(.int .i64 0), (.int .i64 0)] [(0, 1, (.c (.int .i64 6))), (1, 1, (.c (.int .i64 7)))]⟩, ⟨(some 13), none, .build [(.int .i64 0), (.int .i64 0)] [(0, 1, (.c (.int .i64 4))), (1, 1, (.c (.int .i64 8)))]⟩, ⟨(some 14), none, .build [(.int .i64 0), (.int .i64 0)] [(0, 1, (.c (.int .i64 1))), (1, 1, (.c (.int .i64 2)))]⟩, ⟨(some 15), none, .build [(.int .i64 0), (.int .i64 0)] [(0, 1, (.c (.int .i64 10))), (1, 1, (.c (.int .i64 0)))]⟩, ⟨(some 16), none, .build [(.int .i64 0), (.int .i64 0)] [(0, 1, (.c (.int .i64 11))), (1, 1, (.c (.int .i64 12)))]⟩, ⟨(some 17), none, .build [(.int .i64 0), (.int .i64 0)] [(0, 1, (.c (.int .i64 11))), (1, 1, (.c (.int .i64 12)))]⟩, ⟨(some 18), none, .build [(.int .i64 0), (.int .i64 0)] [(0, 1, (.c (.int .i64 13))), (1, 1, (.c (.int .i64 15)))]⟩, ⟨(some 19), none, .build [(.int .i64 0), (.int .i64 0)] [(0, 1, (.c (.int .i64 13))), (1, 1, (.c (.int .i64 14)))]⟩, ⟨(some 20), none, .build [(.int .i64 0), (.int .i64 0)] [(0, 1, (.c (.int .i64 11))), (1, 1, (.c (.int .i64 15)))]⟩, ⟨(some 21), none, .build [(.int .i64 0), (.int .i64 0)] [(0, 1, (.c (.int .i64 1))), (1, 1, (.c (.int .i64 2)))]⟩, ⟨(some 22), none, .build [(.int .i64 0), (.int .i64 0), (.int .i64 0), (.int .i64 0), (.int .i64 0), (.int .i64 0), (.int .i64 0), (.int .i64 0), (.int .i64 0), (.int .i64 0), (.int .i64 0), (.int .i64 0), (.int .i64 0), (.int .i64 0), (.int .i64 0), (.int .i64 0), (.int .i64 0), (.int .i64 0), (.int .i64 0), (.int .i64 0), (.int .i64 0), (.int .i64 0), (.int .i64 0), (.int .i64 0), (.int .i64 0), (.int .i64 0), (.int .i64 0), (.int .i64 0), (.int .i64 0), (.int .i64 0), (.int .i64 0), (.int .i64 0)] [(0, 2, (.t 6)), (2, 2, (.t 7)), (4, 2, (.t 8)), (6, 2, (.t 9)), (8, 2, (.t 10)), (10, 2, (.t 11)), (12, 2, (.t 12)), (14, 2, (.t 13)), (16, 2, (.t 14)), (18, 2, (.t 15)), (20, 2, (.t 16)), (22, 2, (.t 17)), (24, 2, (.t 18)), (26, 2, (.t 19)), (28, 2, (.t 20)), (30, 2, (.t 21))]⟩, ⟨(some 5), none, .alloc 215 [(.int .i64 0), (.int .i64 0), (.int .i64 0), (.int .i64 0), (.int .i64 0), (.int .i64 0), (.int .i64 0), (.int .i64 0), (.int .i64 0), (.int .i64 0), (.int .i64 0), (.int .i64 0), (.int .i64 0), (.int .i64 0), (.int .i64 0), (.int .i64 0), (.int .i64 0), (.int .i64 0), (.int .i64 0), (.int .i64 0), (.int .i64 0), (.int .i64 0), (.int .i64 0), (.int .i64 0), (.int .i64 0), (.int .i64 0), (.int .i64 0), (.int .i64 0), (.int .i64 0), (.int .i64 0), (.int .i64 0), (.int .i64 0)]⟩, ⟨none, none, .store 32 (.t 5) (.t 22)⟩])
 (.seq (.ops [⟨(some 23), none, .mv (.t 0)⟩, ⟨(some 24), none, .mv (.t 1)⟩, ⟨(some 25), none, .aadr 16 2 (.t 5) (.t 23)⟩, ⟨(some 26), none, .aadr 2 1 (.t 25) (.t 24)⟩, ⟨(some 27), none, .load none (.t 26)⟩, ⟨(some 4), none, .mv (.t 27)⟩])
 (.ret)))⟩
theorem c170 : compF Go.Proofs.Tryd.prog 170 = some a170 := by kernel_rfl
def a171 : AFn := ⟨6, [.t 2], .seq (.ops [⟨(some 2), none, .mv (.c (.bool false))⟩])
 (.seq (.ops [⟨(some 3), none, .mv (.t 0)⟩, ⟨(some 4), none, .s2b (.t 3)⟩, ⟨(some 5), none, .call 213 [(.t 4), (.c (.fn 214 []))]⟩, ⟨(some 2), none, .mv (.t 5)⟩])
 (.ret))⟩
theorem c171 : compF Go.Proofs.Tryd.prog 171 = some a171 := by kernel_rfl
def a172 : AFn := ⟨17, [.t 2], .seq (.ops [⟨(some 2), none, .mv (.c (.bool false))⟩])
 (.seq (.ops [⟨(some 3), none, .mv (.t 0)⟩, ⟨(some 4), none, .bin 0 .geq (.t 3) (.c (.int .u8 48))⟩, ⟨(some 5), none, .mv (.t 4)⟩, ⟨(some 6), (some (5, true)), .mv (.t 0)⟩, ⟨(some 7), (some (5, true)), .bin 0 .leq (.t 6) (.c (.int .u8 57))⟩, ⟨(some 8), none, .pick (.t 5) (.t 7) (.c (.bool false))⟩, ⟨(some 9), none, .mv (.t 8)⟩, ⟨(some 10), (some (9, false)), .mv (.t 0)⟩, ⟨(some 11), (some (9, false)), .bin 0 .geq (.t 10) (.c (.int .u8 97))⟩, ⟨(some 12), (some (9, false)), .mv (.t 11)⟩, ⟨(some 13), (some (12, true)), .mv (.t 0)⟩, ⟨(some 14), (some (12, true)), .bin 0 .leq (.t 13) (.c (.int .u8 122))⟩, ⟨(some 15), (some (9, false)), .pick (.t 12) (.t 14) (.c (.bool false))⟩, ⟨(some 16), none, .pick (.t 9) (.c (.bool true)) (.t 15)⟩, ⟨(some 2), none, .mv (.t 16)⟩])
 (.ret))⟩
theorem c172 : compF Go.Proofs.Tryd.prog 172 = some a172 := by kernel_rfl
def a173 : AFn := ⟨32, [.t 4], .seq (.ops [⟨(some 2), none, .box 107 (.t 0)⟩, ⟨(some 3), none, .box 183 (.t 1)⟩, ⟨(some 4), none, .mv (.c (.int .u8 0))⟩])
 (.seq (.seq (.any [(⟨(some 5), none, .fadr 1 (.t 3)⟩, []), (⟨(some 6), none, .load none (.t 5)⟩, []), (⟨(some 7), none, .fadr 0 (.t 2)⟩, [0, 1]), (⟨(some 8), none, .load none (.t 7)⟩, [0, 1]), (⟨(some 9), none, .len false (.t 8)⟩, [0, 1]), (⟨(some 10), none, .bin 0 .sub (.t 9) (.c (.int .i64 1))⟩, [0, 1]), (⟨(some 11), none, .call 91 [(.t 6), (.c (.int .i64 0)), (.t 10)]⟩, []), (⟨(some 12), none, .mv (.t 11)⟩, []), (⟨(some 13), (some (12, false)), .fadr 0 (.t 3)⟩, []), (⟨(some 14), (some (12, false)), .load none (.t 13)⟩, []), (⟨(some 15), (some (12, false)), .fadr 0 (.t 2)⟩, [8, 9]), (⟨(some 16), (some (12, false)), .load none (.t 15)⟩, [8, 9]), (⟨(some 17), (some (12, false)), .iadr 1 (.t 16) (.c (.int .i64 0))⟩, [8, 9]), (⟨(some 18), (some (12, false)), .load none (.t 17)⟩, [8, 9]), (⟨(some 19), (some (12, false)), .len true (.t 18)⟩, [8, 9]), (⟨(some 20), (some (12, false)), .bin 0 .sub (.t 19) (.c (.int .i64 1))⟩, [8, 9]), (⟨(some 21), (some (12, false)), .call 91 [(.t 14), (.c (.int .i64 0)), (.t 20)]⟩, []), (⟨(some 22), none, .pick (.t 12) (.c (.bool true)) (.t 21)⟩, [])])
 (.cond (.t 22) (.seq (.ops [⟨(some 4), none, .mv (.c (.int .u8 46))⟩])
 (.ret)) (.skip)))
 (.seq (.any [(⟨(some 23), none, .fadr 0 (.t 2)⟩, []), (⟨(some 24), none, .load none (.t 23)⟩, []), (⟨(some 25), none, .fadr 1 (.t 3)⟩, [0, 1]), (⟨(some 26), none, .load none (.t 25)⟩, [0, 1]), (⟨(some 27), none, .iadr 1 (.t 24) (.t 26)⟩, []), (⟨(some 28), none, .load none (.t 27)⟩, []), (⟨(some 29), none, .fadr 0 (.t 3)⟩, [0, 1, 2, 3, 4, 5]), (⟨(some 30), none, .load none (.t 29)⟩, [0, 1, 2, 3, 4, 5]), (⟨(some 31), none, .idxs (.t 28) (.t 30)⟩, []), (⟨(some 4), none, .mv (.t 31)⟩, [])])
 (.ret)))⟩
theorem c173 : compF Go.Proofs.Tryd.prog 173 = some a173 := by kernel_rfl
def a174 : AFn := ⟨9, [.t 2], .seq (.ops [⟨(some 2), none, .mv (.c (.bool false))⟩])
 (.seq (.ops [⟨(some 3), none, .mv (.t 0)⟩, ⟨(some 4), none, .call 172 [(.t 3)]⟩, ⟨(some 5), none, .mv (.t 4)⟩, ⟨(some 6), (some (5, false)), .mv (.t 0)⟩, ⟨(some 7), (some (5, false)), .bin 0 .eql (.t 6) (.c (.int .u8 42))⟩, ⟨(some 8), none, .pick (.t 5) (.c (.bool true)) (.t 7)⟩, ⟨(some 2), none, .mv (.t 8)⟩])
 (.ret))⟩
theorem c174 : compF Go.Proofs.Tryd.prog 174 = some a174 := by kernel_rfl
def a175 : AFn := ⟨14, [.t 4], .seq (.ops [⟨(some 2), none, .box 107 (.t 0)⟩, ⟨(some 4), none, .mv (.c (.bool false))⟩])
 (.seq (.ops [⟨(some 5), none, .mv (.t 1)⟩, ⟨(some 6), none, .call 172 [(.t 5)]⟩, ⟨(some 7), none, .mv (.t 6)⟩, ⟨(some 8), (some (7, true)), .fadr 1 (.t 2)⟩, ⟨(some 9), (some (7, true)), .load none (.t 8)⟩, ⟨(some 10), (some (7, true)), .mv (.t 1)⟩, ⟨(some 11), (some (7, true)), .call 216 [(.t 9), (.t 10)]⟩, ⟨(some 12), (some (7, true)), .bin 0 .geq (.t 11) (.c (.int .i64 0))⟩, ⟨(some 13), none, .pick (.t 7) (.t 12) (.c (.bool false))⟩, ⟨(some 4), none, .mv (.t 13)⟩])
 (.ret))⟩
theorem c175 : compF Go.Proofs.Tryd.prog 175 = some a175 := by kernel_rfl
def a213 : AFn := ⟨9, [.t 4], .seq (.ops [⟨(some 4), none, .mv (.c (.bool false))⟩])
 (.seq (.ops [⟨(some 5), none, .mv (.t 0)⟩, ⟨(some 6), none, .mv (.t 1)⟩, ⟨(some 7), none, .call 238 [(.t 5), (.t 6)]⟩, ⟨(some 8), none, .bin 0 .geq (.t 7) (.c (.int .i64 0))⟩, ⟨(some 4), none, .mv (.t 8)⟩])
 (.ret))⟩
theorem c213 : compF Go.Proofs.Tryd.prog 213 = some a213 := by kernel_rfl
def a214 : AFn := ⟨6, [.t 2], .seq (.ops [⟨(some 2), none, .mv (.c (.bool false))⟩])
 (.seq (.ops [⟨(some 3), none, .mv (.t 0)⟩, ⟨(some 4), none, .call 215 [(.t 3)]⟩, ⟨(some 5), none, .un .not (.t 4)⟩, ⟨(some 2), none, .mv (.t 5)⟩])
 (.ret))⟩
theorem c214 : compF Go.Proofs.Tryd.prog 214 = some a214 := by kernel_rfl
def a215 : AFn := ⟨17, [.t 2], .seq (.ops [⟨(some 2), none, .mv (.c (.bool false))⟩])
 (.seq (.ops [⟨(some 3), none, .mv (.t 0)⟩, ⟨(some 4), none, .call 172 [(.t 3)]⟩, ⟨(some 5), none, .mv (.t 4)⟩, ⟨(some 6), (some (5, false)), .mv (.t 0)⟩, ⟨(some 7), (some (5, false)), .bin 0 .eql (.t 6) (.c (.int .u8 46))⟩, ⟨(some 8), none, .pick (.t 5) (.c (.bool true)) (.t 7)⟩, ⟨(some 9), none, .mv (.t 8)⟩, ⟨(some 10), (some (9, false)), .mv (.t 0)⟩, ⟨(some 11), (some (9, false)), .bin 0 .eql (.t 10) (.c (.int .u8 63))⟩, ⟨(some 12), none, .pick (.t 9) (.c (.bool true)) (.t 11)⟩, ⟨(some 13), none, .mv (.t 12)⟩, ⟨(some 14), (some (13, false)), .mv (.t 0)⟩, ⟨(some 15), (some (13, false)), .bin 0 .eql (.t 14) (.c (.int .u8 42))⟩, ⟨(some 16), none, .pick (.t 13) (.c (.bool true)) (.t 15)⟩, ⟨(some 2), none, .mv (.t 16)⟩])
 (.ret))⟩
theorem c215 : compF Go.Proofs.Tryd.prog 215 = some a215 := by kernel_rfl
def a216 : AFn := ⟨8, [.t 4], .seq (.ops [⟨(some 4), none, .mv (.c (.int .i64 0))⟩])
 (.seq (.ops [⟨(some 5), none, .mv (.t 0)⟩, ⟨(some 6), none, .mv (.t 1)⟩, ⟨(some 7), none, .call 239 [(.t 5), (.t 6)]⟩, ⟨(some 4), none, .mv (.t 7)⟩])
 (.ret))⟩
theorem c216 : compF Go.Proofs.Tryd.prog 216 = some a216 := by kernel_rfl
def a238 : AFn := ⟨19, [.t 4], .seq (.ops [⟨(some 4), none, .mv (.c (.int .i64 0))⟩])
 (.seq (.seq (.ops [⟨(some 6), none, .mv (.t 0)⟩, ⟨(some 7), none, .len false (.t 6)⟩, ⟨(some 8), none, .mv (.c (.int .i64 0))⟩])
 (.block 0 (.loop (.seq (.ops [⟨(some 9), none, .bin 0 .lss (.t 8) (.t 7)⟩])
 (.seq (.cond (.t 9) (.skip) (.exit 0))
 (.seq (.block 1 (.seq (.ops [⟨(some 10), none, .mv (.t 8)⟩, ⟨(some 5), none, .mv (.t 10)⟩])
 (.seq (.ops [⟨(some 11), none, .mv (.t 1)⟩, ⟨(some 12), none, .mv (.t 0)⟩, ⟨(some 13), none, .mv (.t 5)⟩, ⟨(some 14), none, .iadr 1 (.t 12) (.t 13)⟩, ⟨(some 15), none, .load none (.t 14)⟩, ⟨(some 16), none, .callv (.t 11) [(.t 15)]⟩])
 (.cond (.t 16) (.seq (.ops [⟨(some 17), none, .mv (.t 5)⟩, ⟨(some 4), none, .mv (.t 17)⟩])
 (.ret)) (.skip)))))
 (.ops [⟨(some 18), none, .bin 0 .add (.t 8) (.c (.int .i64 1))⟩, ⟨(some 8), none, .mv (.t 18)⟩])))))))
 (.seq (.ops [⟨(some 4), none, .mv (.c (.int .i64 (-1)))⟩])
 (.ret)))⟩
theorem c238 : compF Go.Proofs.Tryd.prog 238 = some a238 := by kernel_rfl
def a239 : AFn := ⟨8, [.t 4], .seq (.ops [⟨(some 4), none, .mv (.c (.int .i64 0))⟩])
 (.seq (.ops [⟨(some 5), none, .mv (.t 0)⟩, ⟨(some 6), none, .mv (.t 1)⟩, ⟨(some 7), none, .call 253 [(.t 5), (.t 6)]⟩, ⟨(some 4), none, .mv (.t 7)⟩])
 (.ret))⟩
theorem c239 : compF Go.Proofs.Tryd.prog 239 = some a239 := by kernel_rfl
end Go.Proofs.YthcldfmlfjomfaaDoor
namespace Go.Proofs.YthcldfmlfjomfaaDoor
open Go.RowKit
theorem below_c (x n : Int) (nid : Nat) (hn : n ≤ 9223372036854775807) : ACall Tryd.prog 137 [.int .i64 x, .int .i64 n] [] nid (.int .i64 (below x n)) [] := by
  refine acall_run c137 (by simp [a137]) ?_
  simp -dsimp only [a137, aqT, aqU, aqN, ↓seqK, ↓blkK, ↓loopK, step, stepBin, Nat.reduceBEq, Nat.reduceBeqDiff, Nat.add_assoc nid, Nat.reduceAdd, reduceCtorEq, ↓reduceIte, Nat.reduceLeDiff, Nat.reduceBneDiff, Option.toList, ← Int.ofNat_tmod, ← Int.ofNat_tdiv, Nat.reduceLT]
  refine S2.dec (fun h => ?_) (fun h => ?_)
  · simp -dsimp only [aqT, aqU, aqN, ↓seqK, ↓blkK, ↓loopK, step, stepBin, Nat.reduceBEq, Nat.reduceBeqDiff, Nat.add_assoc nid, Nat.reduceAdd, reduceCtorEq, ↓reduceIte, Nat.reduceLeDiff, Nat.reduceBneDiff, Option.toList, ← Int.ofNat_tmod, ← Int.ofNat_tdiv, Nat.reduceLT]
    refine RetOK.pure (.inl rfl) rfl ?_
    simp [retPV, PVCov, getS, below, h]
  simp -dsimp only [aqT, aqU, aqN, ↓seqK, ↓blkK, ↓loopK, step, stepBin, Nat.reduceBEq, Nat.reduceBeqDiff, Nat.add_assoc nid, Nat.reduceAdd, reduceCtorEq, ↓reduceIte, Nat.reduceLeDiff, Nat.reduceBneDiff, Option.toList, ← Int.ofNat_tmod, ← Int.ofNat_tdiv, Nat.reduceLT]
  refine ⟨by omega, S2.dec (fun h2 => ?_) (fun h2 => ?_)⟩
  · simp -dsimp only [aqT, aqU, aqN, ↓seqK, ↓blkK, ↓loopK, step, stepBin, Nat.reduceBEq, Nat.reduceBeqDiff, Nat.add_assoc nid, Nat.reduceAdd, reduceCtorEq, ↓reduceIte, Nat.reduceLeDiff, Nat.reduceBneDiff, Option.toList, ← Int.ofNat_tmod, ← Int.ofNat_tdiv, Nat.reduceLT]
    have := Int.lt_tmod_of_pos x (show 0 < n by omega)
    refine ⟨by unfold inI64; omega, RetOK.pure (.inl rfl) rfl ?_⟩
    have h3 : x.tmod n + n = x % n := by rw [Int.tmod_eq_emod]; split <;> rw [Int.tmod_eq_emod] at h2 <;> rename_i h6 <;> simp only [h6, if_true, if_false, not_false_eq_true] at h2 <;> have := Int.emod_nonneg x (show n ≠ 0 by omega) <;> omega
    simp [cvT, step, res, below, h, h3]
  · simp -dsimp only [aqT, aqU, aqN, ↓seqK, ↓blkK, ↓loopK, step, stepBin, Nat.reduceBEq, Nat.reduceBeqDiff, Nat.add_assoc nid, Nat.reduceAdd, reduceCtorEq, ↓reduceIte, Nat.reduceLeDiff, Nat.reduceBneDiff, Option.toList, ← Int.ofNat_tmod, ← Int.ofNat_tdiv, Nat.reduceLT]
    refine RetOK.pure (.inl rfl) rfl ?_
    have h3 : x.tmod n = x % n := by rw [Int.tmod_eq_emod]; split <;> rw [Int.tmod_eq_emod] at h2 <;> rename_i h6 <;> simp only [h6, if_true, if_false, not_false_eq_true] at h2 <;> have := Int.emod_lt_of_pos x (show 0 < n by omega) <;> omega
    simp [cvT, step, res, below, h, h3]
def strmC (nl : Bool) (A : List Int) (p : Nat) : Option ABlk := some (.box 25 [.lit nl A.length [.i .i64 fun i => A.getD i 0], .int .i64 p])
theorem strmC_low (n : Nat) (nl : Bool) (A : List Int) (p : Nat) : lowBlk n (strmC nl A p) = true := rfl
theorem next_c (s nid : Nat) (nl : Bool) (A : List Int) (p : Nat) (n : Int) (h : s < nid) (hp : p ≤ 1099511627775) (hA : A.length ≤ 17592186044416) (hn : n ≤ 9223372036854775807) :
    ACall Tryd.prog 85 [.ptr s 0, .int .i64 n] [(s, strmC nl A p)] nid (.int .i64 (nextV A p n)) [(s, strmC nl A (p + 1))] := by
  obtain ⟨e1, e2, e3, e4, e5, e6, e7, e8, e9⟩ := id_all h
  refine acall_run c85 (by simp [a85]) ?_
  simp -dsimp only [a85, strmC, aqT, aqU, aqN, ↓seqK, ↓blkK, ↓loopK, step, stepBin, Nat.reduceBEq, Nat.reduceBeqDiff, Nat.add_assoc nid, Nat.reduceAdd, reduceCtorEq, ↓reduceIte, Nat.reduceLeDiff, Nat.reduceBneDiff, Option.toList, ← Int.ofNat_tmod, ← Int.ofNat_tdiv, Nat.reduceLT, e1, e2, e3, e4, e5, e6, e7, e8, e9]
  refine ⟨by unfold inI64; omega, S2.intro (fun h2 => ?_) (fun h2 => ?_)⟩
  · simp -dsimp only [aqT, aqU, aqN, ↓seqK, ↓blkK, ↓loopK, step, stepBin, Nat.reduceBEq, Nat.reduceBeqDiff, Nat.add_assoc nid, Nat.reduceAdd, reduceCtorEq, ↓reduceIte, Nat.reduceLeDiff, Nat.reduceBneDiff, Option.toList, ← Int.ofNat_tmod, ← Int.ofNat_tdiv, Nat.reduceLT, e1, e2, e3, e4, e5, e6, e7, e8, e9]
    refine ⟨by unfold inI64; omega, CallO.pure (below_c _ _ _ hn) ?_⟩
    simp -dsimp only [aqT, aqU, aqN, ↓seqK, ↓blkK, ↓loopK, step, stepBin, Nat.reduceBEq, Nat.reduceBeqDiff, Nat.add_assoc nid, Nat.reduceAdd, reduceCtorEq, ↓reduceIte, Nat.reduceLeDiff, Nat.reduceBneDiff, Option.toList, ← Int.ofNat_tmod, ← Int.ofNat_tdiv, Nat.reduceLT, e1, e2, e3, e4, e5, e6, e7, e8, e9]
    have h3 : A.length = 0 := by simpa using h2
    refine RetOK.same (.inl rfl) rfl (by simp [strmC, liveIds]; omega) ?_ ?_
    · simp [cvT, step, res, strmC]
    · simp [cvT, step, res, nextV, h3]
  · simp -dsimp only [aqT, aqU, aqN, ↓seqK, ↓blkK, ↓loopK, step, stepBin, Nat.reduceBEq, Nat.reduceBeqDiff, Nat.add_assoc nid, Nat.reduceAdd, reduceCtorEq, ↓reduceIte, Nat.reduceLeDiff, Nat.reduceBneDiff, Option.toList, ← Int.ofNat_tmod, ← Int.ofNat_tdiv, Nat.reduceLT, e1, e2, e3, e4, e5, e6, e7, e8, e9]
    have h3 : 0 < A.length := by have : ¬ A.length = 0 := by simpa using h2
                                 omega
    have h4 : ∀ z : Nat, z ≤ 1099511627776 → IntKind.i64.wrap (z : Int) = z := fun z hz => IntWalk.i64_in _ (by omega)
    have h5 : p / A.length ≤ p := Nat.div_le_self _ _
    have h6 : p % A.length < A.length := Nat.mod_lt _ h3
    have h11 := h4 _ (show p / A.length ≤ 1099511627776 by omega)
    refine ⟨by unfold inI64; omega, by omega, by unfold inI64; omega, by omega, by omega, CallO.pure (below_c _ _ _ (by omega)) ?_⟩
    simp -dsimp only [aqT, aqU, aqN, ↓seqK, ↓blkK, ↓loopK, step, stepBin, Nat.reduceBEq, Nat.reduceBeqDiff, Nat.add_assoc nid, Nat.reduceAdd, reduceCtorEq, ↓reduceIte, Nat.reduceLeDiff, Nat.reduceBneDiff, Option.toList, ← Int.ofNat_tmod, ← Int.ofNat_tdiv, Nat.reduceLT, h11, e1, e2, e3, e4, e5, e6, e7, e8, e9]
    have h7 := round_bd p A.length h3 (by omega)
    have h8 := below_bd (A.getD (p % A.length) 0) (n := 1073741824) (by omega)
    rw [← Int.natCast_emod, ← Int.natCast_ediv] at h7
    generalize h9 : ((p / A.length : Nat) : Int) * (7919 + ((p % A.length : Nat) : Int)) = z at h7 ⊢
    refine ⟨by unfold inI64; omega, by unfold inI64; omega, by unfold inI64; omega, CallO.pure (below_c _ _ _ hn) ?_⟩
    simp -dsimp only [aqT, aqU, aqN, ↓seqK, ↓blkK, ↓loopK, step, stepBin, Nat.reduceBEq, Nat.reduceBeqDiff, Nat.add_assoc nid, Nat.reduceAdd, reduceCtorEq, ↓reduceIte, Nat.reduceLeDiff, Nat.reduceBneDiff, Option.toList, ← Int.ofNat_tmod, ← Int.ofNat_tdiv, Nat.reduceLT, e1, e2, e3, e4, e5, e6, e7, e8, e9]
    refine RetOK.same (.inl rfl) rfl (by simp [strmC, liveIds]; omega) ?_ ?_
    · simp [cvT, step, res, strmC]
    · have h10 : A.length ≠ 0 := by omega
      simp [cvT, step, res, nextV, h10, ← h9]
theorem range_c (s nid : Nat) (nl : Bool) (A : List Int) (p : Nat) (lo hi : Int) (h : s < nid) (hp : p ≤ 1099511627775) (hA : A.length ≤ 17592186044416) (h1 : lo ≤ hi) (hl : -1099511627776 ≤ lo) (hh : hi ≤ 1099511627776) :
    ACall Tryd.prog 37 [.ptr s 0, .int .i64 lo, .int .i64 hi] [(s, strmC nl A p)] nid (.int .i64 (rangeV A p lo hi)) [(s, strmC nl A (p + 1))] := by
  obtain ⟨e1, e2, e3, e4, e5, e6, e7, e8, e9⟩ := id_all h
  refine acall_run c37 (by simp [a37]) ?_
  simp -dsimp only [a37, aqT, aqU, aqN, ↓seqK, ↓blkK, ↓loopK, step, stepBin, Nat.reduceBEq, Nat.reduceBeqDiff, Nat.add_assoc nid, Nat.reduceAdd, reduceCtorEq, ↓reduceIte, Nat.reduceLeDiff, Nat.reduceBneDiff, Option.toList, ← Int.ofNat_tmod, ← Int.ofNat_tdiv, Nat.reduceLT, e1, e2, e3, e4, e5, e6, e7, e8, e9]
  refine S2.dec (fun h => absurd h (by omega)) (fun h => ?_)
  simp -dsimp only [aqT, aqU, aqN, ↓seqK, ↓blkK, ↓loopK, step, stepBin, Nat.reduceBEq, Nat.reduceBeqDiff, Nat.add_assoc nid, Nat.reduceAdd, reduceCtorEq, ↓reduceIte, Nat.reduceLeDiff, Nat.reduceBneDiff, Option.toList, ← Int.ofNat_tmod, ← Int.ofNat_tdiv, Nat.reduceLT, e1, e2, e3, e4, e5, e6, e7, e8, e9]
  refine ⟨by unfold inI64; omega, by unfold inI64; omega, CallO.on (next_c _ _ _ _ _ _ (by omega) hp hA (by omega)) (subH_hit _ _ _) ?_⟩
  simp -dsimp only [aqT, aqU, aqN, ↓seqK, ↓blkK, ↓loopK, step, stepBin, Nat.reduceBEq, Nat.reduceBeqDiff, Nat.add_assoc nid, Nat.reduceAdd, reduceCtorEq, ↓reduceIte, Nat.reduceLeDiff, Nat.reduceBneDiff, Option.toList, ← Int.ofNat_tmod, ← Int.ofNat_tdiv, Nat.reduceLT, e1, e2, e3, e4, e5, e6, e7, e8, e9]
  have := nextV_bd A p (n := hi - lo + 1) (by omega)
  refine ⟨by unfold inI64; omega, RetOK.same (.inl rfl) rfl (by simp [strmC, liveIds]; omega) ?_ ?_⟩
  · simp [cvT, step, res, strmC]
  · simp [cvT, step, res, rangeV]
theorem flip_c (s nid : Nat) (nl : Bool) (A : List Int) (p : Nat) (n : Int) (h : s < nid) (hp : p ≤ 1099511627775) (hA : A.length ≤ 17592186044416) (hn : n ≤ 9223372036854775807) :
    ACall Tryd.prog 43 [.ptr s 0, .int .i64 n] [(s, strmC nl A p)] nid (.bool (flipV A p n)) [(s, strmC nl A (p + 1))] := by
  obtain ⟨e1, e2, e3, e4, e5, e6, e7, e8, e9⟩ := id_all h
  refine acall_run c43 (by simp [a43]) ?_
  simp -dsimp only [a43, aqT, aqU, aqN, ↓seqK, ↓blkK, ↓loopK, step, stepBin, Nat.reduceBEq, Nat.reduceBeqDiff, Nat.add_assoc nid, Nat.reduceAdd, reduceCtorEq, ↓reduceIte, Nat.reduceLeDiff, Nat.reduceBneDiff, Option.toList, ← Int.ofNat_tmod, ← Int.ofNat_tdiv, Nat.reduceLT, e1, e2, e3, e4, e5, e6, e7, e8, e9]
  refine CallO.on (next_c _ _ _ _ _ _ (by omega) hp hA hn) (subH_hit _ _ _) ?_
  simp -dsimp only [aqT, aqU, aqN, ↓seqK, ↓blkK, ↓loopK, step, stepBin, Nat.reduceBEq, Nat.reduceBeqDiff, Nat.add_assoc nid, Nat.reduceAdd, reduceCtorEq, ↓reduceIte, Nat.reduceLeDiff, Nat.reduceBneDiff, Option.toList, ← Int.ofNat_tmod, ← Int.ofNat_tdiv, Nat.reduceLT, e1, e2, e3, e4, e5, e6, e7, e8, e9]
  refine RetOK.same (.inl rfl) rfl (by simp [strmC, liveIds]; omega) ?_ ?_
  · simp [cvT, step, res, strmC]
  · simp [cvT, step, res, flipV]
theorem pick_c (s nid : Nat) (nl nl' : Bool) (A : List Int) (p : Nat) (n : Nat) (g : Nat → Int) (h : s < nid) (hp : p ≤ 1099511627775) (hA : A.length ≤ 17592186044416) (h1 : 0 < n) (hn : n ≤ 1099511627776) :
    ACall Tryd.prog 58 [.ptr s 0, .lit nl' n [.i .i64 g]] [(s, strmC nl A p)] nid (.int .i64 (g (pickI A p n))) [(s, strmC nl A (p + 1))] := by
  obtain ⟨e1, e2, e3, e4, e5, e6, e7, e8, e9⟩ := id_all h
  refine acall_run c58 (by simp [a58]) ?_
  simp -dsimp only [a58, aqT, aqU, aqN, ↓seqK, ↓blkK, ↓loopK, step, stepBin, Nat.reduceBEq, Nat.reduceBeqDiff, Nat.add_assoc nid, Nat.reduceAdd, reduceCtorEq, ↓reduceIte, Nat.reduceLeDiff, Nat.reduceBneDiff, Option.toList, ← Int.ofNat_tmod, ← Int.ofNat_tdiv, Nat.reduceLT, e1, e2, e3, e4, e5, e6, e7, e8, e9]
  refine CallO.on (next_c _ _ _ _ _ _ (by omega) hp hA (by omega)) (subH_hit _ _ _) ?_
  simp -dsimp only [aqT, aqU, aqN, ↓seqK, ↓blkK, ↓loopK, step, stepBin, Nat.reduceBEq, Nat.reduceBeqDiff, Nat.add_assoc nid, Nat.reduceAdd, reduceCtorEq, ↓reduceIte, Nat.reduceLeDiff, Nat.reduceBneDiff, Option.toList, ← Int.ofNat_tmod, ← Int.ofNat_tdiv, Nat.reduceLT, e1, e2, e3, e4, e5, e6, e7, e8, e9]
  have := nextV_bd A p (n := (n : Int)) (by omega)
  refine ⟨this, RetOK.same (.inl rfl) rfl (by simp [strmC, liveIds]; omega) ?_ ?_⟩
  · simp [cvT, step, res, strmC]
  · simp [cvT, step, res, pickI]
theorem CallX.pick_go {s id nid : Nat} {nl : Bool} {A : List Int} {p : Nat} {n T : Nat} {g : Nat → Int} {H : Heap} {K : PV → Heap → List Nat → Prop} (hs : getH H s = strmC nl A p) (hid : getH H id = some (.arr T n [.i .i64 g])) (hne : (s == id) = false) (h : s < nid) (hp : p ≤ 1099511627775) (hA : A.length ≤ 17592186044416) (h1 : 0 < n) (hn : n ≤ 1099511627776)
    (hK : K (.int .i64 (g (pickI A p n))) [(s, strmC nl A (p + 1)), (id, none)] [s, id]) : CallX Tryd.prog 58 [.ptr s 0, .sl id 0 n] H nid K := by
  refine CallX.given [id] (u := [(s, strmC nl A (p + 1))]) (fun nl' => ?_) (subH_get hs) (by simp [getH, hne]) hK
  have e : lends H [id] nl' [.ptr s 0, .sl id 0 n] = [.ptr s 0, .lit (nl' id) n [.i .i64 g]] := by simp [lends, lend, hid, noOs]
  rw [e]
  exact pick_c s _ nl _ A p n _ h hp hA h1 hn
theorem CallO.pick_go {s id nid : Nat} {nl : Bool} {A : List Int} {p : Nat} {n T : Nat} {g : Nat → Int} {H : Heap} {K : PV → Heap → Prop} (hs : getH H s = strmC nl A p) (hid : getH H id = some (.arr T n [.i .i64 g])) (hne : (s == id) = false) (h : s < nid) (hp : p ≤ 1099511627775) (hA : A.length ≤ 17592186044416) (h1 : 0 < n) (hn : n ≤ 1099511627776)
    (hK : K (.int .i64 (g (pickI A p n))) [(s, strmC nl A (p + 1)), (id, none)]) : CallOK Tryd.prog 58 [.ptr s 0, .sl id 0 n] H nid K :=
  CallO.x (CallX.pick_go hs hid hne h hp hA h1 hn hK)
end Go.Proofs.YthcldfmlfjomfaaDoor
namespace Go.Proofs.YthcldfmlfjomfaaDoor
open Go.RowKit
def arrI (l : List Int) : Option ABlk := some (.arr 3 l.length [.i .i64 fun i => l.getD i 0])
def litI (nl : Bool) (l : List Int) : PV := .lit nl l.length [.i .i64 fun i => l.getD i 0]
theorem out_c (x lo hi : Int) (nid : Nat) : ACall Tryd.prog 91 [.int .i64 x, .int .i64 lo, .int .i64 hi] [] nid (.bool (outB x lo hi)) [] := by
  refine acall_run c91 (by simp [a91]) ?_
  simp -dsimp only [a91, aqT, aqU, aqN, ↓seqK, ↓blkK, ↓loopK, step, stepBin, Nat.reduceBEq, Nat.reduceBeqDiff, Nat.add_assoc nid, Nat.reduceAdd, reduceCtorEq, ↓reduceIte, Nat.reduceLeDiff, Nat.reduceBneDiff, Option.toList, ← Int.ofNat_tmod, ← Int.ofNat_tdiv, Nat.reduceLT]
  refine S2.dec (fun h => ?_) (fun h => ?_) <;> simp -dsimp only [aqT, aqU, aqN, ↓seqK, ↓blkK, ↓loopK, step, stepBin, Nat.reduceBEq, Nat.reduceBeqDiff, Nat.add_assoc nid, Nat.reduceAdd, reduceCtorEq, ↓reduceIte, Nat.reduceLeDiff, Nat.reduceBneDiff, Option.toList, ← Int.ofNat_tmod, ← Int.ofNat_tdiv, Nat.reduceLT] <;> refine RetOK.pure (.inl rfl) rfl ?_ <;> simp [cvT, step, res, outB] <;> omega
theorem in_c (x lo hi : Int) (nid : Nat) : ACall Tryd.prog 89 [.int .i64 x, .int .i64 lo, .int .i64 hi] [] nid (.bool (!outB x lo hi)) [] := by
  refine acall_run c89 (by simp [a89]) ?_
  simp -dsimp only [a89, aqT, aqU, aqN, ↓seqK, ↓blkK, ↓loopK, step, stepBin, Nat.reduceBEq, Nat.reduceBeqDiff, Nat.add_assoc nid, Nat.reduceAdd, reduceCtorEq, ↓reduceIte, Nat.reduceLeDiff, Nat.reduceBneDiff, Option.toList, ← Int.ofNat_tmod, ← Int.ofNat_tdiv, Nat.reduceLT]
  refine S2.dec (fun h => ?_) (fun h => ?_) <;> simp -dsimp only [aqT, aqU, aqN, ↓seqK, ↓blkK, ↓loopK, step, stepBin, Nat.reduceBEq, Nat.reduceBeqDiff, Nat.add_assoc nid, Nat.reduceAdd, reduceCtorEq, ↓reduceIte, Nat.reduceLeDiff, Nat.reduceBneDiff, Option.toList, ← Int.ofNat_tmod, ← Int.ofNat_tdiv, Nat.reduceLT] <;> refine RetOK.pure (.inl rfl) rfl ?_ <;> simp [cvT, step, res, outB] <;> first | omega | (rw [Bool.eq_iff_iff]; simp; omega)
theorem take_eqS {l m : List Int} {k : Nat} (hl : k < l.length) (hm : k < m.length) (h : l.take k = m.take k) (hx : l.getD k 0 = m.getD k 0) : l.take (k + 1) = m.take (k + 1) := by
  rw [take_snoc (x := l.getD k 0) (by rw [List.getD_eq_getElem?_getD, List.getElem?_eq_getElem hl]; rfl), take_snoc (x := m.getD k 0) (by rw [List.getD_eq_getElem?_getD, List.getElem?_eq_getElem hm]; rfl), h, hx]
theorem equalI_c (nl nl' : Bool) (l m : List Int) (nid : Nat) (hl : l.length ≤ 1000000000000) (hm : m.length ≤ 1000000000000) : ACall Tryd.prog 47 [litI nl l, litI nl' m] [] nid (.bool (l == m)) [] := by
  refine acall_run c47 (by simp [a47]) ?_
  unfold litI
  simp -dsimp only [a47, aqT, aqU, aqN, ↓seqK, ↓blkK, ↓loopK, step, stepBin, Nat.reduceBEq, Nat.reduceBeqDiff, Nat.add_assoc nid, Nat.reduceAdd, reduceCtorEq, ↓reduceIte, Nat.reduceLeDiff, Nat.reduceBneDiff, Option.toList, ← Int.ofNat_tmod, ← Int.ofNat_tdiv, Nat.reduceLT]
  refine S2.intro (fun h => ?_) (fun h => ?_) <;> simp -dsimp only [aqT, aqU, aqN, ↓seqK, ↓blkK, ↓loopK, step, stepBin, Nat.reduceBEq, Nat.reduceBeqDiff, Nat.add_assoc nid, Nat.reduceAdd, reduceCtorEq, ↓reduceIte, Nat.reduceLeDiff, Nat.reduceBneDiff, Option.toList, ← Int.ofNat_tmod, ← Int.ofNat_tdiv, Nat.reduceLT]
  · refine RetOK.pure (.inl rfl) rfl ?_
    have h1 : l ≠ m := fun e => by subst e; simp at h
    have h2 : (l == m) = false := by simpa using h1
    simp [cvT, step, res, h1]
  have hlm : l.length = m.length := by have : (l.length : Int) = m.length := by simpa using h
                                       omega
  refine LP.mkP (fun k : Nat => k ≤ l.length ∧ l.take k = m.take k) (fun k : Nat => ⟨[(13, .int .i64 k), (12, .int .i64 l.length), (0, litI nl l), (1, litI nl' m)], [], nid + 36, nid⟩) (fun k => l.length + 1 - k) 0 ⟨by omega, rfl⟩ (Cov.go [] [] ?_) (fun k hk => ?_)
  · simp [cvT, step, res, litI]
  unfold litI
  obtain ⟨hk, ht⟩ := hk
  simp -dsimp only [aqT, aqU, aqN, ↓seqK, ↓blkK, ↓loopK, step, stepBin, Nat.reduceBEq, Nat.reduceBeqDiff, Nat.add_assoc nid, Nat.reduceAdd, reduceCtorEq, ↓reduceIte, Nat.reduceLeDiff, Nat.reduceBneDiff, Option.toList, ← Int.ofNat_tmod, ← Int.ofNat_tdiv, Nat.reduceLT]
  refine S2.dec (fun h3 => ?_) (fun h3 => ?_) <;> simp -dsimp only [aqT, aqU, aqN, ↓seqK, ↓blkK, ↓loopK, step, stepBin, Nat.reduceBEq, Nat.reduceBeqDiff, Nat.add_assoc nid, Nat.reduceAdd, reduceCtorEq, ↓reduceIte, Nat.reduceLeDiff, Nat.reduceBneDiff, Option.toList, ← Int.ofNat_tmod, ← Int.ofNat_tdiv, Nat.reduceLT]
  · refine ⟨by omega, by omega, S2.intro (fun h4 => ?_) (fun h4 => ?_)⟩ <;> simp -dsimp only [aqT, aqU, aqN, ↓seqK, ↓blkK, ↓loopK, step, stepBin, Nat.reduceBEq, Nat.reduceBeqDiff, Nat.add_assoc nid, Nat.reduceAdd, reduceCtorEq, ↓reduceIte, Nat.reduceLeDiff, Nat.reduceBneDiff, Option.toList, ← Int.ofNat_tmod, ← Int.ofNat_tdiv, Nat.reduceLT]
    · refine RetOK.pure (.inl rfl) rfl ?_
      have h1 : l ≠ m := fun e => by subst e; simp at h4
      simp [cvT, step, res, h1]
    · have h5 : l.getD k 0 = m.getD k 0 := by simpa using h4
      refine ⟨by unfold inI64; omega, k + 1, ⟨⟨by omega, take_eqS (by omega) (by omega) ht h5⟩, by omega⟩, Cov.go [] [] ?_⟩
      simp [cvT, step, res, litI]
  · have hkl : k = l.length := by omega
    have h1 : l = m := by rw [hkl] at ht; rw [List.take_length, hlm, List.take_length] at ht; exact ht
    refine RetOK.pure (.inl rfl) rfl ?_
    simp [cvT, step, res, h1]
theorem cloneI_c (nl : Bool) (l : List Int) (nid : Nat) (hl : l.length ≤ 1000000000) (hnl : nl = true → l = []) : ACall Tryd.prog 56 [litI nl l] [] nid (.sl nid 0 l.length) [(nid, arrI l)] := by
  refine acall_run c56 (by simp [a56]) ?_
  unfold litI
  simp -dsimp only [a56, aqT, aqU, aqN, ↓seqK, ↓blkK, ↓loopK, step, stepBin, Nat.reduceBEq, Nat.reduceBeqDiff, Nat.add_assoc nid, Nat.reduceAdd, reduceCtorEq, ↓reduceIte, Nat.reduceLeDiff, Nat.reduceBneDiff, Option.toList, ← Int.ofNat_tmod, ← Int.ofNat_tdiv, Nat.reduceLT]
  refine S2.intro (fun h => ?_) (fun h => ?_) <;> simp -dsimp only [aqT, aqU, aqN, ↓seqK, ↓blkK, ↓loopK, step, stepBin, Nat.reduceBEq, Nat.reduceBeqDiff, Nat.add_assoc nid, Nat.reduceAdd, reduceCtorEq, ↓reduceIte, Nat.reduceLeDiff, Nat.reduceBneDiff, Option.toList, ← Int.ofNat_tmod, ← Int.ofNat_tdiv, Nat.reduceLT]
  · refine RetOK.go [] [(nid, 1)] (.inl rfl) ?_
    have := hnl h
    subst this
    simp [a56, cvT, step, res, arrI]
  · refine ⟨⟨by omega, by omega⟩, RetOK.go [(nid, nid + 20)] [] (.inl rfl) ?_⟩
    simp [a56, cvT, step, res, arrI]
end Go.Proofs.YthcldfmlfjomfaaDoor
namespace Go.Proofs.YthcldfmlfjomfaaDoor
open Go.RowKit
theorem bits_c (s : List UInt8) (nid : Nat) (hs : s.length ≤ 1099511627776) : ACall Tryd.prog 92 [.str s] [] nid (.bool (bitsOk s)) [] := by
  refine acall_run c92 (by simp [a92]) ?_
  simp -dsimp only [aqT, aqU, aqN, ↓seqK, ↓blkK, ↓loopK, step, stepBin, Nat.reduceBEq, Nat.reduceBeqDiff, Nat.add_assoc nid, Nat.reduceAdd, reduceCtorEq, ↓reduceIte, Nat.reduceLeDiff, Nat.reduceBneDiff, Option.toList, ← Int.ofNat_tmod, ← Int.ofNat_tdiv, Nat.reduceLT, a92]
  refine CallO.pure (trim_cc s [48, 49] _ (by omega) (by decide) (by decide)) ?_
  simp -dsimp only [aqT, aqU, aqN, ↓seqK, ↓blkK, ↓loopK, step, stepBin, Nat.reduceBEq, Nat.reduceBeqDiff, Nat.add_assoc nid, Nat.reduceAdd, reduceCtorEq, ↓reduceIte, Nat.reduceLeDiff, Nat.reduceBneDiff, Option.toList, ← Int.ofNat_tmod, ← Int.ofNat_tdiv, Nat.reduceLT]
  rw [trim_bits]
  refine RetOK.pure (.inl rfl) rfl ?_
  simp [cvT, step, res]
theorem bitsFaultR_c (s : List UInt8) (nid : Nat) (hs : s.length ≤ 1099511627776) : ACall Tryd.prog 90 [.str s] [] nid (.int .i64 (if bitsOk s = true then 0 else 9)) [] := by
  refine acall_run c90 (by simp [a90]) ?_
  simp -dsimp only [aqT, aqU, aqN, ↓seqK, ↓blkK, ↓loopK, step, stepBin, Nat.reduceBEq, Nat.reduceBeqDiff, Nat.add_assoc nid, Nat.reduceAdd, reduceCtorEq, ↓reduceIte, Nat.reduceLeDiff, Nat.reduceBneDiff, Option.toList, ← Int.ofNat_tmod, ← Int.ofNat_tdiv, Nat.reduceLT, a90]
  refine CallO.pure (trim_cc s [48, 49] _ (by omega) (by decide) (by decide)) ?_
  simp -dsimp only [aqT, aqU, aqN, ↓seqK, ↓blkK, ↓loopK, step, stepBin, Nat.reduceBEq, Nat.reduceBeqDiff, Nat.add_assoc nid, Nat.reduceAdd, reduceCtorEq, ↓reduceIte, Nat.reduceLeDiff, Nat.reduceBneDiff, Option.toList, ← Int.ofNat_tmod, ← Int.ofNat_tdiv, Nat.reduceLT]
  rw [trim_bits]
  cases h : bitsOk s <;> simp -dsimp only [aqT, aqU, aqN, ↓seqK, ↓blkK, ↓loopK, step, stepBin, Nat.reduceBEq, Nat.reduceBeqDiff, Nat.add_assoc nid, Nat.reduceAdd, reduceCtorEq, ↓reduceIte, Nat.reduceLeDiff, Nat.reduceBneDiff, Option.toList, ← Int.ofNat_tmod, ← Int.ofNat_tdiv, Nat.reduceLT]
  · refine RetOK.pure (.inl rfl) rfl ?_
    simp [cvT, step, res]
  · refine RetOK.pure (.inl rfl) rfl ?_
    simp [cvT, step, res]
end Go.Proofs.YthcldfmlfjomfaaDoor
namespace Go.Proofs.YthcldfmlfjomfaaDoor
open Go.RowKit
theorem oddI_c (s nid : Nat) (nl : Bool) (A : List Int) (p : Nat) (lo hi : Int) (h : s < nid) (hp : p ≤ 1099511627000) (hA : A.length ≤ 17592186044416) (h1 : lo ≤ hi) (hl : -1000000 ≤ lo) (hh : hi ≤ 1000000) :
    ∃ x : Int, (-1099511627776 ≤ x ∧ x ≤ 1099511627776) ∧ ACall Tryd.prog 57 [.ptr s 0, .int .i64 lo, .int .i64 hi] [(s, strmC nl A p)] nid (.int .i64 x) [(s, strmC nl A (p + 2))] := by
  obtain ⟨e1, e2, e3, e4, e5, e6, e7, e8, e9⟩ := id_all h
  refine acall_ex c57 (by simp [a57]) ?_
  simp -dsimp only [aqT0, ROp0, aqT, aqU, aqN, aqS, ↓seqK, ↓blkK, ↓loopK, step, stepBin, Nat.add_assoc nid, ↓reduceIte, Option.toList, ← Int.ofNat_tmod, ← Int.ofNat_tdiv, simprocAttr, BEq.rfl, LN_succ, e1, e2, e3, e4, e5, e6, e7, e8, e9, a57, strmC_low]
  refine CallX.on (flip_c s _ nl A p _ (by omega) (by omega) hA (by omega)) (subH_get (by simp only [aqT, aqU, aqN, ↓seqK, ↓blkK, ↓loopK, step, stepBin, Nat.reduceBEq, Nat.reduceBeqDiff, Nat.add_assoc nid, Nat.reduceAdd, reduceCtorEq, ↓reduceIte, Nat.reduceLeDiff, Nat.reduceBneDiff, Option.toList, ← Int.ofNat_tmod, ← Int.ofNat_tdiv, Nat.reduceLT, e1, e2, e3, e4, e5, e6, e7, e8, e9])) ?_
  simp -dsimp only [aqT0, ROp0, aqT, aqU, aqN, aqS, ↓seqK, ↓blkK, ↓loopK, step, stepBin, Nat.add_assoc nid, ↓reduceIte, Option.toList, ← Int.ofNat_tmod, ← Int.ofNat_tdiv, simprocAttr, BEq.rfl, LN_succ, e1, e2, e3, e4, e5, e6, e7, e8, e9, strmC_low]
  refine S2.intro (fun h2 => ?_) (fun h2 => ?_) <;> simp -dsimp only [aqT0, ROp0, aqT, aqU, aqN, aqS, ↓seqK, ↓blkK, ↓loopK, step, stepBin, Nat.add_assoc nid, ↓reduceIte, Option.toList, ← Int.ofNat_tmod, ← Int.ofNat_tdiv, simprocAttr, BEq.rfl, LN_succ, e1, e2, e3, e4, e5, e6, e7, e8, e9, strmC_low]
  · refine ⟨by unfold inI64; omega, by unfold inI64; omega, CallX.pick_go (T := 3) (nl := nl) (A := A) (p := p + 1) (g := fun i => [lo - 1, hi + 1, lo, hi, -1099511627776, 1099511627776].getD i 0) (by simp only [aqT, aqU, aqN, ↓seqK, ↓blkK, ↓loopK, step, stepBin, Nat.reduceBEq, Nat.reduceBeqDiff, Nat.add_assoc nid, Nat.reduceAdd, reduceCtorEq, ↓reduceIte, Nat.reduceLeDiff, Nat.reduceBneDiff, Option.toList, ← Int.ofNat_tmod, ← Int.ofNat_tdiv, Nat.reduceLT, e1, e2, e3, e4, e5, e6, e7, e8, e9]) (by simp only [aqT, aqU, aqN, ↓seqK, ↓blkK, ↓loopK, step, stepBin, Nat.reduceBEq, Nat.reduceBeqDiff, Nat.add_assoc nid, Nat.reduceAdd, reduceCtorEq, ↓reduceIte, Nat.reduceLeDiff, Nat.reduceBneDiff, Option.toList, ← Int.ofNat_tmod, ← Int.ofNat_tdiv, Nat.reduceLT, e1, e2, e3, e4, e5, e6, e7, e8, e9]) (by simp only [aqT, aqU, aqN, ↓seqK, ↓blkK, ↓loopK, step, stepBin, Nat.reduceBEq, Nat.reduceBeqDiff, Nat.add_assoc nid, Nat.reduceAdd, reduceCtorEq, ↓reduceIte, Nat.reduceLeDiff, Nat.reduceBneDiff, Option.toList, ← Int.ofNat_tmod, ← Int.ofNat_tdiv, Nat.reduceLT, e1, e2, e3, e4, e5, e6, e7, e8, e9]) (by omega) (by omega) hA (by omega) (by omega) ?_⟩
    simp -dsimp only [aqT0, ROp0, aqT, aqU, aqN, aqS, ↓seqK, ↓blkK, ↓loopK, step, stepBin, Nat.add_assoc nid, ↓reduceIte, Option.toList, ← Int.ofNat_tmod, ← Int.ofNat_tdiv, simprocAttr, BEq.rfl, LN_succ, e1, e2, e3, e4, e5, e6, e7, e8, e9, strmC_low]
    have hb := pickV_bd A (p + 1) (l := [lo - 1, hi + 1, lo, hi, -1099511627776, 1099511627776]) (lo := -1099511627776) (hi := 1099511627776) (by simp) (by simp; omega)
    refine EndOK.mk _ hb ?_
    refine RetOK.go [] [] (.inl rfl) ?_
    simp [a57, cvT, step, res, e1, e2, e3, e4, e5, e6, e7, e8, e9, strmC, pickV]
    omega
  · refine CallX.on (range_c s _ nl A (p + 1) _ _ (by omega) (by omega) hA h1 (by omega) (by omega)) (subH_get (by simp only [aqT, aqU, aqN, ↓seqK, ↓blkK, ↓loopK, step, stepBin, Nat.reduceBEq, Nat.reduceBeqDiff, Nat.add_assoc nid, Nat.reduceAdd, reduceCtorEq, ↓reduceIte, Nat.reduceLeDiff, Nat.reduceBneDiff, Option.toList, ← Int.ofNat_tmod, ← Int.ofNat_tdiv, Nat.reduceLT, e1, e2, e3, e4, e5, e6, e7, e8, e9])) ?_
    simp -dsimp only [aqT0, ROp0, aqT, aqU, aqN, aqS, ↓seqK, ↓blkK, ↓loopK, step, stepBin, Nat.add_assoc nid, ↓reduceIte, Option.toList, ← Int.ofNat_tmod, ← Int.ofNat_tdiv, simprocAttr, BEq.rfl, LN_succ, e1, e2, e3, e4, e5, e6, e7, e8, e9, strmC_low]
    have hb := rangeV_bd A (p + 1) h1
    refine EndOK.mk (rangeV A (p + 1) lo hi) (by omega) ?_
    refine RetOK.go [] [] (.inl rfl) ?_
    simp [a57, cvT, step, res, e1, e2, e3, e4, e5, e6, e7, e8, e9, strmC]
    omega
theorem some_c (s nid : Nat) (nl nl' : Bool) (A : List Int) (p : Nat) (n : Nat) (g : Nat → List UInt8) (h : s < nid) (hp : p ≤ 1099511627775) (hA : A.length ≤ 17592186044416) (h1 : 0 < n) (hn : n ≤ 1099511627776) :
    ACall Tryd.prog 86 [.ptr s 0, .lit nl' n [.s g]] [(s, strmC nl A p)] nid (.str (g (pickI A p n))) [(s, strmC nl A (p + 1))] := by
  obtain ⟨e1, e2, e3, e4, e5, e6, e7, e8, e9⟩ := id_all h
  refine acall_run c86 (by simp [a86]) ?_
  simp -dsimp only [aqT, aqU, aqN, ↓seqK, ↓blkK, ↓loopK, step, stepBin, Nat.reduceBEq, Nat.reduceBeqDiff, Nat.add_assoc nid, Nat.reduceAdd, reduceCtorEq, ↓reduceIte, Nat.reduceLeDiff, Nat.reduceBneDiff, Option.toList, ← Int.ofNat_tmod, ← Int.ofNat_tdiv, Nat.reduceLT, e1, e2, e3, e4, e5, e6, e7, e8, e9, a86]
  refine CallO.on (next_c _ _ _ _ _ _ (by omega) hp hA (by omega)) (subH_hit _ _ _) ?_
  simp -dsimp only [aqT, aqU, aqN, ↓seqK, ↓blkK, ↓loopK, step, stepBin, Nat.reduceBEq, Nat.reduceBeqDiff, Nat.add_assoc nid, Nat.reduceAdd, reduceCtorEq, ↓reduceIte, Nat.reduceLeDiff, Nat.reduceBneDiff, Option.toList, ← Int.ofNat_tmod, ← Int.ofNat_tdiv, Nat.reduceLT, e1, e2, e3, e4, e5, e6, e7, e8, e9]
  have := nextV_bd A p (n := (n : Int)) (by omega)
  refine ⟨this, RetOK.same (.inl rfl) rfl (by simp [strmC, liveIds]; omega) ?_ ?_⟩
  · simp [cvT, step, res, strmC]
  · simp [cvT, step, res, pickI]
theorem CallX.some_go {s id nid : Nat} {nl : Bool} {A : List Int} {p : Nat} {n T : Nat} {g : Nat → List UInt8} {H : Heap} {K : PV → Heap → List Nat → Prop} (hs : getH H s = strmC nl A p) (hid : getH H id = some (.arr T n [.s g])) (hne : (s == id) = false) (h : s < nid) (hp : p ≤ 1099511627775) (hA : A.length ≤ 17592186044416) (h1 : 0 < n) (hn : n ≤ 1099511627776)
    (hK : K (.str (g (pickI A p n))) [(s, strmC nl A (p + 1)), (id, none)] [s, id]) : CallX Tryd.prog 86 [.ptr s 0, .sl id 0 n] H nid K := by
  refine CallX.given [id] (u := [(s, strmC nl A (p + 1))]) (fun nl' => ?_) (subH_get hs) (by simp [getH, hne]) hK
  have e : lends H [id] nl' [.ptr s 0, .sl id 0 n] = [.ptr s 0, .lit (nl' id) n [.s g]] := by simp [lends, lend, hid, noOs]
  rw [e]
  exact some_c s _ nl _ A p n _ h hp hA h1 hn
theorem CallO.some_go {s id nid : Nat} {nl : Bool} {A : List Int} {p : Nat} {n T : Nat} {g : Nat → List UInt8} {H : Heap} {K : PV → Heap → Prop} (hs : getH H s = strmC nl A p) (hid : getH H id = some (.arr T n [.s g])) (hne : (s == id) = false) (h : s < nid) (hp : p ≤ 1099511627775) (hA : A.length ≤ 17592186044416) (h1 : 0 < n) (hn : n ≤ 1099511627776)
    (hK : K (.str (g (pickI A p n))) [(s, strmC nl A (p + 1)), (id, none)]) : CallOK Tryd.prog 86 [.ptr s 0, .sl id 0 n] H nid K :=
  CallO.x (CallX.some_go hs hid hne h hp hA h1 hn hK)
theorem getD_all {α : Type} {P : α → Prop} {l : List α} {d : α} (h : ∀ x ∈ l, P x) {i : Nat} (hi : i < l.length) : P (l.getD i d) := by
  rw [List.getD_eq_getElem?_getD, List.getElem?_eq_getElem hi]
  exact h _ (List.getElem_mem _)
def bit01 (b : UInt8) : Bool := b == 48 || b == 49
theorem bitsX (s nid : Nat) (nl : Bool) (A : List Int) (p n : Nat) (h : s < nid) (hn : n ≤ 1000000) (hp : p ≤ 1099510000000) (hA : A.length ≤ 17592186044416) :
    ∃ t : List UInt8, (t.length = n ∧ t.all bit01 = true) ∧ ACall Tryd.prog 84 [.ptr s 0, .int .i64 n] [(s, strmC nl A p)] nid (.str t) [(s, strmC nl A (p + n))] := by
  obtain ⟨e1, e2, e3, e4, e5, e6, e7, e8, e9⟩ := id_all h
  refine acall_ex c84 (by simp [a84]) ?_
  simp -dsimp only [aqT0, ROp0, aqT, aqU, aqN, aqS, ↓seqK, ↓blkK, ↓loopK, step, stepBin, Nat.add_assoc nid, ↓reduceIte, Option.toList, ← Int.ofNat_tmod, ← Int.ofNat_tdiv, simprocAttr, BEq.rfl, LN_succ, e1, e2, e3, e4, e5, e6, e7, e8, e9, a84, strmC_low]
  refine LP0.mkP (fun x : List UInt8 => x.length ≤ n ∧ x.all bit01 = true) (fun x => ⟨[(7, .int .i64 x.length), (6, .int .i64 n), (5, .str x), (0, .ptr s 0)], [(s, strmC nl A (p + x.length))], nid + 100, nid⟩) (fun x => n - x.length) [] (by simp) (Cov.go [] [] ?_) (fun x hx => ?_)
  · simp [cvT, step, res, e1, e2, e3, e4, e5, e6, e7, e8, e9, strmC]
  obtain ⟨hx1, hx2⟩ := hx
  simp -dsimp only [aqT0, ROp0, aqT, aqU, aqN, aqS, ↓seqK, ↓blkK, ↓loopK, step, stepBin, Nat.add_assoc nid, ↓reduceIte, Option.toList, ← Int.ofNat_tmod, ← Int.ofNat_tdiv, simprocAttr, BEq.rfl, LN_succ, e1, e2, e3, e4, e5, e6, e7, e8, e9, strmC_low]
  refine S2.dec (fun h2 => ?_) (fun h2 => ?_) <;> simp -dsimp only [aqT0, ROp0, aqT, aqU, aqN, aqS, ↓seqK, ↓blkK, ↓loopK, step, stepBin, Nat.add_assoc nid, ↓reduceIte, Option.toList, ← Int.ofNat_tmod, ← Int.ofNat_tdiv, simprocAttr, BEq.rfl, LN_succ, e1, e2, e3, e4, e5, e6, e7, e8, e9, strmC_low]
  · refine CallX.some_go (T := 9) (nl := nl) (A := A) (p := p + x.length) (g := fun i => [[48], [49]].getD i []) (by simp only [aqT, aqU, aqN, ↓seqK, ↓blkK, ↓loopK, step, stepBin, Nat.reduceBEq, Nat.reduceBeqDiff, Nat.add_assoc nid, Nat.reduceAdd, reduceCtorEq, ↓reduceIte, Nat.reduceLeDiff, Nat.reduceBneDiff, Option.toList, ← Int.ofNat_tmod, ← Int.ofNat_tdiv, Nat.reduceLT, e1, e2, e3, e4, e5, e6, e7, e8, e9]) (by simp only [aqT, aqU, aqN, ↓seqK, ↓blkK, ↓loopK, step, stepBin, Nat.reduceBEq, Nat.reduceBeqDiff, Nat.add_assoc nid, Nat.reduceAdd, reduceCtorEq, ↓reduceIte, Nat.reduceLeDiff, Nat.reduceBneDiff, Option.toList, ← Int.ofNat_tmod, ← Int.ofNat_tdiv, Nat.reduceLT, e1, e2, e3, e4, e5, e6, e7, e8, e9]) (by simp only [aqT, aqU, aqN, ↓seqK, ↓blkK, ↓loopK, step, stepBin, Nat.reduceBEq, Nat.reduceBeqDiff, Nat.add_assoc nid, Nat.reduceAdd, reduceCtorEq, ↓reduceIte, Nat.reduceLeDiff, Nat.reduceBneDiff, Option.toList, ← Int.ofNat_tmod, ← Int.ofNat_tdiv, Nat.reduceLT, e1, e2, e3, e4, e5, e6, e7, e8, e9]) (by omega) (by omega) hA (by omega) (by omega) ?_
    simp -dsimp only [aqT0, ROp0, aqT, aqU, aqN, aqS, ↓seqK, ↓blkK, ↓loopK, step, stepBin, Nat.add_assoc nid, ↓reduceIte, Option.toList, ← Int.ofNat_tmod, ← Int.ofNat_tdiv, simprocAttr, BEq.rfl, LN_succ, e1, e2, e3, e4, e5, e6, e7, e8, e9, strmC_low]
    have hb : ([[48], [49]].getD (pickI A (p + x.length) 2) [] : List UInt8) = [48] ∨ ([[48], [49]].getD (pickI A (p + x.length) 2) [] : List UInt8) = [49] := by
      have := pickI_lt A (p + x.length) (n := 2) (by omega)
      rcases (by omega : pickI A (p + x.length) 2 = 0 ∨ pickI A (p + x.length) 2 = 1) with e | e <;> rw [e] <;> simp
    generalize ([[48], [49]].getD (pickI A (p + x.length) 2) [] : List UInt8) = b at hb ⊢
    have hbl : b.length = 1 ∧ b.all bit01 = true := by rcases hb with rfl | rfl <;> exact ⟨rfl, rfl⟩
    refine ⟨by omega, by unfold inI64; omega, x ++ b, ⟨⟨by rw [List.length_append]; omega, by rw [List.all_append, hx2, hbl.2]; rfl⟩, by rw [List.length_append]; omega⟩, Cov.go [] [] ?_⟩
    have e : (x ++ b).length = x.length + 1 := by rw [List.length_append, hbl.1]
    have e2 : ((x ++ b).length : Int) = (x.length : Int) + 1 := by omega
    simp [cvT, step, res, e1, e2, e3, e4, e5, e6, e7, e8, e9, strmC, e, e2, -List.length_append]
    omega
  · have e : x.length = n := by omega
    refine EndOK.mk x ⟨e, hx2⟩ ?_
    refine RetOK.go [] [] (.inl rfl) ?_
    simp [a84, cvT, step, res, e1, e2, e3, e4, e5, e6, e7, e8, e9, strmC, e]
theorem enc_all : ((List.range 256).all fun n => decide ((Utf8.encode (IntKind.i32.wrap (n : Int))).data.toList.length ≤ 2)) = true := by kernel_rfl
theorem enc_len (b : UInt8) : (Utf8.encode (IntKind.i32.wrap ((b.toNat : Nat) : Int))).data.toList.length ≤ 2 := by
  have := List.all_eq_true.1 enc_all b.toNat (List.mem_range.2 (UInt8.toNat_lt b))
  simpa using this
theorem changedX (s nid : Nat) (nl : Bool) (A : List Int) (p : Nat) (t w : List UInt8) (h : s < nid) (ht : t.length ≤ 1000000000) (hw : w.length ≤ 1000) (hp : p ≤ 1099511627000) (hA : A.length ≤ 17592186044416) :
    ∃ x : List UInt8 × Nat, (x.1.length ≤ t.length + w.length + 2 ∧ x.2 ≤ p + 3) ∧ ACall Tryd.prog 87 [.ptr s 0, .str t, .str w] [(s, strmC nl A p)] nid (.str x.1) [(s, strmC nl A x.2)] := by
  obtain ⟨e1, e2, e3, e4, e5, e6, e7, e8, e9⟩ := id_all h
  refine acall_ex c87 (by simp [a87]) ?_
  simp -dsimp only [aqT0, ROp0, aqT, aqU, aqN, aqS, ↓seqK, ↓blkK, ↓loopK, step, stepBin, Nat.add_assoc nid, ↓reduceIte, Option.toList, ← Int.ofNat_tmod, ← Int.ofNat_tdiv, simprocAttr, BEq.rfl, LN_succ, e1, e2, e3, e4, e5, e6, e7, e8, e9, a87, strmC_low]
  have fin : ∀ st : ST, getS st.slots 6 = .str w → st.heap = [(s, strmC nl A p)] → EndOK (fun x : List UInt8 × Nat => x.1.length ≤ t.length + w.length + 2 ∧ x.2 ≤ p + 3) (a87).res [(s, strmC nl A p)] nid (fun x => .str x.1) (fun x => [(s, strmC nl A x.2)]) .ret st := fun st hs hh => by
    refine EndOK.mk (w, p) ⟨by show w.length ≤ _; omega, by show p ≤ _; omega⟩ ?_
    refine RetOK.go [] [] (.inl rfl) ?_
    rw [hh]
    simp [a87, cvT, step, res, e1, e2, e3, e4, e5, e6, e7, e8, e9, strmC, hs]
  refine S2.intro (fun h1 => ?_) (fun h1 => ?_) <;> simp -dsimp only [aqT0, ROp0, aqT, aqU, aqN, aqS, ↓seqK, ↓blkK, ↓loopK, step, stepBin, Nat.add_assoc nid, ↓reduceIte, Option.toList, ← Int.ofNat_tmod, ← Int.ofNat_tdiv, simprocAttr, BEq.rfl, LN_succ, e1, e2, e3, e4, e5, e6, e7, e8, e9, strmC_low]
  · exact fin _ rfl rfl
  refine S2.intro (fun h2 => ?_) (fun h2 => ?_) <;> simp -dsimp only [aqT0, ROp0, aqT, aqU, aqN, aqS, ↓seqK, ↓blkK, ↓loopK, step, stepBin, Nat.add_assoc nid, ↓reduceIte, Option.toList, ← Int.ofNat_tmod, ← Int.ofNat_tdiv, simprocAttr, BEq.rfl, LN_succ, e1, e2, e3, e4, e5, e6, e7, e8, e9, strmC_low]
  · exact fin _ rfl rfl
  clear fin
  have ht0 : 0 < t.length := by
    cases t with
    | nil => simp at h1
    | cons b t => simp
  have hw0 : 0 < w.length := by
    cases w with
    | nil => simp at h2
    | cons b w => simp
  refine CallX.on (next_c s _ nl A p _ (by omega) (by omega) hA (by omega)) (subH_get (by simp only [aqT, aqU, aqN, ↓seqK, ↓blkK, ↓loopK, step, stepBin, Nat.reduceBEq, Nat.reduceBeqDiff, Nat.add_assoc nid, Nat.reduceAdd, reduceCtorEq, ↓reduceIte, Nat.reduceLeDiff, Nat.reduceBneDiff, Option.toList, ← Int.ofNat_tmod, ← Int.ofNat_tdiv, Nat.reduceLT, e1, e2, e3, e4, e5, e6, e7, e8, e9])) ?_
  simp -dsimp only [aqT0, ROp0, aqT, aqU, aqN, aqS, ↓seqK, ↓blkK, ↓loopK, step, stepBin, Nat.add_assoc nid, ↓reduceIte, Option.toList, ← Int.ofNat_tmod, ← Int.ofNat_tdiv, simprocAttr, BEq.rfl, LN_succ, e1, e2, e3, e4, e5, e6, e7, e8, e9, strmC_low]
  have hb := nextV_bd A p (n := (t.length : Int)) (by omega)
  obtain ⟨I, hI⟩ : ∃ I : Nat, nextV A p (t.length : Int) = I := ⟨_, (Int.toNat_of_nonneg hb.1).symm⟩
  rw [hI] at hb ⊢
  refine CallX.on (next_c s _ nl A (p + 1) _ (by omega) (by omega) hA (by omega)) (subH_get (by simp only [aqT, aqU, aqN, ↓seqK, ↓blkK, ↓loopK, step, stepBin, Nat.reduceBEq, Nat.reduceBeqDiff, Nat.add_assoc nid, Nat.reduceAdd, reduceCtorEq, ↓reduceIte, Nat.reduceLeDiff, Nat.reduceBneDiff, Option.toList, ← Int.ofNat_tmod, ← Int.ofNat_tdiv, Nat.reduceLT, e1, e2, e3, e4, e5, e6, e7, e8, e9])) ?_
  simp -dsimp only [aqT0, ROp0, aqT, aqU, aqN, aqS, ↓seqK, ↓blkK, ↓loopK, step, stepBin, Nat.add_assoc nid, ↓reduceIte, Option.toList, ← Int.ofNat_tmod, ← Int.ofNat_tdiv, simprocAttr, BEq.rfl, LN_succ, e1, e2, e3, e4, e5, e6, e7, e8, e9, strmC_low]
  have hb2 := nextV_bd A (p + 1) (n := (w.length : Int)) (by omega)
  obtain ⟨J, hJ⟩ : ∃ J : Nat, nextV A (p + 1) (w.length : Int) = J := ⟨_, (Int.toNat_of_nonneg hb2.1).symm⟩
  rw [hJ] at hb2 ⊢
  refine ⟨by omega, ?_⟩
  refine CallX.on (next_c s _ nl A (p + 1 + 1) _ (by omega) (by omega) hA (by omega)) (subH_get (by simp only [aqT, aqU, aqN, ↓seqK, ↓blkK, ↓loopK, step, stepBin, Nat.reduceBEq, Nat.reduceBeqDiff, Nat.add_assoc nid, Nat.reduceAdd, reduceCtorEq, ↓reduceIte, Nat.reduceLeDiff, Nat.reduceBneDiff, Option.toList, ← Int.ofNat_tmod, ← Int.ofNat_tdiv, Nat.reduceLT, e1, e2, e3, e4, e5, e6, e7, e8, e9])) ?_
  simp -dsimp only [aqT0, ROp0, aqT, aqU, aqN, aqS, ↓seqK, ↓blkK, ↓loopK, step, stepBin, Nat.add_assoc nid, ↓reduceIte, Option.toList, ← Int.ofNat_tmod, ← Int.ofNat_tdiv, simprocAttr, BEq.rfl, LN_succ, e1, e2, e3, e4, e5, e6, e7, e8, e9, strmC_low]
  have henc := enc_len (w.getD J 0)
  have fin : ∀ (x : List UInt8) (st : ST), x.length ≤ t.length + w.length + 2 → getS st.slots 6 = .str x → st.heap = [(s, strmC nl A (p + 1 + 1 + 1)), (s, strmC nl A (p + 1 + 1)), (s, strmC nl A (p + 1)), (s, strmC nl A p)] → EndOK (fun x : List UInt8 × Nat => x.1.length ≤ t.length + w.length + 2 ∧ x.2 ≤ p + 3) (a87).res [(s, strmC nl A p)] nid (fun x => .str x.1) (fun x => [(s, strmC nl A x.2)]) .ret st := fun x st hx hs hh => by
    refine EndOK.mk (x, p + 3) ⟨hx, Nat.le_refl _⟩ ?_
    refine RetOK.go [] [] (.inl rfl) ?_
    rw [hh]
    simp [a87, cvT, step, res, e1, e2, e3, e4, e5, e6, e7, e8, e9, strmC, hs]
    omega
  refine S2.intro (fun h3 => ?_) (fun h3 => ?_) <;> simp -dsimp only [aqT0, ROp0, aqT, aqU, aqN, aqS, ↓seqK, ↓blkK, ↓loopK, step, stepBin, Nat.add_assoc nid, ↓reduceIte, Option.toList, ← Int.ofNat_tmod, ← Int.ofNat_tdiv, simprocAttr, BEq.rfl, LN_succ, e1, e2, e3, e4, e5, e6, e7, e8, e9, strmC_low]
  · refine ⟨⟨by omega, by omega⟩, by simp only [List.length_take]; omega, by unfold inI64; omega, ⟨by omega, by omega⟩, by simp only [List.length_append, List.length_take, List.length_drop]; omega, ?_⟩
    exact fin _ _ (by simp only [List.length_append, List.length_take, List.length_drop]; omega) rfl rfl
  refine S2.intro (fun h4 => ?_) (fun h4 => ?_) <;> simp -dsimp only [aqT0, ROp0, aqT, aqU, aqN, aqS, ↓seqK, ↓blkK, ↓loopK, step, stepBin, Nat.add_assoc nid, ↓reduceIte, Option.toList, ← Int.ofNat_tmod, ← Int.ofNat_tdiv, simprocAttr, BEq.rfl, LN_succ, e1, e2, e3, e4, e5, e6, e7, e8, e9, strmC_low]
  · refine ⟨⟨by omega, by omega⟩, by simp only [List.length_take]; omega, ⟨by omega, by omega⟩, by simp only [List.length_append, List.length_take, List.length_drop]; omega, ?_⟩
    exact fin _ _ (by simp only [List.length_append, List.length_take, List.length_drop]; omega) rfl rfl
  · refine ⟨⟨by omega, by omega⟩, by unfold inI64; omega, ⟨by omega, by omega⟩, by simp only [List.length_take, List.length_drop]; omega, ?_⟩
    exact fin _ _ (by simp only [List.length_append, List.length_take, List.length_drop]; omega) rfl rfl
end Go.Proofs.YthcldfmlfjomfaaDoor
namespace Go.Proofs.YthcldfmlfjomfaaDoor
open Go.RowKit
def arrS (l : List (List UInt8)) : Option ABlk := some (.arr 9 l.length [.s fun i => l.getD i []])
theorem getD_app1 (l : List (List UInt8)) (x : List UInt8) {n : Nat} (hn : l.length = n) : (fun i => if i < n then l.getD i [] else [x].getD (i - n) []) = fun i => (l ++ [x]).getD i [] := by
  subst hn
  funext i
  simp only [List.getD_eq_getElem?_getD, List.getElem?_append]
  split <;> rfl
theorem getD_setS (l : List (List UInt8)) (x : List UInt8) {I : Nat} (hI : I < l.length) : (fun j => if j = I then x else l.getD j []) = fun j => (l.set I x).getD j [] := by
  funext j
  simp only [List.getD_eq_getElem?_getD, List.getElem?_set]
  by_cases h : j = I
  · subst h; simp [hI]
  · rw [if_neg h, if_neg (fun e => h e.symm)]
def ShortRows (m : Nat) (l : List (List UInt8)) : Prop := ∀ r ∈ l, r.length ≤ m
theorem ShortRows.at {m : Nat} {l : List (List UInt8)} (h : ShortRows m l) (i : Nat) : (l.getD i []).length ≤ m := by
  rw [List.getD_eq_getElem?_getD]
  cases hg : l[i]? with
  | none => simp
  | some x => exact h x (List.mem_of_getElem? hg)
theorem ShortRows.set {m : Nat} {l : List (List UInt8)} (h : ShortRows m l) (i : Nat) {x : List UInt8} (hx : x.length ≤ m) : ShortRows m (l.set i x) := fun r hr => by
  rcases List.mem_or_eq_of_mem_set hr with h1 | h1
  · exact h r h1
  · rw [h1]; exact hx
theorem ShortRows.snoc {m : Nat} {l : List (List UInt8)} (h : ShortRows m l) {x : List UInt8} (hx : x.length ≤ m) : ShortRows m (l ++ [x]) := fun r hr => by
  rcases List.mem_append.1 hr with h1 | h1
  · exact h r h1
  · rw [List.mem_singleton.1 h1]; exact hx
theorem ShortRows.mono {m n : Nat} {l : List (List UInt8)} (h : ShortRows m l) (hn : m ≤ n) : ShortRows n l := fun r hr => Nat.le_trans (h r hr) hn
def litS (nl : Bool) (l : List (List UInt8)) : PV := .lit nl l.length [.s fun i => l.getD i []]
end Go.Proofs.YthcldfmlfjomfaaDoor
namespace Go.Proofs.YthcldfmlfjomfaaDoor
open Go.RowKit
theorem len_ne {a b : Int} (h : (a != b) = true) : a ≠ b := by simpa using h
set_option maxHeartbeats 4000000 in
theorem checkVectors_all (nl : Bool) (n : Int) (v : List (List UInt8)) (nid : Nat) (hv : v.length ≤ 1000000000) (hr : ShortRows 1000000000 v) : ACall Tryd.prog 26 [.int .i64 n, litS nl v] [] nid (.int .i64 (patV n v)) [] := by
  refine acall_run c26 (by simp [a26]) ?_
  unfold litS
  simp -dsimp only [aqT, aqU, aqN, ↓seqK, ↓blkK, ↓loopK, step, stepBin, Nat.reduceBEq, Nat.reduceBeqDiff, Nat.add_assoc nid, Nat.reduceAdd, reduceCtorEq, ↓reduceIte, Nat.reduceLeDiff, Nat.reduceBneDiff, Option.toList, ← Int.ofNat_tmod, ← Int.ofNat_tdiv, Nat.reduceLT, a26]
  refine CallO.pure (out_c _ _ _ _) ?_
  cases h0 : outB n 1 100 <;> simp -dsimp only [aqT, aqU, aqN, aqS, ↓seqK, ↓blkK, ↓loopK, step, stepBin, Nat.add_assoc nid, ↓reduceIte, Option.toList, ← Int.ofNat_tmod, ← Int.ofNat_tdiv, simprocAttr, BEq.rfl, LN_succ]
  case true =>
    have e : patV n v = 1 := by unfold patV; rw [if_pos h0]
    rw [e]
    refine RetOK.pure (.inl rfl) rfl ?_
    simp [cvT, step, res]
  refine S2.dec (fun h1 => ?_) (fun h1 => ?_) <;> simp -dsimp only [aqT, aqU, aqN, aqS, ↓seqK, ↓blkK, ↓loopK, step, stepBin, Nat.add_assoc nid, ↓reduceIte, Option.toList, ← Int.ofNat_tmod, ← Int.ofNat_tdiv, simprocAttr, BEq.rfl, LN_succ]
  · have e : patV n v = 2 := by unfold patV; rw [if_neg (by simp [h0]), if_pos (by omega)]
    rw [e]
    refine RetOK.pure (.inl rfl) rfl ?_
    simp [cvT, step, res]
  have eV : patV n v = firstBad (patRow n) v := by unfold patV; rw [if_neg (by simp [h0]), if_neg (by omega)]
  rw [eV]
  refine LP.mkP (fun k : Nat => k ≤ v.length ∧ firstBad (patRow n) (v.take k) = 0) (fun k : Nat => ⟨[(16, .int .i64 k), (15, .int .i64 v.length), (14, .lit nl v.length [.s fun i => v.getD i []]), (0, .int .i64 n)], [], nid + 100, nid⟩) (fun k => v.length + 1 - k) 0 ⟨by omega, rfl⟩ (Cov.go [] [] ?_) (fun k hk => ?_)
  · simp [cvT, step, res]
  obtain ⟨hk, hb⟩ := hk
  simp -dsimp only [aqT, aqU, aqN, aqS, ↓seqK, ↓blkK, ↓loopK, step, stepBin, Nat.add_assoc nid, ↓reduceIte, Option.toList, ← Int.ofNat_tmod, ← Int.ofNat_tdiv, simprocAttr, BEq.rfl, LN_succ]
  refine S2.dec (fun h2 => ?_) (fun h2 => ?_) <;> simp -dsimp only [aqT, aqU, aqN, aqS, ↓seqK, ↓blkK, ↓loopK, step, stepBin, Nat.add_assoc nid, ↓reduceIte, Option.toList, ← Int.ofNat_tmod, ← Int.ofNat_tdiv, simprocAttr, BEq.rfl, LN_succ]
  · have hkl : k < v.length := by omega
    obtain ⟨bad, good⟩ := rowsFB (d := []) hkl hb
    have hrl := hr.at k
    generalize hrr : v.getD k [] = r at *
    refine ⟨by omega, S2.intro (fun h3 => ?_) (fun h3 => ?_)⟩ <;> simp -dsimp only [aqT, aqU, aqN, aqS, ↓seqK, ↓blkK, ↓loopK, step, stepBin, Nat.add_assoc nid, ↓reduceIte, Option.toList, ← Int.ofNat_tmod, ← Int.ofNat_tdiv, simprocAttr, BEq.rfl, LN_succ]
    · have e : patRow n r = 3 := by unfold patRow; rw [if_neg (len_ne h3)]
      rw [bad (by rw [e]; decide), e]
      refine RetOK.pure (.inl rfl) rfl ?_
      simp [cvT, step, res]
    have h3' : (r.length : Int) = n := by simpa using h3
    refine CallO.pure (bits_c r _ (by omega)) ?_
    cases h4 : bitsOk r <;> simp -dsimp only [aqT, aqU, aqN, aqS, ↓seqK, ↓blkK, ↓loopK, step, stepBin, Nat.add_assoc nid, ↓reduceIte, Option.toList, ← Int.ofNat_tmod, ← Int.ofNat_tdiv, simprocAttr, BEq.rfl, LN_succ, Bool.not_true, Bool.not_false]
    · have e : patRow n r = 9 := by unfold patRow; rw [if_pos h3', if_neg (by simp [h4])]
      rw [bad (by rw [e]; decide), e]
      refine RetOK.pure (.inl rfl) rfl ?_
      simp [cvT, step, res]
    · have e : patRow n r = 0 := by unfold patRow; rw [if_pos h3', if_pos h4]
      refine ⟨by unfold inI64; omega, k + 1, ⟨⟨by omega, good e⟩, by omega⟩, Cov.go [] [] ?_⟩
      simp [cvT, step, res]
  · have hkn : k = v.length := by omega
    rw [hkn, List.take_length] at hb
    rw [hb]
    refine RetOK.pure (.inl rfl) rfl ?_
    simp [cvT, step, res]
set_option maxHeartbeats 4000000 in
theorem patternsFault_all (nl : Bool) (n : Int) (v : List (List UInt8)) (nid : Nat) (hv : v.length ≤ 1000000000) (hr : ShortRows 1000000000 v) : ACall Tryd.prog 24 [.int .i64 n, litS nl v] [] nid (.int .i64 (patV n v)) [] := by
  refine acall_run c24 (by simp [a24]) ?_
  unfold litS
  simp -dsimp only [aqT, aqU, aqN, ↓seqK, ↓blkK, ↓loopK, step, stepBin, Nat.reduceBEq, Nat.reduceBeqDiff, Nat.add_assoc nid, Nat.reduceAdd, reduceCtorEq, ↓reduceIte, Nat.reduceLeDiff, Nat.reduceBneDiff, Option.toList, ← Int.ofNat_tmod, ← Int.ofNat_tdiv, Nat.reduceLT, a24]
  refine CallO.pure (in_c _ _ _ _) ?_
  cases h0 : outB n 1 100 <;> simp -dsimp only [aqT, aqU, aqN, aqS, ↓seqK, ↓blkK, ↓loopK, step, stepBin, Nat.add_assoc nid, ↓reduceIte, Option.toList, ← Int.ofNat_tmod, ← Int.ofNat_tdiv, simprocAttr, BEq.rfl, LN_succ, Bool.not_true, Bool.not_false]
  case true =>
    have e : patV n v = 1 := by unfold patV; rw [if_pos h0]
    rw [e]
    refine RetOK.pure (.inl rfl) rfl ?_
    simp [cvT, step, res]
  refine S2.dec (fun h1 => ?_) (fun h1 => ?_) <;> simp -dsimp only [aqT, aqU, aqN, aqS, ↓seqK, ↓blkK, ↓loopK, step, stepBin, Nat.add_assoc nid, ↓reduceIte, Option.toList, ← Int.ofNat_tmod, ← Int.ofNat_tdiv, simprocAttr, BEq.rfl, LN_succ]
  · have e : patV n v = 2 := by unfold patV; rw [if_neg (by simp [h0]), if_pos (by omega)]
    rw [e]
    refine RetOK.pure (.inl rfl) rfl ?_
    simp [cvT, step, res]
  have eV : patV n v = firstBad (patRow n) v := by unfold patV; rw [if_neg (by simp [h0]), if_neg (by omega)]
  rw [eV]
  refine LP.mkP (fun k : Nat => k ≤ v.length ∧ firstBad (patRow n) (v.take k) = 0) (fun k : Nat => ⟨[(18, .int .i64 k), (17, .int .i64 v.length), (16, .lit nl v.length [.s fun i => v.getD i []]), (0, .int .i64 n)], [], nid + 100, nid⟩) (fun k => v.length + 1 - k) 0 ⟨by omega, rfl⟩ (Cov.go [] [] ?_) (fun k hk => ?_)
  · simp [cvT, step, res]
  obtain ⟨hk, hb⟩ := hk
  simp -dsimp only [aqT, aqU, aqN, aqS, ↓seqK, ↓blkK, ↓loopK, step, stepBin, Nat.add_assoc nid, ↓reduceIte, Option.toList, ← Int.ofNat_tmod, ← Int.ofNat_tdiv, simprocAttr, BEq.rfl, LN_succ]
  refine S2.dec (fun h2 => ?_) (fun h2 => ?_) <;> simp -dsimp only [aqT, aqU, aqN, aqS, ↓seqK, ↓blkK, ↓loopK, step, stepBin, Nat.add_assoc nid, ↓reduceIte, Option.toList, ← Int.ofNat_tmod, ← Int.ofNat_tdiv, simprocAttr, BEq.rfl, LN_succ]
  · have hkl : k < v.length := by omega
    obtain ⟨bad, good⟩ := rowsFB (d := []) hkl hb
    have hrl := hr.at k
    generalize hrr : v.getD k [] = r at *
    refine ⟨by omega, S2.intro (fun h3 => ?_) (fun h3 => ?_)⟩ <;> simp -dsimp only [aqT, aqU, aqN, aqS, ↓seqK, ↓blkK, ↓loopK, step, stepBin, Nat.add_assoc nid, ↓reduceIte, Option.toList, ← Int.ofNat_tmod, ← Int.ofNat_tdiv, simprocAttr, BEq.rfl, LN_succ]
    · have e : patRow n r = 3 := by unfold patRow; rw [if_neg (len_ne h3)]
      rw [bad (by rw [e]; decide), e]
      refine RetOK.pure (.inl rfl) rfl ?_
      simp [cvT, step, res]
    have h3' : (r.length : Int) = n := by simpa using h3
    refine CallO.pure (bitsFaultR_c r _ (by omega)) ?_
    cases h4 : bitsOk r <;> simp -dsimp only [aqT, aqU, aqN, aqS, ↓seqK, ↓blkK, ↓loopK, step, stepBin, Nat.add_assoc nid, ↓reduceIte, Option.toList, ← Int.ofNat_tmod, ← Int.ofNat_tdiv, simprocAttr, BEq.rfl, LN_succ]
    · have e : patRow n r = 9 := by unfold patRow; rw [if_pos h3', if_neg (by simp [h4])]
      rw [bad (by rw [e]; decide), e]
      refine RetOK.pure (.inl rfl) rfl ?_
      simp [cvT, step, res]
    · have e : patRow n r = 0 := by unfold patRow; rw [if_pos h3', if_pos h4]
      refine ⟨by unfold inI64; omega, k + 1, ⟨⟨by omega, good e⟩, by omega⟩, Cov.go [] [] ?_⟩
      simp [cvT, step, res]
  · have hkn : k = v.length := by omega
    rw [hkn, List.take_length] at hb
    rw [hb]
    refine RetOK.pure (.inl rfl) rfl ?_
    simp [cvT, step, res]
end Go.Proofs.YthcldfmlfjomfaaDoor
namespace Go.Proofs.YthcldfmlfjomfaaDoor
open Go.RowKit
theorem fill_step (f : Nat → Int) (y : Nat) : (fun j => if j = y then f y else if j < y then f j else 0) = fun j => if j < y + 1 then f j else 0 := by
  funext j
  by_cases h : j = y
  · subst h; simp
  · rw [if_neg h]
    by_cases h2 : j < y
    · rw [if_pos h2, if_pos (by omega)]
    · rw [if_neg h2, if_neg (by omega)]
theorem fill_bytes {l : List UInt8} {n : Nat} (h : l.length = n) : (List.range n).map (fun i => UInt8.ofNat (if i < n then (((l.getD i 0).toNat : Nat) : Int) else 0).toNat) = l := by
  subst h
  apply List.ext_getElem
  · simp
  · intro i h1 h2
    rw [List.getElem_map, List.getElem_range, if_pos h2]
    simp [List.getD_eq_getElem?_getD, List.getElem?_eq_getElem h2]
theorem turnL_take (v : List (List UInt8)) {c x : Nat} (h : x < c) : (turnL v c).take (x + 1) = (turnL v c).take x ++ [colB v x] := by
  refine take_snoc ?_
  unfold turnL
  rw [List.getElem?_map, List.getElem?_range h]
  rfl
set_option maxHeartbeats 8000000 in
theorem turned_all (nl : Bool) (v : List (List UInt8)) (c : Nat) (nid : Nat) (hv : v.length ≤ 1000000000) (hc : c ≤ 1000000000) (hw : ∀ s ∈ v, c ≤ s.length) : ACall Tryd.prog 73 [litS nl v, .int .i64 (c : Nat)] [] nid (.sl nid 0 c) [(nid, arrS (turnL v c))] := by
  have hrl := turnL_len v c
  refine acall_run c73 (by simp [a73]) ?_
  unfold litS
  simp -dsimp only [aqT, aqU, aqN, ↓seqK, ↓blkK, ↓loopK, step, stepBin, Nat.reduceBEq, Nat.reduceBeqDiff, Nat.add_assoc nid, Nat.reduceAdd, reduceCtorEq, ↓reduceIte, Nat.reduceLeDiff, Nat.reduceBneDiff, Option.toList, ← Int.ofNat_tmod, ← Int.ofNat_tdiv, Nat.reduceLT, a73]
  refine LP.mkP (fun x : Nat => x ≤ c) (fun x : Nat => ⟨[(11, .int .i64 x), (10, .int .i64 (c : Nat)), (5, .sl (nid + 4) 0 x), (0, litS nl v)], [(nid + 4, arrS ((turnL v c).take x))], nid + 100, nid⟩) (fun x => c + 1 - x) 0 (by omega) (Cov.go [] [(nid + 4, 1)] ?_) (fun x hx => ?_)
  · simp [cvT, step, res, arrS, litS]
  have hxl : ((turnL v c).take x).length = x := by rw [List.length_take]; omega
  unfold arrS litS
  rw [hxl]
  simp -dsimp only [aqT, aqU, aqN, aqS, ↓seqK, ↓blkK, ↓loopK, step, stepBin, Nat.add_assoc nid, ↓reduceIte, Option.toList, ← Int.ofNat_tmod, ← Int.ofNat_tdiv, simprocAttr, BEq.rfl, LN_succ]
  refine S2.dec (fun h1 => ?_) (fun h1 => ?_) <;> simp -dsimp only [aqT, aqU, aqN, aqS, ↓seqK, ↓blkK, ↓loopK, step, stepBin, Nat.add_assoc nid, ↓reduceIte, Option.toList, ← Int.ofNat_tmod, ← Int.ofNat_tdiv, simprocAttr, BEq.rfl, LN_succ]
  · have hxw : x < c := by omega
    have htk := turnL_take v hxw
    have hRl := colB_len v x
    have hRt := fun y hy => colB_at v x (i := y) hy
    generalize colB v x = R at *
    generalize (turnL v c).take x = T at *
    refine ⟨by omega, ?_⟩
    refine LP.mkP (fun y : Nat => y ≤ v.length) (fun y : Nat => ⟨[(19, .int .i64 y), (18, .int .i64 v.length), (17, litS nl v), (7, .sl (nid + 8) 0 v.length), (6, .int .i64 x), (11, .int .i64 x), (10, .int .i64 (c : Nat)), (5, .sl (nid + 4) 0 x), (0, litS nl v)], [(nid + 4, arrS T), (nid + 8, some (.arr 5 v.length [.i .u8 fun i => if i < y then (((R.getD i 0).toNat : Nat) : Int) else 0]))], nid + 2000, nid⟩) (fun y => v.length + 1 - y) 0 (by omega) (Cov.go [(nid + 8, nid + 120)] [] ?_) (fun y hy => ?_)
    · simp [cvT, step, res, arrS, litS, hxl, Col.const]
    unfold arrS litS
    simp -dsimp only [aqT, aqU, aqN, aqS, ↓seqK, ↓blkK, ↓loopK, step, stepBin, Nat.add_assoc nid, ↓reduceIte, Option.toList, ← Int.ofNat_tmod, ← Int.ofNat_tdiv, simprocAttr, BEq.rfl, LN_succ]
    refine S2.dec (fun h2 => ?_) (fun h2 => ?_) <;> simp -dsimp only [aqT, aqU, aqN, aqS, ↓seqK, ↓blkK, ↓loopK, step, stepBin, Nat.add_assoc nid, ↓reduceIte, Option.toList, ← Int.ofNat_tmod, ← Int.ofNat_tdiv, simprocAttr, BEq.rfl, LN_succ]
    · have hyv : y < v.length := by omega
      have hcv := hRt y hyv
      have hlen := getD_all (P := fun s : List UInt8 => c ≤ s.length) (d := []) hw hyv
      have e : (fun j => if j = y then (((R.getD y 0).toNat : Nat) : Int) else if j < y then (((R.getD j 0).toNat : Nat) : Int) else 0) = fun j => if j < y + 1 then (((R.getD j 0).toNat : Nat) : Int) else 0 := fill_step (fun j => (((R.getD j 0).toNat : Nat) : Int)) y
      rw [← hcv, e]
      refine ⟨by omega, by omega, by omega, by unfold inI64; omega, y + 1, ⟨by omega, by omega⟩, Cov.go [] [] ?_⟩
      simp [cvT, step, res, arrS, litS, hxl, -List.getD_eq_getElem?_getD]
    · have hyn : y = v.length := by omega
      subst hyn
      rw [fill_bytes hRl, getD_app1 T R hxl]
      refine ⟨by omega, by unfold inI64; omega, x + 1, ⟨by omega, by omega⟩, Cov.go [(nid + 4, nid + 2020)] [] ?_⟩
      simp [cvT, step, res, arrS, litS, hxl, htk, -List.getD_eq_getElem?_getD]
  · have hxn : x = c := by omega
    subst hxn
    have hT : (turnL v x).take x = turnL v x := List.take_of_length_le (by omega)
    rw [hT]
    refine RetOK.go [(nid, nid + 4)] [] (.inl rfl) ?_
    simp [a73, cvT, step, res, arrS, hrl, -List.getD_eq_getElem?_getD]
end Go.Proofs.YthcldfmlfjomfaaDoor
namespace Go.Proofs.YthcldfmlfjomfaaDoor
open Go.RowKit
theorem whole_all : ((List.range 64).all fun j => decide (IntKind.u64.wrap (IntKind.u64.wrap (1 * 2 ^ (min ((j : Nat) : Int).toNat IntKind.u64.bits)) - 1) = ((2 ^ j - 1 : Nat) : Int))) = true := by kernel_rfl
theorem whole_eq {j : Nat} (hj : j < 64) : IntKind.u64.wrap (IntKind.u64.wrap (1 * 2 ^ (min j IntKind.u64.bits)) - 1) = ((2 ^ j - 1 : Nat) : Int) := by
  have h1 := List.all_eq_true.1 whole_all j (List.mem_range.2 hj)
  simpa using h1
structure FltOk (n : Nat) (f : Flt) : Prop where
  lo : 1 ≤ f.kind
  hi : f.kind ≤ 6
  pos : 0 < f.nets.length
  len : f.nets.length ≤ 6
  nets : ∀ x ∈ f.nets, x < n
theorem FltOk.at {n : Nat} {f : Flt} (h : FltOk n f) {i : Nat} (hi : i < f.nets.length) : f.nets.getD i 0 < n := by
  rw [List.getD_eq_getElem?_getD, List.getElem?_eq_getElem hi]
  exact h.nets _ (List.getElem_mem _)
theorem foldl_take {α β : Type} (g : β → α → β) (b : β) {l : List α} {k : Nat} {d : α} (h : k < l.length) : (l.take (k + 1)).foldl g b = g ((l.take k).foldl g b) (l.getD k d) := by
  have e : l.take (k + 1) = l.take k ++ [l.getD k d] := take_snoc (by rw [List.getD_eq_getElem?_getD, List.getElem?_eq_getElem h]; rfl)
  rw [e, List.foldl_append]
  rfl
theorem setU (l : List Nat) (x : Nat) {I : Nat} (hI : I < l.length) : (fun j => if j = I then ((x : Nat) : Int) else ((l.getD j 0 : Nat) : Int)) = fun j => (((l.set I x).getD j 0 : Nat) : Int) := by
  funext j
  simp only [List.getD_eq_getElem?_getD, List.getElem?_set]
  by_cases h : j = I
  · subst h; simp [hI]
  · rw [if_neg h, if_neg (fun e => h e.symm)]
end Go.Proofs.YthcldfmlfjomfaaDoor
namespace Go.Proofs.YthcldfmlfjomfaaDoor
open Go.RowKit
def litU (nl : Bool) (r : List Nat) : PV := .lit nl r.length [.i .u64 fun i => ((r.getD i 0 : Nat) : Int)]
end Go.Proofs.YthcldfmlfjomfaaDoor
namespace Go.Proofs.YthcldfmlfjomfaaDoor
open Go.RowKit
def bshI (c i : Nat) : Int := IntKind.u64.wrap (IntKind.u64.wrap (IntKind.u8.wrap (((c : Nat) : Int) - 48)) * 2 ^ min i IntKind.u64.bits)
theorem bsh_all : ([48, 49].all fun c => (List.range 64).all fun i => decide (bshI c i = (((c - 48) <<< i : Nat) : Int) ∧ (c - 48) <<< i < two64)) = true := by kernel_rfl
theorem bsh_eq {c i : Nat} (hc : c = 48 ∨ c = 49) (hi : i < 64) : bshI c i = (((c - 48) <<< i : Nat) : Int) ∧ (c - 48) <<< i < two64 := by
  have h1 := List.all_eq_true.1 bsh_all c (by simpa using hc)
  exact of_decide_eq_true (List.all_eq_true.1 h1 i (List.mem_range.2 hi))
theorem bit_nat2 {s : List UInt8} (h : bitsOk s = true) {k : Nat} (hk : k < s.length) : (s.getD k 0).toNat = 48 ∨ (s.getD k 0).toNat = 49 := by
  rcases bitsOk_at h hk with e | e <;> rw [e]
  · exact .inl rfl
  · exact .inr rfl
def rowTo (s : List UInt8) (k : Nat) : Nat := ((List.range s.length).take k).foldl (fun a i => a ||| ((s.getD i 0).toNat - 48) <<< i) 0
theorem rowTo_step {s : List UInt8} {k : Nat} (hk : k < s.length) : rowTo s (k + 1) = rowTo s k ||| ((s.getD k 0).toNat - 48) <<< k := by
  have h := foldl_take (fun a i => a ||| ((s.getD i 0).toNat - 48) <<< i) 0 (l := List.range s.length) (k := k) (d := 0) (by simpa using hk)
  have hrk : (List.range s.length).getD k 0 = k := by rw [List.getD_eq_getElem?_getD, List.getElem?_range hk]; rfl
  rw [hrk] at h
  exact h
theorem rowTo_lt {s : List UInt8} (h : bitsOk s = true) (hl : s.length ≤ 64) : ∀ k, k ≤ s.length → rowTo s k < two64
  | 0, _ => by simp [rowTo, two64]
  | k + 1, hk => by
    rw [rowTo_step (by omega)]
    exact Nat.or_lt_two_pow (n := 64) (rowTo_lt h hl k (by omega)) (bsh_eq (bit_nat2 h (by omega)) (by omega)).2
theorem rowTo_all (s : List UInt8) : rowTo s s.length = rowN s := by unfold rowTo rowN; rw [List.take_of_length_le (by simp)]
theorem rows_small {t : List (List UInt8)} (h : ∀ s ∈ t, bitsOk s = true ∧ s.length ≤ 64) : Small (t.map rowN) := fun x hx => by
  obtain ⟨s, hs, rfl⟩ := List.mem_map.1 hx
  rw [← rowTo_all]
  exact rowTo_lt (h s hs).1 (h s hs).2 _ (Nat.le_refl _)
theorem mapTakeL {α β : Type} (f : α → β) {l : List α} {k : Nat} {d : α} (h : k < l.length) : (l.map f).take (k + 1) = (l.map f).take k ++ [f (l.getD k d)] := by
  refine take_snoc ?_
  rw [List.getElem?_map, List.getD_eq_getElem?_getD, List.getElem?_eq_getElem h]
  rfl
theorem getD_appN (l : List Nat) (x : Nat) {n : Nat} (hn : l.length = n) (T : IntKind) : (fun i => if i < n then ((l.getD i 0 : Nat) : Int) else [((x : Nat) : Int)].getD (i - n) 0) = fun i => (((l ++ [x]).getD i 0 : Nat) : Int) := by
  subst hn
  funext i
  simp only [List.getD_eq_getElem?_getD, List.getElem?_append]
  split
  · rfl
  · rename_i h
    cases hk : i - l.length with
    | zero => rfl
    | succ k => rfl
def maskL (t : List (List UInt8)) (fs : List Flt) (ones : Nat) : List Nat := fs.map fun f => detV (t.map rowN) f ones
end Go.Proofs.YthcldfmlfjomfaaDoor
namespace Go.Proofs.YthcldfmlfjomfaaDoor
open Go.RowKit
def arrBo (l : List Bool) : Option ABlk := some (.arr 4 l.length [.b fun i => l.getD i false])
def litBo (nl : Bool) (l : List Bool) : PV := .lit nl l.length [.b fun i => l.getD i false]
def domS (l : List Nat) (q : MK) : Bool := l.any fun x => decide (q = MK.i (x : Nat))
theorem domS_snoc (l : List Nat) (a : Nat) : (fun p => if p = MK.i (a : Nat) then true else domS l p) = domS (l ++ [a]) := by
  funext q
  unfold domS
  rw [List.any_append]
  by_cases h : q = MK.i (a : Nat) <;> simp [h]
theorem domS_nil : (fun _ : MK => false) = domS [] := by funext q; rfl
theorem domS_card (l : List Nat) : cardD (.i .u64) (domS l) = (uniq l).length := by
  rw [cardD_of (L := (uniq l).map fun x => MK.i (x : Nat)), List.length_map]
  refine ⟨?_, fun q => ?_⟩
  · rw [List.nodup_iff_pairwise_ne, List.pairwise_map]
    have h := uniq_nodup l
    rw [List.nodup_iff_pairwise_ne] at h
    refine h.imp fun hne e => hne ?_
    injection e with e
    omega
  · unfold domS
    rw [List.mem_map, List.any_eq_true]
    constructor
    · rintro ⟨x, hx, rfl⟩
      exact ⟨rfl, x, uniq_mem.1 hx, by simp⟩
    · rintro ⟨_, x, hx, he⟩
      exact ⟨x, uniq_mem.2 hx, (of_decide_eq_true he).symm⟩
def mapU (l : List Nat) : Option ABlk := some (.map (.i .u64) (domS l) (.b (domS l)))
theorem getD_appBo (l : List Bool) (x : Bool) {n : Nat} (hn : l.length = n) : (fun i => if i < n then l.getD i false else [x].getD (i - n) false) = fun i => (l ++ [x]).getD i false := by
  subst hn
  funext i
  simp only [List.getD_eq_getElem?_getD, List.getElem?_append]
  split <;> rfl
set_option maxHeartbeats 4000000 in
theorem seen_c (nl : Bool) (s : List Nat) (mask nid : Nat) (hs : Small s) (hl : s.length ≤ 1000) (hm : mask < two64) :
    ACall Tryd.prog 75 [litU nl s, .int .u64 (mask : Nat)] [] nid (.tup [.int .i64 (manyV s mask : Nat), .sl nid 0 s.length]) [(nid, arrBo (flagsV s mask))] := by
  have hfl : (flagsV s mask).length = s.length := by simp [flagsV]
  have hcard : cardD (.i .u64) (domS ((s.map (· &&& mask)).take s.length)) = manyV s mask := by rw [domS_card, List.take_of_length_le (by simp)]; rfl
  have hft : (flagsV s mask).take s.length = flagsV s mask := List.take_of_length_le (by omega)
  have hf1 := fun k h => mapTakeL (flagV mask) (l := s) (k := k) (d := 0) h
  have hd1 := fun k h => mapTakeL (· &&& mask) (l := s) (k := k) (d := 0) h
  change ∀ k, k < s.length → (flagsV s mask).take (k + 1) = (flagsV s mask).take k ++ [flagV mask (s.getD k 0)] at hf1
  generalize manyV s mask = many at *
  generalize flagsV s mask = F at *
  generalize s.map (· &&& mask) = D at *
  refine acall_run c75 (by simp [a75]) ?_
  unfold litU
  simp -dsimp only [aqT, aqU, aqN, aqS, ↓seqK, ↓blkK, ↓loopK, step, stepBin, Nat.add_assoc nid, ↓reduceIte, Option.toList, ← Int.ofNat_tmod, ← Int.ofNat_tdiv, simprocAttr, BEq.rfl, LN_succ, a75]
  refine LP.mkP (fun k : Nat => k ≤ s.length) (fun k : Nat => ⟨[(12, .int .i64 k), (11, .int .i64 s.length), (10, litU nl s), (5, .sl (nid + 8) 0 (F.take k).length), (6, .mp (nid + 12)), (1, .int .u64 (mask : Nat))], [(nid + 8, arrBo (F.take k)), (nid + 12, mapU (D.take k))], nid + 200, nid⟩) (fun k => s.length + 1 - k) 0 (by omega) (Cov.go [(nid + 12, nid + 8)] [(nid + 8, 1)] ?_) (fun k hk => ?_)
  · simp [cvT, step, res, arrBo, mapU, litU, ← domS_nil, -List.getD_eq_getElem?_getD]
  have hkl : (F.take k).length = k := by rw [List.length_take]; omega
  have hkl1 : k < s.length → (F.take (k + 1)).length = k + 1 := fun h => by rw [List.length_take]; omega
  have hf1 := hf1 k
  have hd1 := hd1 k
  unfold litU arrBo mapU
  simp -dsimp only [aqT, aqU, aqN, aqS, ↓seqK, ↓blkK, ↓loopK, step, stepBin, Nat.add_assoc nid, ↓reduceIte, Option.toList, ← Int.ofNat_tmod, ← Int.ofNat_tdiv, simprocAttr, BEq.rfl, LN_succ]
  refine S2.dec (fun h3 => ?_) (fun h3 => ?_) <;> simp -dsimp only [aqT, aqU, aqN, aqS, ↓seqK, ↓blkK, ↓loopK, step, stepBin, Nat.add_assoc nid, ↓reduceIte, Option.toList, ← Int.ofNat_tmod, ← Int.ofNat_tdiv, simprocAttr, BEq.rfl, LN_succ]
  · have hks : k < s.length := by omega
    have hf1 := hf1 hks
    have hd1 := hd1 hks
    have hx := hs.at k
    have hkl1 := hkl1 hks
    obtain ⟨ha, hb⟩ := and_u hx hm
    have hfv : flagV mask (s.getD k 0) = (decide (s.getD k 0 &&& mask ≠ 0) && decide (s.getD k 0 &&& mask ≠ mask)) := rfl
    generalize s.getD k 0 = x at *
    rw [ha]
    refine ⟨by omega, ?_⟩
    rw [domS_snoc, ← hd1]
    by_cases hz : x &&& mask = 0
    · have hff : flagV mask x = false := by rw [hfv]; simp [hz]
      rw [hff] at hf1
      rw [hz]
      refine S2.no (by simp) ?_
      simp -dsimp only [aqT, aqU, aqN, aqS, ↓seqK, ↓blkK, ↓loopK, step, stepBin, Nat.add_assoc nid, ↓reduceIte, Option.toList, ← Int.ofNat_tmod, ← Int.ofNat_tdiv, simprocAttr, BEq.rfl, LN_succ]
      rw [getD_appBo (F.take k) false rfl, ← hf1]
      refine ⟨⟨by omega, by omega⟩, by unfold inI64; omega, k + 1, ⟨by omega, by omega⟩, Cov.go [(nid + 8, nid + 288)] [] ?_⟩
      simp [cvT, step, res, arrBo, mapU, litU, hkl1, hkl, -List.getD_eq_getElem?_getD]
    · have hff : ((((x &&& mask : Nat) : Int)) != ((mask : Nat) : Int)) = flagV mask x := by
        rw [hfv, Bool.eq_iff_iff]
        simp only [bne_iff_ne, ne_eq, Bool.and_eq_true, decide_eq_true_eq]
        exact ⟨fun h => ⟨hz, fun e => h (by rw [e])⟩, fun h e => h.2 (by omega)⟩
      refine S2.yes (by simpa using hz) ?_
      simp -dsimp only [aqT, aqU, aqN, aqS, ↓seqK, ↓blkK, ↓loopK, step, stepBin, Nat.add_assoc nid, ↓reduceIte, Option.toList, ← Int.ofNat_tmod, ← Int.ofNat_tdiv, simprocAttr, BEq.rfl, LN_succ]
      rw [ha, hff]
      rw [getD_appBo (F.take k) (flagV mask x) rfl, ← hf1]
      refine ⟨⟨by omega, by omega⟩, by unfold inI64; omega, k + 1, ⟨by omega, by omega⟩, Cov.go [(nid + 8, nid + 288)] [] ?_⟩
      simp [cvT, step, res, arrBo, mapU, litU, hkl1, hkl, -List.getD_eq_getElem?_getD]
  · have hke : k = s.length := by omega
    subst hke
    rw [hcard, hft]
    refine RetOK.go [(nid, nid + 8)] [] (.inl rfl) ?_
    simp [a75, cvT, step, res, arrBo, hfl, -List.getD_eq_getElem?_getD]
end Go.Proofs.YthcldfmlfjomfaaDoor
namespace Go.Proofs.YthcldfmlfjomfaaDoor
open Go.RowKit
end Go.Proofs.YthcldfmlfjomfaaDoor
namespace Go.Proofs.YthcldfmlfjomfaaDoor
open Go.RowKit
def cmpS (n k : Nat) : List (List UInt8) := (List.range n).map fun i => numV i k ++ invV (numV i k)
end Go.Proofs.YthcldfmlfjomfaaDoor
namespace Go.Proofs.YthcldfmlfjomfaaDoor
open Go.RowKit
end Go.Proofs.YthcldfmlfjomfaaDoor
namespace Go.Proofs.YthcldfmlfjomfaaDoor
open Go.RowKit
def pop (n : Nat) : Nat := ((List.range 14).filter fun j => n.testBit j).length
def andU (a b : Int) : Int := IntKind.u64.wrap ((BitVec.ofInt IntKind.u64.bits a &&& BitVec.ofInt IntKind.u64.bits b).toNat : Int)
def o1 (x : Int) : Int := IntKind.u64.wrap (andU (x.fdiv (2 ^ min 1 IntKind.u64.bits)) 6148914691236517205 + andU x 6148914691236517205)
def o2 (x : Int) : Int := IntKind.u64.wrap (andU (x.fdiv (2 ^ min 2 IntKind.u64.bits)) 3689348814741910323 + andU x 3689348814741910323)
def o4 (x : Int) : Int := andU (IntKind.u64.wrap (x.fdiv (2 ^ min 4 IntKind.u64.bits) + x)) 1085102592571150095
def o8 (x : Int) : Int := IntKind.u64.wrap (x + x.fdiv (2 ^ min 8 IntKind.u64.bits))
def o16 (x : Int) : Int := IntKind.u64.wrap (x + x.fdiv (2 ^ min 16 IntKind.u64.bits))
def o32 (x : Int) : Int := IntKind.u64.wrap (x + x.fdiv (2 ^ min 32 IntKind.u64.bits))
def oF (x : Int) : Int := IntKind.i64.wrap ((BitVec.ofInt IntKind.i64.bits (IntKind.i64.wrap x) &&& BitVec.ofInt IntKind.i64.bits 127).toNat : Int)
def onesI (n : Nat) : Int := oF (o32 (o16 (o8 (o4 (o2 (o1 (n : Nat)))))))
def onesN (n : Nat) : Nat :=
  let a := (n / 2 &&& 6148914691236517205) + (n &&& 6148914691236517205)
  let b := (a / 4 &&& 3689348814741910323) + (a &&& 3689348814741910323)
  let c := (b / 16 + b) &&& 1085102592571150095
  let d := c + c / 256
  let e := d + d / 65536
  let f := e + e / 4294967296
  f &&& 127
theorem fdivP {x : Nat} (k : Nat) (hk : k ≤ 64) : ((x : Nat) : Int).fdiv (2 ^ min k IntKind.u64.bits) = ((x / 2 ^ k : Nat) : Int) := by
  rw [show min k IntKind.u64.bits = k from Nat.min_eq_left hk, Int.fdiv_eq_ediv_of_nonneg _ (Int.le_of_lt (Int.pow_pos (by decide))), Int.natCast_ediv, Int.natCast_pow]; rfl
theorem andUN {x y : Nat} (hx : x < two64) (hy : y < two64) : andU (x : Nat) (y : Nat) = ((x &&& y : Nat) : Int) := (and_u hx hy).1
theorem ones_nat {n : Nat} (hn : n < two64) : onesI n = ((onesN n : Nat) : Int) := by
  have h2 : two64 = 18446744073709551616 := rfl
  unfold onesI onesN
  simp only
  have e1 : o1 (n : Nat) = (((n / 2 &&& 6148914691236517205) + (n &&& 6148914691236517205) : Nat) : Int) := by
    unfold o1
    rw [fdivP 1 (by omega)]
    have ha := andUN (x := n / 2 ^ 1) (y := 6148914691236517205) (by omega) (by omega)
    have hb := andUN (x := n) (y := 6148914691236517205) hn (by omega)
    rw [show ((6148914691236517205 : Nat) : Int) = 6148914691236517205 from rfl] at ha hb
    rw [ha, hb, ← Int.natCast_add]
    have b1 : n / 2 ^ 1 &&& 6148914691236517205 ≤ 6148914691236517205 := Nat.and_le_right
    have b2 : n &&& 6148914691236517205 ≤ 6148914691236517205 := Nat.and_le_right
    exact u64_in (by omega)
  have b1 : n / 2 &&& 6148914691236517205 ≤ 6148914691236517205 := Nat.and_le_right
  have b2 : n &&& 6148914691236517205 ≤ 6148914691236517205 := Nat.and_le_right
  rw [e1]
  generalize ha : (n / 2 &&& 6148914691236517205) + (n &&& 6148914691236517205) = a at *
  have al : a < two64 := by omega
  have e2 : o2 (a : Nat) = (((a / 4 &&& 3689348814741910323) + (a &&& 3689348814741910323) : Nat) : Int) := by
    unfold o2
    rw [fdivP 2 (by omega)]
    have ha := andUN (x := a / 2 ^ 2) (y := 3689348814741910323) (by omega) (by omega)
    have hb := andUN (x := a) (y := 3689348814741910323) al (by omega)
    rw [show ((3689348814741910323 : Nat) : Int) = 3689348814741910323 from rfl] at ha hb
    rw [ha, hb, ← Int.natCast_add]
    have b1 : a / 2 ^ 2 &&& 3689348814741910323 ≤ 3689348814741910323 := Nat.and_le_right
    have b2 : a &&& 3689348814741910323 ≤ 3689348814741910323 := Nat.and_le_right
    exact u64_in (by omega)
  have b3 : a / 4 &&& 3689348814741910323 ≤ 3689348814741910323 := Nat.and_le_right
  have b4 : a &&& 3689348814741910323 ≤ 3689348814741910323 := Nat.and_le_right
  rw [e2]
  generalize hb : (a / 4 &&& 3689348814741910323) + (a &&& 3689348814741910323) = b at *
  have bl : b ≤ 7378697629483820646 := by omega
  have e4 : o4 (b : Nat) = (((b / 16 + b) &&& 1085102592571150095 : Nat) : Int) := by
    unfold o4
    rw [fdivP 4 (by omega), ← Int.natCast_add, u64_in (by omega)]
    have ha := andUN (x := b / 2 ^ 4 + b) (y := 1085102592571150095) (by omega) (by omega)
    rw [show ((1085102592571150095 : Nat) : Int) = 1085102592571150095 from rfl] at ha
    exact ha
  have b5 : (b / 16 + b) &&& 1085102592571150095 ≤ 1085102592571150095 := Nat.and_le_right
  rw [e4]
  generalize (b / 16 + b) &&& 1085102592571150095 = c at *
  have e8 : o8 (c : Nat) = ((c + c / 256 : Nat) : Int) := by
    unfold o8
    rw [fdivP 8 (by omega), ← Int.natCast_add]
    exact u64_in (by omega)
  rw [e8]
  generalize hd : c + c / 256 = d at *
  have e16 : o16 (d : Nat) = ((d + d / 65536 : Nat) : Int) := by
    unfold o16
    rw [fdivP 16 (by omega), ← Int.natCast_add]
    exact u64_in (by omega)
  rw [e16]
  generalize he : d + d / 65536 = e at *
  have e32 : o32 (e : Nat) = ((e + e / 4294967296 : Nat) : Int) := by
    unfold o32
    rw [fdivP 32 (by omega), ← Int.natCast_add]
    exact u64_in (by omega)
  rw [e32]
  generalize hf : e + e / 4294967296 = f at *
  unfold oF
  have f1 : f < 4611686018427387904 := by omega
  have f2 : f < two64 := by omega
  have w1 : IntKind.i64.wrap (f : Int) = f := IntWalk.i64_in _ (by omega)
  rw [w1]
  have ha := andUN (x := f) (y := 127) f2 (by omega)
  have hle : f &&& 127 ≤ 127 := Nat.and_le_right
  have hu : (BitVec.ofInt IntKind.i64.bits (f : Int) &&& BitVec.ofInt IntKind.i64.bits 127).toNat = f &&& 127 := by
    rw [BitVec.toNat_and, BitVec.toNat_ofInt, BitVec.toNat_ofInt]
    have q1 : ((f : Int) % ((2 ^ IntKind.i64.bits : Nat) : Int)).toNat = f := by
      show ((f : Int) % 18446744073709551616).toNat = f
      omega
    have q2 : ((127 : Int) % ((2 ^ IntKind.i64.bits : Nat) : Int)).toNat = 127 := by decide
    rw [q1, q2]
  rw [hu]
  exact IntWalk.i64_in _ (by omega)
def popR : Nat → Nat → Nat
  | 0, _ => 0
  | k + 1, n => n % 2 + popR k (n / 2)
theorem pop_r (k : Nat) : ∀ n : Nat, ((List.range k).filter fun j => n.testBit j).length = popR k n := by
  induction k with
  | zero => intro n; rfl
  | succ k ih =>
    intro n
    rw [List.range_succ_eq_map, List.filter_cons, popR, ← ih (n / 2)]
    have e : ((List.range k).map Nat.succ).filter (fun j => n.testBit j) = ((List.range k).filter fun j => (n / 2).testBit j).map Nat.succ := by
      rw [List.filter_map]
      congr 1
      refine List.filter_congr fun j _ => ?_
      show n.testBit (j + 1) = _
      rw [Nat.testBit_succ]
    rw [e]
    rw [Nat.testBit_zero]
    rcases Nat.mod_two_eq_zero_or_one n with h | h
    · simp [h]
    · simp [h]; omega
theorem ones_all : ((List.range 16384).all fun n => Nat.beq (onesN n) (popR 14 n)) = true := by kernel_rfl
theorem ones_eq {n : Nat} (hn : n < 16384) : onesI n = (pop n : Nat) := by
  rw [ones_nat (by unfold two64; omega)]
  have h := List.all_eq_true.1 ones_all n (List.mem_range.2 hn)
  rw [Nat.eq_of_beq_eq_true h]
  unfold pop
  rw [pop_r]
set_option maxHeartbeats 4000000 in
theorem ones64_c (n : Nat) (nid : Nat) (hn : n < 16384) : ACall Tryd.prog 131 [.int .u64 (n : Nat)] [] nid (.int .i64 (pop n : Nat)) [] := by
  have e := ones_eq hn
  refine acall_run c131 (by simp [a131]) ?_
  simp -dsimp only [aqT, aqU, aqN, aqS, ↓seqK, ↓blkK, ↓loopK, step, stepBin, Nat.add_assoc nid, ↓reduceIte, Option.toList, ← Int.ofNat_tmod, ← Int.ofNat_tdiv, simprocAttr, BEq.rfl, LN_succ, a131]
  simp only [onesI, oF, o32, o16, o8, o4, o2, o1, andU] at e
  rw [e]
  refine RetOK.pure (.inl rfl) rfl ?_
  simp [cvT, step, res]
theorem ones_c (n : Nat) (nid : Nat) (hn : n < 16384) : ACall Tryd.prog 76 [.int .u64 (n : Nat)] [] nid (.int .i64 (pop n : Nat)) [] := by
  refine acall_run c76 (by simp [a76]) ?_
  simp -dsimp only [aqT, aqU, aqN, aqS, ↓seqK, ↓blkK, ↓loopK, step, stepBin, Nat.add_assoc nid, ↓reduceIte, Option.toList, ← Int.ofNat_tmod, ← Int.ofNat_tdiv, simprocAttr, BEq.rfl, LN_succ, a76]
  refine CallO.pure (ones64_c n _ hn) ?_
  simp -dsimp only [aqT, aqU, aqN, aqS, ↓seqK, ↓blkK, ↓loopK, step, stepBin, Nat.add_assoc nid, ↓reduceIte, Option.toList, ← Int.ofNat_tmod, ← Int.ofNat_tdiv, simprocAttr, BEq.rfl, LN_succ]
  refine RetOK.pure (.inl rfl) rfl ?_
  simp [cvT, step, res]
end Go.Proofs.YthcldfmlfjomfaaDoor
namespace Go.Proofs.YthcldfmlfjomfaaDoor
open Go.RowKit
inductive FltGood (n : Nat) : Flt → Prop
  | one {k a : Nat} (hk : k = 1 ∨ k = 2 ∨ k = 6) (ha : a < n) : FltGood n ⟨k, [a]⟩
  | two {k a b : Nat} (hk : k = 3 ∨ k = 4) (ha : a < b) (hb : b < n) : FltGood n ⟨k, [a, b]⟩
  | fst {a b : Nat} (hab : a ≠ b) (ha : a < n) (hb : b < n) : FltGood n ⟨5, [a, b]⟩
theorem FltGood.ok {n : Nat} {f : Flt} (h : FltGood n f) : FltOk n f := by
  cases h with
  | one hk ha => exact ⟨by simp only; omega, by simp only; omega, by simp, by simp, fun x hx => by simp at hx; omega⟩
  | two hk ha hb => exact ⟨by simp only; omega, by simp only; omega, by simp, by simp, fun x hx => by simp at hx; omega⟩
  | fst hab ha hb => exact ⟨by simp only; omega, by simp only; omega, by simp, by simp, fun x hx => by simp at hx; omega⟩
def rising (f : Flt) : List Nat := if f.kind = 5 then f.nets.drop 1 else f.nets
structure FltRight (n : Nat) (f : Flt) : Prop extends FltOk n f where
  short : (!outB (f.kind : Nat) 3 5) = decide (1 < f.nets.length)
  ord : ∀ i, 1 ≤ i → i < (rising f).length → (rising f).getD (i - 1) 0 < (rising f).getD i 0
  twice : f.kind = 5 → f.nets.getD 0 0 ∉ rising f
theorem FltGood.right {n : Nat} {f : Flt} (h : FltGood n f) : FltRight n f := by
  refine ⟨h.ok, ?_, ?_, ?_⟩
  · cases h with
    | one hk ha =>
      rename_i k a
      have : outB ((k : Nat) : Int) 3 5 = true := by unfold outB; simp; omega
      simp [this]
    | two hk ha hb =>
      rename_i k a b
      have : outB ((k : Nat) : Int) 3 5 = false := by unfold outB; simp; omega
      simp [this]
    | fst hab ha hb =>
      have : outB 5 3 5 = false := rfl
      simp [this]
  · cases h with
    | one hk ha => intro i h1 h2; unfold rising at h2; rw [if_neg (by simp only; omega)] at h2; simp at h2; omega
    | two hk ha hb =>
      intro i h1 h2
      unfold rising at h2 ⊢
      rw [if_neg (by simp only; omega)] at h2 ⊢
      simp at h2
      have : i = 1 := by omega
      subst this
      simpa using ha
    | fst hab ha hb => intro i h1 h2; simp [rising] at h2; omega
  · cases h with
    | one hk ha => intro h5; simp only at h5; omega
    | two hk ha hb => intro h5; simp only at h5; omega
    | fst hab ha hb => intro _; simp [rising]; exact hab
end Go.Proofs.YthcldfmlfjomfaaDoor
namespace Go.Proofs.YthcldfmlfjomfaaDoor
open Go.RowKit
def bothB (s : List UInt8) : Bool := s.contains 48 && s.contains 49
end Go.Proofs.YthcldfmlfjomfaaDoor
namespace Go.Proofs.YthcldfmlfjomfaaDoor
open Go.RowKit
end Go.Proofs.YthcldfmlfjomfaaDoor
namespace Go.Proofs.YthcldfmlfjomfaaDoor
open Go.RowKit
end Go.Proofs.YthcldfmlfjomfaaDoor
namespace Go.Proofs.YthcldfmlfjomfaaDoor
open Go.RowKit
def cmpK (n : Nat) : Nat := ((List.range 14).find? fun j => decide (1 ≤ j) && decide (n ≤ 2 ^ j)).getD 0
end Go.Proofs.YthcldfmlfjomfaaDoor
namespace Go.Proofs.YthcldfmlfjomfaaDoor
open Go.RowKit
end Go.Proofs.YthcldfmlfjomfaaDoor
namespace Go.Proofs.YthcldfmlfjomfaaDoor
def shortK (k : Nat) : Bool := decide (3 ≤ k) && decide (k ≤ 5)
def takeB (k a b : Nat) : Bool := decide (a < b) || (decide (b < a) && decide (k = 5))
def rowB (k a m : Nat) : List Flt := ((List.range m).filter (takeB k a)).map fun b => ⟨k, [a, b]⟩
def rowA (n k a : Nat) : List Flt := if shortK k then rowB k a n else [⟨k, [a]⟩]
def allK (n k m : Nat) : List Flt := (List.range m).flatMap (rowA n k)
def allV (n : Nat) (ks : List Nat) : List Flt := ks.flatMap fun k => allK n k n
def undV (t : List (List UInt8)) (fs : List Flt) (ones : Nat) : List Nat := (List.range fs.length).filter fun i => (maskL t fs ones).getD i 0 == 0
theorem covers_all : ((List.range 12).all fun m => (allV (m + 1) [1, 2, 3, 4, 5, 6]).all fun f => !(detV ((cmpS (m + 1) (cmpK (m + 1))).map rowN) f (2 ^ (2 * cmpK (m + 1)) - 1) == 0)) = true := by kernel_rfl
theorem covers {n : Nat} (h1 : 1 ≤ n) (h2 : n ≤ 12) : undV (cmpS n (cmpK n)) (allV n [1, 2, 3, 4, 5, 6]) (2 ^ (2 * cmpK n) - 1) = [] := by
  obtain ⟨m, rfl⟩ : ∃ m, n = m + 1 := ⟨n - 1, by omega⟩
  have := List.all_eq_true.1 covers_all m (by simp; omega)
  unfold undV
  rw [List.filter_eq_nil_iff]
  intro i hi
  have hi := List.mem_range.1 hi
  unfold maskL
  have hf := List.all_eq_true.1 this ((allV (m + 1) [1, 2, 3, 4, 5, 6])[i]) (List.getElem_mem _)
  rw [List.getD_eq_getElem?_getD, List.getElem?_map, List.getElem?_eq_getElem hi]
  simpa using hf
end Go.Proofs.YthcldfmlfjomfaaDoor
namespace Go.Proofs.YthcldfmlfjomfaaDoor
open Go.RowKit
end Go.Proofs.YthcldfmlfjomfaaDoor
namespace Go.Proofs.YthcldfmlfjomfaaDoor
open Go.RowKit
end Go.Proofs.YthcldfmlfjomfaaDoor
namespace Go.Proofs.YthcldfmlfjomfaaDoor
open Go.RowKit
def arrN (l : List Nat) : Option ABlk := some (.arr 3 l.length [.i .i64 fun i => ((l.getD i 0 : Nat) : Int)])
end Go.Proofs.YthcldfmlfjomfaaDoor
namespace Go.Proofs.YthcldfmlfjomfaaDoor
open Go.RowKit
def midTo (v : List (List UInt8)) (n i c : Nat) : List Nat := (List.range n).map fun k => if k < c then rowTo (colB v k) (i + 1) else rowTo (colB v k) i
theorem midTo_len (v : List (List UInt8)) (n i c : Nat) : (midTo v n i c).length = n := by simp [midTo]
theorem midTo_at {v : List (List UInt8)} {n i c k : Nat} (hk : k < n) : (midTo v n i c).getD k 0 = if k < c then rowTo (colB v k) (i + 1) else rowTo (colB v k) i := by
  unfold midTo
  rw [List.getD_eq_getElem?_getD, List.getElem?_map, List.getElem?_range hk]
  rfl
theorem midTo_set {v : List (List UInt8)} {n i c : Nat} (hc : c < n) : (midTo v n i c).set c (rowTo (colB v c) (i + 1)) = midTo v n i (c + 1) := by
  apply List.ext_getElem?
  intro k
  rw [List.getElem?_set]
  unfold midTo
  by_cases hk : k < n
  · by_cases e : c = k
    · subst e
      simp [hk]
    · rw [if_neg e]
      simp only [List.getElem?_map, List.getElem?_range hk, Option.map_some, Option.some.injEq]
      by_cases h : k < c
      · rw [if_pos h, if_pos (by omega)]
      · rw [if_neg h, if_neg (by omega)]
  · rw [if_neg (by omega)]
    simp only [List.getElem?_map, List.getElem?_eq_none (show (List.range n).length ≤ k by simp; omega), Option.map_none]
theorem midTo_next {v : List (List UInt8)} {n i : Nat} : midTo v n i n = midTo v n (i + 1) 0 := by
  unfold midTo
  refine List.map_congr_left fun k hk => ?_
  have := List.mem_range.1 hk
  rw [if_pos this, if_neg (by omega)]
theorem midTo_zero {v : List (List UInt8)} {n : Nat} : midTo v n 0 0 = (List.range n).map fun _ => 0 := by
  unfold midTo
  refine List.map_congr_left fun k hk => ?_
  rw [if_neg (by omega)]
  rfl
theorem midTo_all {v : List (List UInt8)} {n : Nat} : midTo v n v.length 0 = (turnL v n).map rowN := by
  unfold midTo turnL
  rw [List.map_map]
  refine List.map_congr_left fun k hk => ?_
  rw [if_neg (by omega), Function.comp_apply, ← rowTo_all, colB_len]
theorem zeros_at (n : Nat) : (fun _ : Nat => (0 : Int)) = fun i => ((((List.range n).map fun _ => 0).getD i 0 : Nat) : Int) := by
  funext i
  rw [List.getD_eq_getElem?_getD, List.getElem?_map]
  cases h : (List.range n)[i]? <;> rfl
def worseI (best mask : Nat) : Bool :=
  let d : Int := IntKind.u64.wrap ((BitVec.ofInt IntKind.u64.bits ((mask : Nat) : Int) ^^^ BitVec.ofInt IntKind.u64.bits ((best : Nat) : Int)).toNat : Int)
  let low : Int := IntKind.u64.wrap ((BitVec.ofInt IntKind.u64.bits d &&& BitVec.ofInt IntKind.u64.bits (IntKind.u64.wrap (0 - d))).toNat : Int)
  IntKind.u64.wrap ((BitVec.ofInt IntKind.u64.bits ((mask : Nat) : Int) &&& BitVec.ofInt IntKind.u64.bits low).toNat : Int) == 0
def skipB (best mask : Nat) : Bool := decide (0 < ((pop mask : Nat) : Int) - ((pop best : Nat) : Int)) || (((((pop mask : Nat) : Int) - ((pop best : Nat) : Int)) == 0) && worseI best mask)
def nextB (S : List Nat) (full best mask : Nat) : Nat := if skipB best mask then best else if sameV S full mask then mask else best
def bestTo (S : List Nat) (full x : Nat) : Nat := (List.range x).foldl (nextB S full) full
theorem bestTo_step (S : List Nat) (full x : Nat) : bestTo S full (x + 1) = nextB S full (bestTo S full x) x := by
  unfold bestTo
  rw [List.range_succ, List.foldl_append]; rfl
theorem sameV_self (S : List Nat) (full : Nat) : sameV S full full = true := by unfold sameV; simp
theorem bestTo_good (S : List Nat) (full : Nat) : ∀ x, x ≤ full + 1 → sameV S full (bestTo S full x) = true ∧ bestTo S full x ≤ full
  | 0, _ => ⟨sameV_self S full, Nat.le_refl _⟩
  | x + 1, h => by
    obtain ⟨h1, h2⟩ := bestTo_good S full x (by omega)
    rw [bestTo_step]
    unfold nextB
    split
    · exact ⟨h1, h2⟩
    · split
      · rename_i h3; exact ⟨h3, by omega⟩
      · exact ⟨h1, h2⟩
theorem bestTo_least (S : List Nat) (full : Nat) : ∀ x, ∀ m, m < x → sameV S full m = true → pop (bestTo S full x) ≤ pop m
  | 0, m, hm, _ => by omega
  | x + 1, m, hm, hs => by
    rw [bestTo_step]
    have ih := bestTo_least S full x
    unfold nextB
    by_cases hsk : skipB (bestTo S full x) x = true
    · rw [if_pos hsk]
      by_cases e : m = x
      · subst e
        unfold skipB at hsk
        simp only [Bool.or_eq_true, Bool.and_eq_true, decide_eq_true_eq, beq_iff_eq] at hsk
        omega
      · exact ih m (by omega) hs
    · rw [if_neg hsk]
      have hle : pop x ≤ pop (bestTo S full x) := by
        unfold skipB at hsk
        simp only [Bool.or_eq_true, decide_eq_true_eq, not_or] at hsk
        omega
      by_cases e : m = x
      · subst e
        rw [if_pos hs]
        exact Nat.le_refl _
      · split
        · exact Nat.le_trans hle (ih m (by omega) hs)
        · exact ih m (by omega) hs
def bestV (S : List Nat) (m : Nat) : Nat := bestTo S (2 ^ m - 1) (2 ^ m)
def fewTo (B x : Nat) : List Nat := (List.range x).filter fun i => B.testBit i
theorem fewTo_yes {B x : Nat} (h : B.testBit x = true) : fewTo B (x + 1) = fewTo B x ++ [x] := by
  unfold fewTo
  rw [List.range_succ, List.filter_append]
  simp [h]
theorem fewTo_no {B x : Nat} (h : B.testBit x = false) : fewTo B (x + 1) = fewTo B x := by
  unfold fewTo
  rw [List.range_succ, List.filter_append]
  simp [h]
theorem fewTo_len (B x : Nat) : (fewTo B x).length ≤ x := Nat.le_trans (List.length_filter_le _ _) (by simp)
end Go.Proofs.YthcldfmlfjomfaaDoor
namespace Go.Proofs.YthcldfmlfjomfaaDoor
theorem rowTo_bit {s : List UInt8} (hb : bitsOk s = true) (j : Nat) : ∀ k, k ≤ s.length → (rowTo s k).testBit j = (decide (j < k) && s.getD j 0 == 49)
  | 0, _ => by simp [rowTo]
  | k + 1, h => by
    rw [rowTo_step (by omega), Nat.testBit_or, rowTo_bit hb j k (by omega), Nat.testBit_shiftLeft]
    by_cases hjk : j = k
    · subst hjk
      simp only [Nat.lt_irrefl, decide_false, Bool.false_and, Bool.false_or, ge_iff_le, Nat.le_refl, decide_true, Bool.true_and, Nat.sub_self, Nat.lt_succ_self]
      rcases bitsOk_at hb (show j < s.length by omega) with e | e <;> rw [e] <;> decide
    · by_cases hlt : j < k
      · have : ¬ k ≤ j := by omega
        have h2 : j < k + 1 := by omega
        simp [hlt, this, h2]
      · have h1 : k ≤ j := by omega
        have h2 : ¬ j < k + 1 := by omega
        simp only [hlt, h2, h1, decide_true, decide_false, Bool.false_and, Bool.false_or, Bool.true_and, ge_iff_le]
        have hx : (s.getD k 0).toNat - 48 = 0 ∨ (s.getD k 0).toNat - 48 = 1 := by rcases bit_nat2 hb (show k < s.length by omega) with e | e <;> omega
        obtain ⟨d, hd⟩ : ∃ d, j - k = d + 1 := ⟨j - k - 1, by omega⟩
        rcases hx with e | e <;> rw [e, hd]
        · simp
        · rw [Nat.testBit_succ]; simp
theorem rowN_bit {s : List UInt8} (hb : bitsOk s = true) (j : Nat) : (rowN s).testBit j = (decide (j < s.length) && s.getD j 0 == 49) := by
  rw [← rowTo_all]
  exact rowTo_bit hb j _ (Nat.le_refl _)
theorem bit_cmp {s t : List UInt8} (hs : bitsOk s = true) (ht : bitsOk t = true) {i : Nat} (h1 : i < s.length) (h2 : i < t.length) : ((s.getD i 0 == 49) = (t.getD i 0 == 49)) ↔ s.getD i 0 = t.getD i 0 := by
  rcases bitsOk_at hs h1 with e | e <;> rcases bitsOk_at ht h2 with e2 | e2 <;> rw [e, e2] <;> decide
theorem rowN_eq {s t : List UInt8} (hs : bitsOk s = true) (ht : bitsOk t = true) (hl : s.length = t.length) : rowN s = rowN t ↔ ∀ i, i < s.length → s.getD i 0 = t.getD i 0 := by
  constructor
  · intro h i hi
    have hb := congrArg (fun x => x.testBit i) h
    rw [rowN_bit hs, rowN_bit ht] at hb
    simp only [hi, show i < t.length by omega, decide_true, Bool.true_and] at hb
    exact (bit_cmp hs ht hi (by omega)).1 hb
  · intro h
    refine Nat.eq_of_testBit_eq fun i => ?_
    rw [rowN_bit hs, rowN_bit ht]
    by_cases hi : i < s.length
    · rw [h i hi, hl]
    · simp [hi, show ¬ i < t.length by omega]
theorem rowN_lt {s : List UInt8} (hs : bitsOk s = true) : rowN s < 2 ^ s.length := by
  refine Nat.lt_pow_two_of_testBit _ fun i hi => ?_
  rw [rowN_bit hs]
  simp; omega
def someV (v : List (List UInt8)) (L : List Nat) : List (List UInt8) := L.map fun i => v.getD i []
theorem few_eq {n : Nat} {v : List (List UInt8)} (hv : PatOk (n : Nat) v) {B p q : Nat} (hp : p < n) (hq : q < n) :
    rowN (colB (someV v (fewTo B v.length)) p) = rowN (colB (someV v (fewTo B v.length)) q) ↔ rowN (colB v p) &&& B = rowN (colB v q) &&& B := by
  have hrow := hv.row
  have hcb : ∀ k, k < n → bitsOk (colB v k) = true := fun k hk => colB_bits fun s hs => ⟨by have := (hrow s hs).1; omega, (hrow s hs).2⟩
  have hmem : ∀ i, i ∈ fewTo B v.length ↔ i < v.length ∧ B.testBit i = true := fun i => by unfold fewTo; rw [List.mem_filter, List.mem_range]
  have hsv : ∀ s ∈ someV v (fewTo B v.length), s ∈ v := fun s hs => by
    unfold someV at hs
    obtain ⟨i, hi, rfl⟩ := List.mem_map.1 hs
    have := ((hmem i).1 hi).1
    rw [List.getD_eq_getElem?_getD, List.getElem?_eq_getElem this]
    exact List.getElem_mem _
  have hcf : ∀ k, k < n → bitsOk (colB (someV v (fewTo B v.length)) k) = true := fun k hk => colB_bits fun s hs => ⟨by have := (hrow s (hsv s hs)).1; omega, (hrow s (hsv s hs)).2⟩
  have hsl : (someV v (fewTo B v.length)).length = (fewTo B v.length).length := by simp [someV]
  have hat : ∀ j (hj : j < (fewTo B v.length).length) k, (colB (someV v (fewTo B v.length)) k).getD j 0 = (colB v k).getD ((fewTo B v.length)[j]) 0 := fun j hj k => by
    have hm := ((hmem _).1 (List.getElem_mem hj)).1
    rw [colB_at _ _ (by omega), colB_at _ _ hm]
    have e : (someV v (fewTo B v.length)).getD j [] = v.getD ((fewTo B v.length)[j]) [] := by
      unfold someV
      rw [List.getD_eq_getElem?_getD, List.getElem?_map, List.getElem?_eq_getElem hj]
      rfl
    rw [e]
  rw [rowN_eq (hcf p hp) (hcf q hq) (by rw [colB_len, colB_len]), colB_len, hsl]
  constructor
  · intro h
    refine Nat.eq_of_testBit_eq fun i => ?_
    rw [Nat.testBit_and, Nat.testBit_and, rowN_bit (hcb p hp), rowN_bit (hcb q hq), colB_len, colB_len]
    by_cases hi : i < v.length
    · cases hB : B.testBit i
      · simp
      · obtain ⟨j, hj, e⟩ := List.getElem_of_mem ((hmem i).2 ⟨hi, hB⟩)
        have := h j hj
        rw [hat j hj, hat j hj, e] at this
        rw [this]
    · simp [hi]
  · intro h j hj
    have hm := (hmem _).1 (List.getElem_mem hj)
    have hb := congrArg (fun x => x.testBit ((fewTo B v.length)[j])) h
    rw [Nat.testBit_and, Nat.testBit_and, rowN_bit (hcb p hp), rowN_bit (hcb q hq), colB_len, colB_len, hm.2] at hb
    simp only [hm.1, decide_true, Bool.true_and, Bool.and_true] at hb
    rw [hat j hj, hat j hj]
    exact (bit_cmp (hcb p hp) (hcb q hq) (by rw [colB_len]; exact hm.1) (by rw [colB_len]; exact hm.1)).1 hb
end Go.Proofs.YthcldfmlfjomfaaDoor
namespace Go.Proofs.YthcldfmlfjomfaaDoor
open Go.RowKit
theorem pop_few {x n : Nat} (hx : x < 2 ^ n) (hn : n ≤ 14) : pop x = (fewG x n).length := by
  unfold pop fewG
  have e : (14 : Nat) = n + (14 - n) := by omega
  rw [e, List.range_add, List.filter_append, List.length_append]
  have : ((List.range (14 - n)).map (n + ·)).filter (fun j => x.testBit j) = [] := by
    rw [List.filter_eq_nil_iff]
    intro j hj
    obtain ⟨k, _, rfl⟩ := List.mem_map.1 hj
    rw [Nat.testBit_lt_two_pow (Nat.lt_of_lt_of_le hx (Nat.pow_le_pow_right (by omega) (by omega)))]
    simp
  rw [this]
  rfl
end Go.Proofs.YthcldfmlfjomfaaDoor
namespace Go.Proofs.YthcldfmlfjomfaaDoor
open Go.RowKit
def eqOne (S : List (List UInt8)) (n i : Nat) : List Nat := i :: ((List.range' (i + 1) (n - i - 1)).filter fun k => S.getD k [] == S.getD i [])
def eqGb (S : List (List UInt8)) (n i : Nat) : Bool := decide (1 < (eqOne S n i).length) && !(S.take i).contains (S.getD i [])
def eqTo (S : List (List UInt8)) (n x : Nat) : List (List Nat) := ((List.range x).filter (eqGb S n)).map (eqOne S n)
theorem eqTo_succ (S : List (List UInt8)) (n x : Nat) : eqTo S n (x + 1) = if eqGb S n x = true then eqTo S n x ++ [eqOne S n x] else eqTo S n x := by
  unfold eqTo
  rw [List.range_succ, List.filter_append, List.map_append]
  cases h : eqGb S n x
  · simp [h]
  · simp [h]
theorem eqTo_len (S : List (List UInt8)) (n x : Nat) : (eqTo S n x).length ≤ x := by
  unfold eqTo
  rw [List.length_map]
  exact Nat.le_trans (List.length_filter_le _ _) (by simp)
theorem eqOne_mem {S : List (List UInt8)} {n i k : Nat} (hi : i < n) : k ∈ eqOne S n i ↔ i ≤ k ∧ k < n ∧ S.getD k [] = S.getD i [] := by
  unfold eqOne
  rw [List.mem_cons, List.mem_filter, List.mem_range'_1, beq_iff_eq]
  constructor
  · rintro (rfl | ⟨h1, h2⟩)
    · exact ⟨Nat.le_refl _, hi, rfl⟩
    · exact ⟨by omega, by omega, h2⟩
  · rintro ⟨h1, h2, h3⟩
    by_cases e : k = i
    · exact .inl e
    · exact .inr ⟨⟨by omega, by omega⟩, h3⟩
theorem take_has {S : List (List UInt8)} {i : Nat} (hi : i ≤ S.length) (x : List UInt8) : (S.take i).contains x = true ↔ ∃ j, j < i ∧ S.getD j [] = x := by
  rw [List.contains_iff_mem]
  constructor
  · intro h
    obtain ⟨j, hj, e⟩ := List.getElem_of_mem h
    rw [List.length_take] at hj
    refine ⟨j, by omega, ?_⟩
    rw [List.getElem_take] at e
    rw [List.getD_eq_getElem?_getD, List.getElem?_eq_getElem (by omega)]
    exact e
  · rintro ⟨j, hj, rfl⟩
    rw [List.getD_eq_getElem?_getD, List.getElem?_eq_getElem (by omega)]
    exact List.mem_take_iff_getElem.2 ⟨j, by omega, rfl⟩
theorem least_at {p : Nat → Prop} : ∀ n : Nat, p n → ∃ i, i ≤ n ∧ p i ∧ ∀ k, k < i → ¬ p k := by
  intro n
  induction n using Nat.strongRecOn with
  | _ n ih =>
    intro hn
    by_cases h : ∃ k, k < n ∧ p k
    · obtain ⟨k, hk, hp⟩ := h
      obtain ⟨i, h1, h2, h3⟩ := ih k hk hp
      exact ⟨i, by omega, h2, h3⟩
    · exact ⟨n, Nat.le_refl _, hn, fun k hk hp => h ⟨k, hk, hp⟩⟩
theorem eqB_first {S : List (List UInt8)} {n p q : Nat} (hS : S.length = n) (hpq : p < q) (hq : q < n) (h : S.getD p [] = S.getD q []) : ∃ i, i ≤ p ∧ eqGb S n i = true ∧ S.getD i [] = S.getD p [] := by
  obtain ⟨i, hip, he, hl⟩ := least_at (p := fun i => S.getD i [] = S.getD p []) p rfl
  refine ⟨i, hip, ?_, he⟩
  unfold eqGb
  rw [Bool.and_eq_true, decide_eq_true_eq, Bool.not_eq_true']
  constructor
  · have hm : q ∈ eqOne S n i := (eqOne_mem (by omega)).2 ⟨by omega, hq, by rw [← h, he]⟩
    unfold eqOne at hm ⊢
    rw [List.mem_cons] at hm
    rcases hm with e | hm
    · omega
    · have := List.length_pos_of_mem hm
      simp only [List.length_cons]
      omega
  · cases hc : (S.take i).contains (S.getD i []) with
    | false => rfl
    | true =>
      obtain ⟨j, hj, e⟩ := (take_has (by omega) _).1 hc
      exact absurd (e.trans he) (hl j hj)
theorem eqTo_iff {S T : List (List UInt8)} {n : Nat} (hS : S.length = n) (hT : T.length = n) : eqTo S n n = eqTo T n n ↔ ∀ p q, p < n → q < n → (S.getD p [] = S.getD q [] ↔ T.getD p [] = T.getD q []) := by
  constructor
  · intro h
    have one : ∀ {S T : List (List UInt8)}, S.length = n → T.length = n → eqTo S n n = eqTo T n n → ∀ p q, p < q → q < n → S.getD p [] = S.getD q [] → T.getD p [] = T.getD q [] := by
      intro S T hS hT h p q hpq hq e
      obtain ⟨i, hip, hb, he⟩ := eqB_first hS hpq hq e
      have hm : eqOne S n i ∈ eqTo S n n := List.mem_map.2 ⟨i, List.mem_filter.2 ⟨List.mem_range.2 (by omega), hb⟩, rfl⟩
      rw [h] at hm
      obtain ⟨j, hj, ej⟩ := List.mem_map.1 hm
      have hjn := List.mem_range.1 (List.mem_filter.1 hj).1
      have mp : p ∈ eqOne S n i := (eqOne_mem (by omega)).2 ⟨hip, by omega, he.symm⟩
      have mq : q ∈ eqOne S n i := (eqOne_mem (by omega)).2 ⟨by omega, hq, by rw [← e, he]⟩
      rw [← ej] at mp mq
      exact ((eqOne_mem hjn).1 mp).2.2.trans ((eqOne_mem hjn).1 mq).2.2.symm
    intro p q hp hq
    rcases Nat.lt_trichotomy p q with hpq | rfl | hpq
    · exact ⟨one hS hT h p q hpq hq, one hT hS h.symm p q hpq hq⟩
    · exact ⟨fun _ => rfl, fun _ => rfl⟩
    · exact ⟨fun e => (one hS hT h q p hpq hp e.symm).symm, fun e => (one hT hS h.symm q p hpq hp e.symm).symm⟩
  · intro h
    have h1 : ∀ i, i < n → eqOne S n i = eqOne T n i := fun i hi => by
      unfold eqOne
      congr 1
      refine List.filter_congr fun k hk => ?_
      have hk := List.mem_range'_1.1 hk
      rw [Bool.eq_iff_iff, beq_iff_eq, beq_iff_eq]
      exact h k i (by omega) hi
    have h2 : ∀ i, i < n → eqGb S n i = eqGb T n i := fun i hi => by
      unfold eqGb
      rw [h1 i hi]
      congr 2
      rw [Bool.eq_iff_iff, take_has (by omega), take_has (by omega)]
      exact ⟨fun ⟨j, hj, e⟩ => ⟨j, hj, (h j i (by omega) hi).1 e⟩, fun ⟨j, hj, e⟩ => ⟨j, hj, (h j i (by omega) hi).2 e⟩⟩
    unfold eqTo
    rw [List.filter_congr fun i hi => h2 i (List.mem_range.1 hi)]
    refine List.map_congr_left fun i hi => h1 i (List.mem_range.1 (List.mem_filter.1 hi).1)
theorem filter_iff {p q : Nat → Bool} {n : Nat} : (List.range n).filter p = (List.range n).filter q ↔ ∀ k, k < n → p k = q k := by
  constructor
  · intro h k hk
    rw [Bool.eq_iff_iff]
    have h1 : k ∈ (List.range n).filter p ↔ k ∈ (List.range n).filter q := by rw [h]
    rw [List.mem_filter, List.mem_filter, List.mem_range] at h1
    exact ⟨fun e => (h1.1 ⟨hk, e⟩).2, fun e => (h1.2 ⟨hk, e⟩).2⟩
  · intro h
    exact List.filter_congr fun k hk => h k (List.mem_range.1 hk)
def stuckOne (s : List UInt8) : Bool := !decide (0 ≤ Lib.indexByte s 48) || !decide (0 ≤ Lib.indexByte s 49)
def stuckTo (S : List (List UInt8)) (x : Nat) : List Nat := (List.range x).filter fun k => stuckOne (S.getD k [])
theorem stuckTo_succ (S : List (List UInt8)) (x : Nat) : stuckTo S (x + 1) = if stuckOne (S.getD x []) = true then stuckTo S x ++ [x] else stuckTo S x := by
  unfold stuckTo
  rw [List.range_succ, List.filter_append]
  cases h : stuckOne (S.getD x [])
  · rw [List.filter_cons, h]; simp
  · rw [List.filter_cons, h]; simp
theorem stuckTo_len (S : List (List UInt8)) (x : Nat) : (stuckTo S x).length ≤ x := Nat.le_trans (List.length_filter_le _ _) (by simp)
theorem indexByte_memF {l : List UInt8} {c : UInt8} : 0 ≤ Lib.indexByte l c ↔ c ∈ l := by
  induction l with
  | nil => simp [Lib.indexByte]
  | cons b l ih =>
    have hg := Lib.indexByte_ge l c
    simp only [Lib.indexByte, List.mem_cons]
    by_cases h : b = c
    · subst h; simp
    · have h2 : ¬ c = b := fun e => h e.symm
      by_cases h3 : 0 ≤ Lib.indexByte l c
      · have : Lib.indexByte l c ≠ -1 := by omega
        have h4 := ih.1 h3
        simp [h, h2, this, h4]
        omega
      · have : Lib.indexByte l c = -1 := by omega
        have h4 : ¬ c ∈ l := fun e => h3 (ih.2 e)
        simp [h, h2, this, h4]
theorem few_row {n : Nat} {v : List (List UInt8)} (hv : PatOk (n : Nat) v) (B : Nat) : ∀ s ∈ someV v (fewTo B v.length), s ∈ v := fun s hs => by
  unfold someV at hs
  obtain ⟨i, hi, rfl⟩ := List.mem_map.1 hs
  unfold fewTo at hi
  have := List.mem_range.1 (List.mem_filter.1 hi).1
  rw [List.getD_eq_getElem?_getD, List.getElem?_eq_getElem this]
  exact List.getElem_mem _
theorem few_pat {n : Nat} {v : List (List UInt8)} (hv : PatOk (n : Nat) v) (B : Nat) : PatOk (n : Nat) (someV v (fewTo B v.length)) := by
  refine ⟨hv.lo, hv.hi, ?_, fun s hs => hv.row s (few_row hv B s hs)⟩
  have := hv.len
  have h2 := fewTo_len B v.length
  unfold someV
  rw [List.length_map]
  omega
theorem few_all {v : List (List UInt8)} : someV v (fewTo (2 ^ v.length - 1) v.length) = v := by
  have : fewTo (2 ^ v.length - 1) v.length = List.range v.length := by
    unfold fewTo
    rw [List.filter_eq_self]
    intro i hi
    rw [Nat.testBit_two_pow_sub_one]
    simpa using hi
  rw [this]
  unfold someV
  apply List.ext_getElem
  · simp
  · intro i h1 h2
    simp only [List.getElem_map, List.getElem_range]
    rw [List.getD_eq_getElem?_getD, List.getElem?_eq_getElem h2]; rfl
theorem few_has {n : Nat} {v : List (List UInt8)} (hv : PatOk (n : Nat) v) {B k : Nat} (c : UInt8) : c ∈ colB (someV v (fewTo B v.length)) k ↔ ∃ i, i < v.length ∧ B.testBit i = true ∧ (colB v k).getD i 0 = c := by
  have hmem : ∀ i, i ∈ fewTo B v.length ↔ i < v.length ∧ B.testBit i = true := fun i => by unfold fewTo; rw [List.mem_filter, List.mem_range]
  constructor
  · intro h
    unfold colB someV at h
    rw [List.map_map] at h
    obtain ⟨i, hi, e⟩ := List.mem_map.1 h
    obtain ⟨h1, h2⟩ := (hmem i).1 hi
    refine ⟨i, h1, h2, ?_⟩
    rw [colB_at _ _ h1]
    exact e
  · rintro ⟨i, h1, h2, h3⟩
    unfold colB someV
    rw [List.map_map]
    refine List.mem_map.2 ⟨i, (hmem i).2 ⟨h1, h2⟩, ?_⟩
    rw [colB_at _ _ h1] at h3
    exact h3
theorem stuck_flag {n : Nat} {v : List (List UInt8)} (hv : PatOk (n : Nat) v) {B k : Nat} (hk : k < n) (hB : B < 2 ^ v.length) : stuckOne (colB (someV v (fewTo B v.length)) k) = !flagV B (rowN (colB v k)) := by
  have hrow := hv.row
  have hcb : bitsOk (colB v k) = true := colB_bits fun s hs => ⟨by have := (hrow s hs).1; omega, (hrow s hs).2⟩
  have h0 : decide (0 ≤ Lib.indexByte (colB (someV v (fewTo B v.length)) k) 48) = decide (rowN (colB v k) &&& B ≠ B) := by
    rw [decide_eq_decide, indexByte_memF, few_has hv]
    constructor
    · rintro ⟨i, h1, h2, h3⟩ e
      have hb := congrArg (fun x => x.testBit i) e
      simp only [Nat.testBit_and, rowN_bit hcb, colB_len, h1, h2, h3, decide_true, Bool.true_and, Bool.and_true] at hb
      cases hb
    · intro h
      refine Classical.byContradiction fun hn => h (Nat.eq_of_testBit_eq fun i => ?_)
      rw [Nat.testBit_and, rowN_bit hcb, colB_len]
      cases hBi : B.testBit i
      · simp
      · have hi : i < v.length := by
          refine Classical.byContradiction fun hx => ?_
          rw [Nat.testBit_lt_two_pow (Nat.lt_of_lt_of_le hB (Nat.pow_le_pow_right (by omega) (by omega)))] at hBi
          cases hBi
        rcases bitsOk_at hcb (show i < (colB v k).length by rw [colB_len]; exact hi) with e | e
        · exact absurd ⟨i, hi, hBi, e⟩ hn
        · rw [e]; simp [hi]
  have h1 : decide (0 ≤ Lib.indexByte (colB (someV v (fewTo B v.length)) k) 49) = decide (rowN (colB v k) &&& B ≠ 0) := by
    rw [decide_eq_decide, indexByte_memF, few_has hv]
    constructor
    · rintro ⟨i, h1, h2, h3⟩ e
      have hb := congrArg (fun x => x.testBit i) e
      simp only [Nat.testBit_and, rowN_bit hcb, colB_len, h1, h2, h3, decide_true, Bool.true_and, Bool.and_true, Nat.zero_testBit] at hb
      cases hb
    · intro h
      refine Classical.byContradiction fun hn => h (Nat.eq_of_testBit_eq fun i => ?_)
      rw [Nat.testBit_and, rowN_bit hcb, colB_len, Nat.zero_testBit]
      cases hBi : B.testBit i
      · simp
      · have hi : i < v.length := by
          refine Classical.byContradiction fun hx => ?_
          rw [Nat.testBit_lt_two_pow (Nat.lt_of_lt_of_le hB (Nat.pow_le_pow_right (by omega) (by omega)))] at hBi
          cases hBi
        rcases bitsOk_at hcb (show i < (colB v k).length by rw [colB_len]; exact hi) with e | e
        · rw [e]; simp [hi]
        · exact absurd ⟨i, hi, hBi, e⟩ hn
  unfold stuckOne flagV
  rw [h0, h1]
  cases decide (rowN (colB v k) &&& B ≠ B) <;> cases decide (rowN (colB v k) &&& B ≠ 0) <;> rfl
theorem uniq_map {g : Nat → Nat} : ∀ {l : List Nat}, (∀ x ∈ l, ∀ y ∈ l, g x = g y → x = y) → (uniq (l.map g)).length = (uniq l).length
  | [], _ => rfl
  | a :: l, h => by
    have ih := uniq_map (l := l) fun x hx y hy => h x (List.mem_cons_of_mem _ hx) y (List.mem_cons_of_mem _ hy)
    rw [List.map_cons]
    unfold uniq
    by_cases hm : a ∈ uniq l
    · rw [if_pos hm, if_pos (uniq_mem.2 (List.mem_map.2 ⟨a, uniq_mem.1 hm, rfl⟩)), ih]
    · rw [if_neg hm, if_neg fun hc => ?_, List.length_cons, List.length_cons, ih]
      obtain ⟨y, hy, e⟩ := List.mem_map.1 (uniq_mem.1 hc)
      have := h y (List.mem_cons_of_mem _ hy) a List.mem_cons_self e
      subst this
      exact hm (uniq_mem.2 hy)
theorem col_eq {n : Nat} {v : List (List UInt8)} (hv : PatOk (n : Nat) v) {p q : Nat} (hp : p < n) (hq : q < n) : colB v p = colB v q ↔ rowN (colB v p) = rowN (colB v q) := by
  have hrow := hv.row
  have hcb : ∀ k, k < n → bitsOk (colB v k) = true := fun k hk => colB_bits fun s hs => ⟨by have := (hrow s hs).1; omega, (hrow s hs).2⟩
  constructor
  · intro h; rw [h]
  · intro h
    have hl : (colB v p).length = (colB v q).length := by rw [colB_len, colB_len]
    have := (rowN_eq (hcb p hp) (hcb q hq) hl).1 h
    refine List.ext_getElem hl fun i h1 h2 => ?_
    have := this i h1
    rw [List.getD_eq_getElem?_getD, List.getD_eq_getElem?_getD, List.getElem?_eq_getElem h1, List.getElem?_eq_getElem h2] at this
    exact this
theorem sameV_doc {n : Nat} {v : List (List UInt8)} (hv : PatOk (n : Nat) v) {B : Nat} (hB : B < 2 ^ v.length) :
    sameV ((turnL v n).map rowN) (2 ^ v.length - 1) B = (decide (eqTo (turnL (someV v (fewTo B v.length)) n) n n = eqTo (turnL v n) n n) && decide (stuckTo (turnL (someV v (fewTo B v.length)) n) n = stuckTo (turnL v n) n)) := by
  have hrow := hv.row
  have hcb : ∀ k, k < n → bitsOk (colB v k) = true := fun k hk => colB_bits fun s hs => ⟨by have := (hrow s hs).1; omega, (hrow s hs).2⟩
  have hv2 := few_pat hv B
  have hpos := Nat.two_pow_pos v.length
  have hlt : ∀ x ∈ (turnL v n).map rowN, x < 2 ^ v.length := fun x hx => by
    obtain ⟨s, hs, rfl⟩ := List.mem_map.1 hx
    obtain ⟨k, hk, rfl⟩ := turnL_mem hs
    have := rowN_lt (hcb k hk)
    rwa [colB_len] at this
  have hid : ((turnL v n).map rowN).map (· &&& (2 ^ v.length - 1)) = (turnL v n).map rowN := by
    conv => rhs; rw [← List.map_id ((turnL v n).map rowN)]
    refine List.map_congr_left fun x hx => ?_
    rw [Nat.and_two_pow_sub_one_eq_mod, Nat.mod_eq_of_lt (hlt x hx)]; rfl
  have hmem : ∀ k, k < n → rowN (colB v k) ∈ (turnL v n).map rowN := fun k hk => List.mem_map.2 ⟨colB v k, List.mem_map.2 ⟨k, List.mem_range.2 hk, rfl⟩, rfl⟩
  unfold sameV
  congr 1
  · rw [decide_eq_decide, eqTo_iff (turnL_len _ _) (turnL_len _ _)]
    unfold manyV
    rw [hid]
    constructor
    · intro h p q hp hq
      rw [turnL_at _ hp, turnL_at _ hq, turnL_at _ hp, turnL_at _ hq, col_eq hv2 hp hq, col_eq hv hp hq, few_eq hv hp hq]
      exact ⟨fun e => uniq_inj h (hmem p hp) (hmem q hq) e, fun e => by rw [e]⟩
    · intro h
      refine uniq_map fun x hx y hy e => ?_
      obtain ⟨s, hs, rfl⟩ := List.mem_map.1 hx
      obtain ⟨p, hp, rfl⟩ := turnL_mem hs
      obtain ⟨t, ht, rfl⟩ := List.mem_map.1 hy
      obtain ⟨q, hq, rfl⟩ := turnL_mem ht
      have := h p q hp hq
      rw [turnL_at _ hp, turnL_at _ hq, turnL_at _ hp, turnL_at _ hq, col_eq hv2 hp hq, col_eq hv hp hq, few_eq hv hp hq] at this
      exact this.1 e
  · have hfull : ∀ k, k < n → stuckOne (colB v k) = !flagV (2 ^ v.length - 1) (rowN (colB v k)) := fun k hk => by
      have := stuck_flag hv (B := 2 ^ v.length - 1) hk (by omega)
      rwa [few_all] at this
    have hf : flagsV ((turnL v n).map rowN) B = flagsV ((turnL v n).map rowN) (2 ^ v.length - 1) ↔ stuckTo (turnL (someV v (fewTo B v.length)) n) n = stuckTo (turnL v n) n := by
      unfold stuckTo
      rw [filter_iff]
      unfold flagsV
      rw [List.map_inj_left]
      constructor
      · intro h k hk
        rw [turnL_at _ hk, turnL_at _ hk, stuck_flag hv hk hB, hfull k hk, h _ (hmem k hk)]
      · intro h x hx
        obtain ⟨s, hs, rfl⟩ := List.mem_map.1 hx
        obtain ⟨k, hk, rfl⟩ := turnL_mem hs
        have := h k hk
        rw [turnL_at _ hk, turnL_at _ hk, stuck_flag hv hk hB, hfull k hk] at this
        simpa using this
    rw [Bool.eq_iff_iff, decide_eq_true_eq, beq_iff_eq]
    exact hf
end Go.Proofs.YthcldfmlfjomfaaDoor
namespace Go.Proofs.YthcldfmlfjomfaaDoor
open Go.RowKit Go.WideMaps Go.Maps
open Go.ChangeShapes (lits)
def posP (S : List (List UInt8)) (s : List UInt8) (k : Nat) : List Nat := (List.range k).filter fun j => S.getD j [] == s
def posZ (S : List (List UInt8)) (s : List UInt8) (k : Nat) : List Int := (posP S s k).map fun j : Nat => (j : Int)
theorem posP_succ (S : List (List UInt8)) (s : List UInt8) (k : Nat) : posP S s (k + 1) = if (S.getD k [] == s) = true then posP S s k ++ [k] else posP S s k := by
  unfold posP
  rw [List.range_succ, List.filter_append]
  cases h : (S.getD k [] == s)
  · rw [List.filter_cons, h]; simp
  · rw [List.filter_cons, h]; simp
theorem posP_len (S : List (List UInt8)) (s : List UInt8) (k : Nat) : (posP S s k).length ≤ k := Nat.le_trans (List.length_filter_le _ _) (by simp)
theorem posP_mem {S : List (List UInt8)} {s : List UInt8} {k j : Nat} : j ∈ posP S s k ↔ j < k ∧ S.getD j [] = s := by
  unfold posP
  rw [List.mem_filter, List.mem_range, beq_iff_eq]
def gP (S : List (List UInt8)) : Nat → DataW Unit
  | 0 => .map []
  | k + 1 => (gP S k).put (.string (S.getD k [])) (.slice (lits .i64 (posZ S (S.getD k []) k ++ [((k : Nat) : Int)])) [])
theorem gP_map (S : List (List UInt8)) : ∀ k, IsMap (gP S k)
  | 0 => isMap_empty
  | k + 1 => by
    obtain ⟨es, h⟩ := gP_map S k
    unfold gP
    rw [h]
    exact ⟨_, rfl⟩
theorem gP_at (S : List (List UInt8)) (s : List UInt8) (zd : DataW Unit) : ∀ k, (gP S k).atKey (.string s) zd = if posP S s k = [] then zd else .slice (lits .i64 (posZ S s k)) []
  | 0 => by
    unfold gP posP
    rfl
  | k + 1 => by
    unfold gP
    by_cases h : S.getD k [] = s
    · subst h
      have e : posP S (S.getD k []) (k + 1) = posP S (S.getD k []) k ++ [k] := by rw [posP_succ, if_pos (by simp)]
      rw [atKey_put_same (gP_map S k) (show Go.WideAt.IsKeyLit (.string _) from trivial), e, if_neg (by simp)]
      unfold posZ
      rw [e, List.map_append]
      rfl
    · have hb : (S.getD k [] == s) = false := by simpa using h
      rw [atKey_put_other (by intro e; injection e with e; exact h e.symm), gP_at S s zd k]
      unfold posZ
      rw [posP_succ, hb]
      simp
theorem lits_inj {l m : List Int} (h : (lits .i64 l : List (DataW Unit)) = lits .i64 m) : l = m := by
  unfold lits at h
  exact (List.map_inj_right (fun x y e => by injection e with e; injection e)).1 h
theorem keyT_s : Tryd.prog.underlying 9 = some .string := by kernel_rfl
theorem lawS : Keyed Tryd.prog 9 := string_keyed keyT_s
theorem zeroSl (w : World) : (zeroValue 22).run Tryd.prog w = .ok (.slice none 0 0) w := by kernel_rfl
theorem key_okS {S : List (List UInt8)} (hS : ShortRows 1000000 S) (k : Nat) : keyOf Tryd.prog 9 (.string ⟨(S.getD k []).toArray⟩) = some (.string (S.getD k [])) := by
  have := hS.at k
  have h := keyOf_string_mk (P := Tryd.prog) (k := 9) keyT_s (s := ⟨(S.getD k []).toArray⟩) (by unfold maxLen; show (S.getD k []).toArray.size ≤ _; rw [List.size_toArray]; omega)
  simpa using h
theorem places_none (a : Option Addr) (cap : Nat) (w : World) :
    Calls Tryd.prog 74 #[.slice a 0 cap] w fun e w' => e = .returned (.map (some w.heap.size)) ∧ w'.ownsGroups (H := Unit) Tryd.prog 9 (w.heap.size + 1) 3 .i64 w.heap.size 0 (.map []) ∧ Below w.heap.size w w' := by
  have hmm := @run_makeMap Tryd.prog
  go_enter Tryd.func74, Tryd.ntmps74
  go_wp2
  refine wp_loop_rounds 1 ?_
  rw [rounds_succ]
  go_wp2
  go_ret
  exact ⟨rfl, World.ownsGroups_made _ _ _ _ _, (Below.refl _ _).alloc (Nat.le_refl _) _⟩
theorem places_any (b off len cap : Nat) (S : List (List UInt8)) (w : World) (hreach : len * 16 ≤ 140737488351232) (hb : b < w.heap.size)
    (hc : ∀ j, j < len → w.cell? ⟨b, off + j, none⟩ = some (.string ⟨(S.getD j []).toArray⟩)) (hS : ShortRows 1000000 S) :
    Calls Tryd.prog 74 #[.slice (some ⟨b, off, none⟩) len cap] w fun e w' => e = .returned (.map (some w.heap.size)) ∧ w'.ownsGroups Tryd.prog 9 (w.heap.size + 1) 3 .i64 w.heap.size len (gP S len) ∧ Below w.heap.size w w' := by
  have hmm := @run_makeMap Tryd.prog
  obtain ⟨i0, hi, hz0, hz1, hz2⟩ := info_parts (P := Tryd.prog) (e := 3) (z := .int .i64 0) (size := 1) (bytes := 8) (by kernel_rfl)
  go_enter Tryd.func74, Tryd.ntmps74
  go_wp2
  go_loopw [9] (fun i wr => ∃ k : Nat, k ≤ len ∧ i = .int .i64 k ∧ wr.ownsGroups Tryd.prog 9 (w.heap.size + 1) 3 .i64 w.heap.size k (gP S k) ∧ Below w.heap.size w wr ∧ w.heap.size + 1 ≤ wr.heap.size)
    (fun i _ => len - (intOf i).toNat)
  case atStart => exact ⟨0, Nat.zero_le _, rfl, World.ownsGroups_made _ _ _ _ _, (Below.refl _ _).alloc (Nat.le_refl _) _, by simp⟩
  case round =>
    obtain ⟨k, hk, rfl, hown, hnx, hws⟩ := hrel
    have hcx : k < len → wr.cell? ⟨b, off + k, none⟩ = some (.string ⟨(S.getD k []).toArray⟩) := fun _ => (hnx.cell (by exact hb)).trans (hc k (by omega))
    have hkey := key_okS hS k
    have hg := gP_at S (S.getD k []) .nil k
    go_wp2_with (first
      | (at_lookup; refine wpList_lookup_groups _ rfl _ _ 92 rfl 9 22 3 .i64 lawS Tryd.underlying92 (zeroSl _) (w.heap.size + 1) w.heap.size k _ rfl hown (by unfold maxLen; omega) _ _ rfl hkey ?_; intro v zs hat hoi hzl hback)
      | (at_builtin; refine wpList_append_own_at _ rfl _ _ 22 rfl (w.heap.size + 1) 3 i0 (.int .i64 0) 1 8 Tryd.underlying22 hi hz0 hz1 hz2 rfl (by decide) _ _ _ rfl (hoi.1.alloc _) ⟨wr.heap.size, 0, none⟩ 1 1 [.int .i64 k] rfl rfl (cell_one_new _ _ _) (ints_oneCell .i64 [(k : Int)]) (by unfold maxLen; omega) (by omega) (by simp; omega) ?_; intro v' w1 hown' hgrow hnil hloc)
      | (at_mapUpdate; refine wpList_mapUpdate_back _ rfl _ _ _ 92 rfl hback rfl rfl rfl ((World.grownBy_alloc _ _ _).trans hgrow) (hoi.appended hown' (WalkArith.wf_i64 (by omega))) (by simp; omega) (hloc.imp id (fun h => ⟨_, h, by simp⟩)) ?_; intro w2 hown2 hgrow2)
      | go_in)
    · have hlt : k < len := by assumption
      have hall := (World.grownBy_alloc wr _ _).trans hgrow
      go_roundw
      case rel =>
        refine ⟨k + 1, by omega, by go_num, ?_, hnx.groups hoi hall hgrow2 hnx.size (Nat.le_succ _) (Nat.le_refl _), Nat.le_trans hws (Nat.le_trans hall.size hgrow2.size)⟩
        have hzs : zs = posZ S (S.getD k []) k := by
          rw [hg] at hat
          rcases hoi.datum (H := Unit) with ⟨h1, rfl⟩ | h1
          · rw [h1] at hat
            by_cases hp : posP S (S.getD k []) k = []
            · unfold posZ; rw [hp]; rfl
            · rw [if_neg hp] at hat; cases hat
          · rw [h1] at hat
            by_cases hp : posP S (S.getD k []) k = []
            · rw [if_pos hp] at hat; cases hat
            · rw [if_neg hp] at hat
              injection hat with hat
              exact (lits_inj hat).symm
        unfold gP
        rw [← hzs, ← (hoi.appended hown' (WalkArith.wf_i64 (by omega))).datum_pos (by simp)]
        exact hown2
      case measure => simp [intOf]; omega
    · have : k = len := by omega
      subst this
      go_ret
      exact ⟨rfl, hown, hnx⟩
def domP (S : List (List UInt8)) : MK → Bool
  | .s s => S.contains s
  | _ => false
def lenP (S : List (List UInt8)) : MK → Nat
  | .s s => (posP S s S.length).length
  | _ => 0
def colP (S : List (List UInt8)) : MK → List Col
  | .s s => [.i .i64 fun i => (((posP S s S.length).getD i 0 : Nat) : Int)]
  | _ => []
def mapPl (S : List (List UInt8)) : Option ABlk := some (.map .s (domP S) (.l (fun _ => false) (lenP S) (colP S)))
theorem posP_none {S : List (List UInt8)} {s : List UInt8} (h : S.contains s = false) : posP S s S.length = [] := by
  unfold posP
  rw [List.filter_eq_nil_iff]
  intro j hj
  have hj := List.mem_range.1 hj
  intro e
  have : s ∈ S := by
    rw [← beq_iff_eq.1 e, List.getD_eq_getElem?_getD, List.getElem?_eq_getElem hj]
    exact List.getElem_mem _
  rw [← List.contains_iff_mem] at this
  rw [h] at this; cases this
theorem posP_some {S : List (List UInt8)} {s : List UInt8} (h : S.contains s = true) : posP S s S.length ≠ [] := by
  intro e
  obtain ⟨j, hj, rfl⟩ := List.getElem_of_mem (List.contains_iff_mem.1 h)
  have : j ∈ posP S S[j] S.length := posP_mem.2 ⟨hj, by rw [List.getD_eq_getElem?_getD, List.getElem?_eq_getElem hj]; rfl⟩
  rw [e] at this; cases this
theorem ints_col {w : World} {base : Nat} {v : Value} {zs : List Int} {l : List Nat} {Z : Nat → Prop} (h : w.ownsInts base 3 .i64 v zs) (hz : zs = l.map fun j : Nat => (j : Int)) (hne : l ≠ []) (hZ : ∀ b, base ≤ b → ¬ Z b) :
    ColRep Z w (.l (fun _ => false) (fun _ => l.length) (fun _ => [.i .i64 fun i => ((l.getD i 0 : Nat) : Int)])) 0 v := by
  have hl : zs.length = l.length := by rw [hz, List.length_map]
  rcases h.1.2 with ⟨rfl, h0⟩ | ⟨g, cap, cur, rfl, hg, hb, hn, hcap, hsz, htake⟩
  · have : l.length = 0 := by omega
    exact absurd (List.eq_nil_of_length_eq_zero this) hne
  · rw [hl]
    refine .l (fun j _ => .int .i64 ((l.getD j 0 : Nat) : Int)) rfl (fun h => (by cases h)) (by omega) (fun j m hj hm => ?_) (fun j m c hj hc => ?_)
    · simp only [List.length_cons, List.length_nil] at hm
      obtain rfl : m = 0 := by omega
      refine ⟨g, 0, rfl, hZ g hg, ?_⟩
      have hc := h.1.cellAt j (by omega)
      show w.cell? ⟨g, 0 + (j * 1 + 0), none⟩ = _
      rw [show 0 + (j * 1 + 0) = j by omega]
      rw [hc, hz]
      simp [List.getD_eq_getElem?_getD, hj]
    · rcases m with _ | m
      · simp only [List.getElem?_cons_zero, Option.some.injEq] at hc
        subst hc
        exact .i
      · simp at hc
theorem placesM_c (nl : Bool) (S : List (List UInt8)) (nid : Nat) (hl : S.length ≤ 100000) (hS : ShortRows 1000000 S) : ACall Tryd.prog 74 [litS nl S] [] nid (.mp nid) [(nid, mapPl S)] := by
  refine acall_mapL .s (domP S) (fun _ => false) (lenP S) (colP S) nid Tryd.func74 (by kernel_rfl) (by kernel_rfl) (fun Y m w vs hlen hrep hGW hY => ?_)
  obtain ⟨v, rfl⟩ : ∃ v, vs = [v] := by
    rcases vs with _ | ⟨v, _ | ⟨u, l⟩⟩
    · simp at hlen
    · exact ⟨v, rfl⟩
    · simp at hlen
  have hv := hrep 0 _ v rfl rfl
  unfold litS at hv
  obtain ⟨A, cap, rfl, hcap, hcells⟩ := hv.strs_inv
  have fin : ∀ e w', (e = Ending.returned (.map (some w.heap.size)) ∧ w'.ownsGroups (H := Unit) Tryd.prog 9 (w.heap.size + 1) 3 .i64 w.heap.size S.length (gP S S.length) ∧ Below w.heap.size w w') →
      ∃ (mb : Nat) (es : Array MapEntry) (clk : Nat), e = .returned (.map (some mb)) ∧ w.heap.size ≤ mb ∧ w'.heap[mb]? = some (.map es clk) ∧
        ((∀ x ∈ es.toList, ∃ q, keyG .s q = true ∧ x.key = keyV .s q) ∧ (es.toList.map (·.key)).Nodup) ∧
        (∀ q, keyG .s q = true → (domP S q = true → ∃ x ∈ es.toList, x.key = keyV .s q ∧ ColRep (fun b => b < w.heap.size ∨ b = mb) w' (.l (fun _ => false) (fun _ => lenP S q) (fun _ => colP S q)) 0 x.val) ∧ (domP S q = false → ∀ x ∈ es.toList, x.key ≠ keyV .s q)) ∧
        Below w.heap.size w w' := by
    rintro e w' ⟨he, ⟨es, clk, hblk, F, hes, hD, hbb, hlenx, hap⟩, hB⟩
    refine ⟨w.heap.size, es, clk, he, Nat.le_refl _, hblk, ⟨fun x hx => ?_, F.stamped.2.2⟩, fun q hq => ?_, hB⟩
    · obtain ⟨l, hk⟩ := F.keys x hx
      obtain ⟨s, hs, hl', _⟩ := string_of_keyOf keyT_s hk
      exact ⟨.s s.data.toList, rfl, by rw [hs]; rfl⟩
    · cases q with
      | i n => cases hq
      | p a b => cases hq
      | s s =>
        have hkv : keyV .s (.s s) = .string ⟨s.toArray⟩ := rfl
        by_cases hsl : s.length ≤ maxLen
        · have hkey : keyOf Tryd.prog 9 (.string ⟨s.toArray⟩) = some (.string s) := by
            have h := keyOf_string_mk (P := Tryd.prog) (k := 9) keyT_s (s := ⟨s.toArray⟩) (by show s.toArray.size ≤ _; rw [List.size_toArray]; exact hsl)
            simpa using h
          have hgp := fun zd => gP_at S s zd S.length
          rcases Maps.fit_look false lawS Tryd.underlying92 (zeroSl w') hblk F hkey with ⟨_, hno, hat⟩ | ⟨e0, y, hm0, h3, _, hR, hat, _⟩
          · rw [← hD] at hat
            have hp : posP S s S.length = [] := by
              refine Classical.byContradiction fun hp => ?_
              have h1 := hgp .nil
              rw [hat, if_neg hp] at h1
              cases h1
            refine ⟨fun hd => absurd hp (posP_some hd), fun _ => hno⟩
          · rw [← hD] at hat
            obtain ⟨zs, ho, rfl⟩ := rowElem_inv hR
            have hp : posP S s S.length ≠ [] := by
              intro hp
              have h1 := hat .nil
              have h2 := hat (.map [])
              rw [hgp, if_pos hp] at h1 h2
              rw [← h1] at h2
              cases h2
            have hz : zs = posZ S s S.length := by
              have h1 := hat .nil
              rw [hgp, if_neg hp] at h1
              rcases ho.datum (H := Unit) with ⟨h2, _⟩ | h2
              · simp only [h2] at h1; cases h1
              · simp only [h2] at h1
                injection h1 with h1
                exact (lits_inj h1).symm
            refine ⟨fun _ => ⟨e0, hm0, h3, ints_col ho hz hp (fun b hb hx => by rcases hx with hx | hx <;> omega)⟩, fun hd => absurd (posP_none hd) hp⟩
        · refine ⟨fun hd => ?_, fun _ x hx e => ?_⟩
          · obtain ⟨j, hj, e⟩ := List.getElem_of_mem (List.contains_iff_mem.1 (show S.contains s = true from hd))
            have := hS _ (List.getElem_mem hj)
            rw [e] at this
            unfold maxLen at hsl
            omega
          · obtain ⟨l, hk⟩ := F.keys x hx
            obtain ⟨s', hs, _, hs2⟩ := string_of_keyOf keyT_s hk
            have e2 := hs.symm.trans (e.trans hkv)
            injection e2 with e2
            subst e2
            have : s.toArray.size ≤ maxLen := hs2
            rw [List.size_toArray] at this
            exact hsl this
  rcases Nat.eq_zero_or_pos S.length with h0 | h0
  · rw [h0] at fin ⊢
    exact (places_none A cap w).mono fun e w' h => fin e w' h
  · obtain ⟨b, o, rfl, hb, hc⟩ := hcells h0
    exact (places_any b o S.length cap S w (by omega) hb hc hS).mono fun e w' h => fin e w' h
end Go.Proofs.YthcldfmlfjomfaaDoor
namespace Go.Proofs.YthcldfmlfjomfaaDoor
open Go.RowKit
end Go.Proofs.YthcldfmlfjomfaaDoor
namespace Go.Proofs.YthcldfmlfjomfaaDoor
open Go.RowKit Go.Lib
end Go.Proofs.YthcldfmlfjomfaaDoor
namespace Go.Proofs.YthcldfmlfjomfaaDoor
open Go.RowKit
end Go.Proofs.YthcldfmlfjomfaaDoor
namespace Go.Proofs.YthcldfmlfjomfaaDoor
open Go.RowKit Go.Lib
def litQ (nl : Bool) (l : List Nat) : PV := .lit nl l.length [.i .i64 fun k => ((l.getD k 0 : Nat) : Int)]
def arrQ (l : List Nat) : Option ABlk := some (.arr 3 l.length [.i .i64 fun k => ((l.getD k 0 : Nat) : Int)])
theorem getD_appQ (l : List Nat) (x : Nat) : (fun i => if i < l.length then ((l.getD i 0 : Nat) : Int) else [((x : Nat) : Int)].getD (i - l.length) 0) = fun i => (((l ++ [x]).getD i 0 : Nat) : Int) := by
  funext i
  simp only [List.getD_eq_getElem?_getD, List.getElem?_append]
  by_cases h : i < l.length
  · rw [if_pos h, if_pos h]
  · rw [if_neg h, if_neg h]
    rcases hk : i - l.length with _ | k
    · rfl
    · simp
end Go.Proofs.YthcldfmlfjomfaaDoor
namespace Go.Proofs.YthcldfmlfjomfaaDoor
open Go.RowKit Go.Lib
def noB (_ : Nat) : Bool := false
def colQ (gs : List (List Nat)) : List Col := [.l noB (fun k => (gs.getD k []).length) (fun k => [.i .i64 fun j => (((gs.getD k []).getD j 0 : Nat) : Int)])]
def arrEq (gs : List (List Nat)) : Option ABlk := some (.arr 22 gs.length (colQ gs))
def litEq (nl : Bool) (gs : List (List Nat)) : PV := .lit nl gs.length (colQ gs)
theorem colQ_app (gs : List (List Nat)) (g : List Nat) (a2 : Nat → Bool) (l2 : Nat → Nat) (c2 : Nat → List Col) (ha : a2 0 = false) (hl : l2 0 = g.length) (hc : c2 0 = [.i .i64 fun j => ((g.getD j 0 : Nat) : Int)]) : ColEq (gs.length + 1) (.l (fun i => if i < gs.length then noB i else a2 (i - gs.length)) (fun i => if i < gs.length then (gs.getD i []).length else l2 (i - gs.length)) (fun i => if i < gs.length then [.i .i64 fun j => (((gs.getD i []).getD j 0 : Nat) : Int)] else c2 (i - gs.length)))
    (.l noB (fun k => ((gs ++ [g]).getD k []).length) (fun k => [.i .i64 fun j => ((((gs ++ [g]).getD k []).getD j 0 : Nat) : Int)])) := by
  refine ColEq.l fun i hi => ?_
  by_cases h : i < gs.length
  · have e : (gs ++ [g]).getD i [] = gs.getD i [] := by rw [List.getD_eq_getElem?_getD, List.getElem?_append_left h, ← List.getD_eq_getElem?_getD]
    rw [e, if_pos h, if_pos h, if_pos h]
    exact ⟨rfl, rfl, ColsEq.refl _ _⟩
  · have h0 : i - gs.length = 0 := by omega
    have e : (gs ++ [g]).getD i [] = g := by
      rw [List.getD_eq_getElem?_getD, List.getElem?_append_right (by omega), h0]
      rfl
    rw [e, if_neg h, if_neg h, if_neg h, h0, ha, hl, hc]
    exact ⟨rfl, rfl, ColsEq.refl _ _⟩
end Go.Proofs.YthcldfmlfjomfaaDoor
namespace Go.Proofs.YthcldfmlfjomfaaDoor
open Go.RowKit Go.Lib
end Go.Proofs.YthcldfmlfjomfaaDoor
namespace Go.Proofs.YthcldfmlfjomfaaDoor
open Go.RowKit Go.Lib
def intsO (l : List Nat) : List Int := l.map fun i : Nat => (i : Int)
end Go.Proofs.YthcldfmlfjomfaaDoor
namespace Go.Proofs.YthcldfmlfjomfaaDoor
open Go.RowKit Go.Lib
theorem getD_appS1 (l : List (List UInt8)) (x : List UInt8) : (fun i => if i < l.length then l.getD i [] else [x].getD (i - l.length) []) = fun i => (l ++ [x]).getD i [] := by
  funext i
  rw [List.getD_eq_getElem?_getD, List.getD_eq_getElem?_getD, List.getD_eq_getElem?_getD, List.getElem?_append]
  split <;> rfl
theorem inOrd_len (v : List (List UInt8)) (o : List Nat) : (inOrd v o).length = o.length := by simp [inOrd]
theorem inOrd_snoc (v : List (List UInt8)) {o : List Nat} {k : Nat} (h : k < o.length) : inOrd v (o.take (k + 1)) = inOrd v (o.take k) ++ [v.getD (o.getD k 0) []] := by
  unfold inOrd
  rw [List.take_add_one, List.map_append, List.getElem?_eq_getElem h]
  simp [h]
set_option maxHeartbeats 4000000 in
theorem someO_c (nl nl2 : Bool) (v : List (List UInt8)) (o : List Nat) (nid : Nat) (hv : v.length ≤ 1000) (ho : ∀ x ∈ o, x < v.length) (hol : o.length ≤ 1000) : ACall Tryd.prog 52 [litS nl v, litI nl2 (intsO o)] [] nid (.tup [.sl nid 0 o.length, .bool true]) [(nid, arrS (inOrd v o))] := by
  have hil : (intsO o).length = o.length := by unfold intsO; rw [List.length_map]
  have hig : ∀ k, k < o.length → (intsO o).getD k 0 = ((o.getD k 0 : Nat) : Int) := fun k hk => by
    unfold intsO
    rw [List.getD_eq_getElem?_getD, List.getElem?_map, List.getElem?_eq_getElem hk]
    simp [hk]
  refine acall_run c52 (by simp [a52]) ?_
  unfold litS litI
  rw [hil]
  simp -dsimp only [aqT, aqU, aqN, aqS, ↓seqK, ↓blkK, ↓loopK, step, stepBin, Nat.add_assoc nid, ↓reduceIte, Option.toList, ← Int.ofNat_tmod, ← Int.ofNat_tdiv, simprocAttr, BEq.rfl, LN_succ, a52]
  refine LP.mkP (fun k : Nat => k ≤ o.length) (fun k : Nat => ⟨[(11, .int .i64 k), (10, .int .i64 o.length), (9, .lit nl2 o.length [.i .i64 fun i => (intsO o).getD i 0]), (6, .sl (nid + 8) 0 k), (0, litS nl v)], [(nid + 8, arrS (inOrd v (o.take k)))], nid + 100, nid⟩) (fun k => o.length + 1 - k) 0 (by omega) (Cov.go [] [(nid + 8, 1)] ?_) (fun k hk => ?_)
  · unfold litS arrS
    simp [cvT, step, res, inOrd, ColsEq.refl, -List.getD_eq_getElem?_getD]
  have htl : (inOrd v (o.take k)).length = k := by rw [inOrd_len, List.length_take]; omega
  unfold litS arrS
  simp -dsimp only [aqT, aqU, aqN, aqS, ↓seqK, ↓blkK, ↓loopK, step, stepBin, Nat.add_assoc nid, ↓reduceIte, Option.toList, ← Int.ofNat_tmod, ← Int.ofNat_tdiv, simprocAttr, BEq.rfl, LN_succ, htl]
  refine S2.dec (fun h3 => ?_) (fun h3 => ?_) <;> simp -dsimp only [aqT, aqU, aqN, aqS, ↓seqK, ↓blkK, ↓loopK, step, stepBin, Nat.add_assoc nid, ↓reduceIte, Option.toList, ← Int.ofNat_tmod, ← Int.ofNat_tdiv, simprocAttr, BEq.rfl, LN_succ]
  · have hkl : k < o.length := by omega
    rw [hig k hkl]
    have hx := ho (o.getD k 0) (by rw [List.getD_eq_getElem?_getD, List.getElem?_eq_getElem hkl]; exact List.getElem_mem _)
    have hsn := inOrd_snoc v hkl
    generalize o.getD k 0 = x at *
    refine ⟨⟨by omega, by omega⟩, ?_⟩
    refine S2.dec (fun h4 => absurd h4 (by omega)) (fun h4 => ?_) <;> simp -dsimp only [aqT, aqU, aqN, aqS, ↓seqK, ↓blkK, ↓loopK, step, stepBin, Nat.add_assoc nid, ↓reduceIte, Option.toList, ← Int.ofNat_tmod, ← Int.ofNat_tdiv, simprocAttr, BEq.rfl, LN_succ]
    refine S2.dec (fun h5 => absurd h5 (by omega)) (fun h5 => ?_) <;> simp -dsimp only [aqT, aqU, aqN, aqS, ↓seqK, ↓blkK, ↓loopK, step, stepBin, Nat.add_assoc nid, ↓reduceIte, Option.toList, ← Int.ofNat_tmod, ← Int.ofNat_tdiv, simprocAttr, BEq.rfl, LN_succ]
    refine ⟨⟨by omega, by omega⟩, ?_⟩
    have happ : (fun i => if i < k then (inOrd v (o.take k)).getD i [] else [v.getD x []].getD (i - k) []) = fun i => (inOrd v (o.take (k + 1))).getD i [] := by
      rw [hsn]
      have := getD_appS1 (inOrd v (o.take k)) (v.getD x [])
      rw [htl] at this
      exact this
    rw [happ]
    have htl2 : (inOrd v (o.take (k + 1))).length = k + 1 := by rw [inOrd_len, List.length_take]; omega
    refine ⟨by omega, by unfold inI64; omega, k + 1, ⟨by omega, by omega⟩, Cov.go [(nid + 8, nid + 172)] [] ?_⟩
    simp [cvT, step, res, htl2, arrS, ColsEq.refl, -List.getD_eq_getElem?_getD]
  · obtain rfl : k = o.length := by omega
    rw [List.take_length] at htl ⊢
    refine RetOK.go [(nid, nid + 8)] [] (.inl rfl) ?_
    simp [a52, cvT, step, res, arrS, htl, ColsEq.refl, -List.getD_eq_getElem?_getD]
end Go.Proofs.YthcldfmlfjomfaaDoor
namespace Go.Proofs.YthcldfmlfjomfaaDoor
open Go.RowKit Go.Lib
end Go.Proofs.YthcldfmlfjomfaaDoor
namespace Go.Proofs.YthcldfmlfjomfaaDoor
open Go.RowKit Go.Lib
end Go.Proofs.YthcldfmlfjomfaaDoor
namespace Go.Proofs.YthcldfmlfjomfaaDoor
open Go.RowKit Go.Lib
theorem intsQ_at (l : List Nat) : (fun j => (intsO l).getD j 0) = fun j => ((l.getD j 0 : Nat) : Int) := by
  funext j
  unfold intsO
  rw [List.getD_eq_getElem?_getD, List.getD_eq_getElem?_getD, List.getElem?_map]
  cases l[j]? <;> rfl
theorem intsQ_len (l : List Nat) : (intsO l).length = l.length := by unfold intsO; rw [List.length_map]
theorem intsQ_eq (l m : List Nat) : (intsO l == intsO m) = (l == m) := by
  rw [Bool.eq_iff_iff, beq_iff_eq, beq_iff_eq]
  unfold intsO
  exact List.map_inj_right (fun x y h => by injection h)
theorem litQ_int (nl : Bool) (l : List Nat) : litI nl (intsO l) = litQ nl l := by
  unfold litI litQ
  rw [intsQ_len, intsQ_at]
theorem equalQ_c (nl nl' : Bool) (l m : List Nat) (nid : Nat) (hl : l.length ≤ 1000000) (hm : m.length ≤ 1000000) : ACall Tryd.prog 47 [litQ nl l, litQ nl' m] [] nid (.bool (l == m)) [] := by
  have h := equalI_c nl nl' (intsO l) (intsO m) nid (by rw [intsQ_len]; omega) (by rw [intsQ_len]; omega)
  rw [litQ_int, litQ_int, intsQ_eq] at h
  exact h
theorem take_eqQ {l m : List (List Nat)} {k : Nat} (hl : k < l.length) (hm : k < m.length) (h : l.take k = m.take k) (hx : l.getD k [] = m.getD k []) : l.take (k + 1) = m.take (k + 1) := by
  rw [take_snoc (x := l.getD k []) (by rw [List.getD_eq_getElem?_getD, List.getElem?_eq_getElem hl]; rfl), take_snoc (x := m.getD k []) (by rw [List.getD_eq_getElem?_getD, List.getElem?_eq_getElem hm]; rfl), h, hx]
set_option maxHeartbeats 4000000 in
theorem equalEq_c (nl nl' : Bool) (l m : List (List Nat)) (nid : Nat) (hl : l.length ≤ 1000000) (hm : m.length ≤ 1000000) (hls : ∀ k, (l.getD k []).length ≤ 1000000) (hms : ∀ k, (m.getD k []).length ≤ 1000000) : ACall Tryd.prog 54 [litEq nl l, litEq nl' m, .fn 47 []] [] nid (.bool (l == m)) [] := by
  refine acall_run c54 (by simp [a54]) ?_
  unfold litEq colQ
  simp -dsimp only [aqT, aqU, aqN, aqS, ↓seqK, ↓blkK, ↓loopK, step, stepBin, Nat.add_assoc nid, ↓reduceIte, Option.toList, ← Int.ofNat_tmod, ← Int.ofNat_tdiv, simprocAttr, BEq.rfl, LN_succ, a54]
  refine S2.intro (fun h => ?_) (fun h => ?_) <;> simp -dsimp only [aqT, aqU, aqN, aqS, ↓seqK, ↓blkK, ↓loopK, step, stepBin, Nat.add_assoc nid, ↓reduceIte, Option.toList, ← Int.ofNat_tmod, ← Int.ofNat_tdiv, simprocAttr, BEq.rfl, LN_succ]
  · refine RetOK.pure (.inl rfl) rfl ?_
    have h1 : l ≠ m := fun e => by subst e; simp at h
    have h2 : (l == m) = false := by simpa using h1
    simp [cvT, step, res, h1]
  have hlm : l.length = m.length := by have : (l.length : Int) = m.length := by simpa using h
                                       omega
  refine LP.mkP (fun k : Nat => k ≤ l.length ∧ l.take k = m.take k) (fun k : Nat => ⟨[(17, .int .i64 k), (16, .int .i64 l.length), (15, litEq nl l), (0, litEq nl l), (1, litEq nl' m), (2, .fn 47 [])], [], nid + 100, nid⟩) (fun k => l.length + 1 - k) 0 ⟨by omega, rfl⟩ (Cov.go [] [] ?_) (fun k hk => ?_)
  · simp [cvT, step, res, litEq, colQ, ColsEq.refl, -List.getD_eq_getElem?_getD]
  unfold litEq colQ
  obtain ⟨hk, ht⟩ := hk
  simp -dsimp only [aqT, aqU, aqN, aqS, ↓seqK, ↓blkK, ↓loopK, step, stepBin, Nat.add_assoc nid, ↓reduceIte, Option.toList, ← Int.ofNat_tmod, ← Int.ofNat_tdiv, simprocAttr, BEq.rfl, LN_succ]
  refine S2.dec (fun h3 => ?_) (fun h3 => ?_) <;> simp -dsimp only [aqT, aqU, aqN, aqS, ↓seqK, ↓blkK, ↓loopK, step, stepBin, Nat.add_assoc nid, ↓reduceIte, Option.toList, ← Int.ofNat_tmod, ← Int.ofNat_tdiv, simprocAttr, BEq.rfl, LN_succ]
  · have hkl : k < l.length := by omega
    have hstep := fun hx => take_eqQ (l := l) (m := m) hkl (by omega) ht hx
    have hne : l.getD k [] ≠ m.getD k [] → l ≠ m := fun hd e => hd (by rw [e])
    have hc := fun nid => equalQ_c (noB k) (noB k) (l.getD k []) (m.getD k []) nid (hls k) (hms k)
    unfold litQ at hc
    refine ⟨⟨by omega, by omega⟩, ⟨by omega, by omega⟩, CallO.pure (hc _) ?_⟩
    generalize l.getD k [] = a at *
    generalize m.getD k [] = b at *
    simp -dsimp only [aqT, aqU, aqN, aqS, ↓seqK, ↓blkK, ↓loopK, step, stepBin, Nat.add_assoc nid, ↓reduceIte, Option.toList, ← Int.ofNat_tmod, ← Int.ofNat_tdiv, simprocAttr, BEq.rfl, LN_succ]
    cases hab : (a == b) <;> simp -dsimp only [aqT, aqU, aqN, aqS, ↓seqK, ↓blkK, ↓loopK, step, stepBin, Nat.add_assoc nid, ↓reduceIte, Option.toList, ← Int.ofNat_tmod, ← Int.ofNat_tdiv, simprocAttr, BEq.rfl, LN_succ, Bool.not_true, Bool.not_false]
    · have h1 : l ≠ m := hne (by simpa using hab)
      refine RetOK.pure (.inl rfl) rfl ?_
      simp [cvT, step, res, h1]
    · have h5 : a = b := by simpa using hab
      refine ⟨by unfold inI64; omega, k + 1, ⟨⟨by omega, hstep h5⟩, by omega⟩, Cov.go [] [] ?_⟩
      simp [cvT, step, res, litEq, colQ, ColsEq.refl, -List.getD_eq_getElem?_getD]
  · have hke : k = l.length := by omega
    subst hke
    have h1 : l = m := by
      rw [List.take_of_length_le (Nat.le_refl _), List.take_of_length_le (by omega)] at ht
      exact ht
    refine RetOK.pure (.inl rfl) rfl ?_
    simp [cvT, step, res, h1]
end Go.Proofs.YthcldfmlfjomfaaDoor
