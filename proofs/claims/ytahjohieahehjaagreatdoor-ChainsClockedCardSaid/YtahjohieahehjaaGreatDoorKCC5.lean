/-
 DERIVED: THE SHELF's CONTRACTS AT THIS DUMP,IN PLAIN WORDS (tools/lay-plain.mjs out of 'ZzShelf.lean',which tools/lay-shelf.mjs wrote): THE SAME DECLARATIONS UNDER THE SAME NAMES: 'import','namespace','open','def','theorem' AND NOTHING ELSE: no command of the shelf's: FOR A HAND-IN. Each laying: the table of numbers ('.._ren') and one theorem,a field a fact of the dump's own or the kernel's comparison; each contract: ONE APPLICATION.
-/
import Derived.Test.YtahjohieahehjaaGreatDoorKCC4
import Derived.Test.YtahjohieahehjaaGreatDoorProg
import Derived.Ground.NamesProg
import Derived.Shelf.Strings.SlTrimAscii
import Derived.Shelf.Strings.Repeat
import Derived.Shelf.Strings.Search3
import Derived.Shelf.Strconv.Itoa3
import Derived.Shelf.Strings.Split
import Derived.Shelf.Strings.Cut
import Derived.Shelf.Strings.OnBuilder
import Derived.Shelf.Strings.Builder1
import Derived.Shelf.Strconv.Atoi
import Derived.Shelf.Spec.TrailingZeros
import Derived.Test.YtahjohieahehjaaGreatDoorKCC3
import Derived.WalkKit
import Derived.Lib.Agree
import Derived.Test.YtahjohieahehjaaGreatDoorKCC1
import Derived.Lib.Bytealg
import Derived.Laws.Externs
set_option linter.unusedVariables false
set_option linter.unusedSimpArgs false
set_option maxRecDepth 100000
namespace Go.Proofs
open Go.Shelf
def Tryz.lays160_ren:Go.Shelf.Ren:=⟨fun | 160=>113 | 232=>161 | 231=>160 | 227=>162 | 234=>164 | 233=>163 | 236=>166 | 235=>165 | 228=>200 | 271=>203 | 151=>202 | 197=>201 | 120=>220 | 152=>219 | 260=>218 | 137=>116 | 119=>230 | 224=>176 | 225=>175 | 217=>169 | 266=>204 | n=>n,fun | 9=>9 | 4=>4 | 3=>3 | 5=>5 | 117=>195 | 116=>194 | 0=>0 | 124=>198 | 21=>21 | 105=>217 | 46=>124 | 119=>236 | 139=>239 | 138=>238 | n=>n,fun | 3=>4 | 4=>5 | n=>n⟩
theorem Tryz.lays160:Go.Proofs.Lays.n160 Tryz.prog Tryz.lays160_ren:={
 mixed:=by kernel_rfl
 f119:=Tryz.func230.trans (congrArg some (by kernel_rfl))
 f120:=Tryz.func220.trans (congrArg some (by kernel_rfl))
 f137:=Tryz.func116.trans (congrArg some (by kernel_rfl))
 f151:=Tryz.func202.trans (congrArg some (by kernel_rfl))
 f152:=Tryz.func219.trans (congrArg some (by kernel_rfl))
 f160:=Tryz.func113.trans (congrArg some (by kernel_rfl))
 f197:=Tryz.func201.trans (congrArg some (by kernel_rfl))
 f217:=Tryz.func169.trans (congrArg some (by kernel_rfl))
 f224:=Tryz.func176.trans (congrArg some (by kernel_rfl))
 f225:=Tryz.func175.trans (congrArg some (by kernel_rfl))
 f227:=Tryz.func162.trans (congrArg some (by kernel_rfl))
 f228:=Tryz.func200.trans (congrArg some (by kernel_rfl))
 f231:=Tryz.func160.trans (congrArg some (by kernel_rfl))
 f232:=Tryz.func161.trans (congrArg some (by kernel_rfl))
 f233:=Tryz.func163.trans (congrArg some (by kernel_rfl))
 f234:=Tryz.func164.trans (congrArg some (by kernel_rfl))
 f235:=Tryz.func165.trans (congrArg some (by kernel_rfl))
 f236:=Tryz.func166.trans (congrArg some (by kernel_rfl))
 f260:=Tryz.func218.trans (congrArg some (by kernel_rfl))
 f266:=Tryz.func204.trans (congrArg some (by kernel_rfl))
 f271:=Tryz.func203.trans (congrArg some (by kernel_rfl))
 t0:=Tryz.underlying0
 a0:=Tryz.isAgg0
 z0:=Tryz.sizeOf0
 v0:=Tryz.zeroValue0
 t3:=Tryz.underlying3
 a3:=Tryz.isAgg3
 z3:=Tryz.sizeOf3
 v3:=Tryz.zeroValue3
 t4:=Tryz.underlying4
 a4:=Tryz.isAgg4
 z4:=Tryz.sizeOf4
 v4:=Tryz.zeroValue4
 t5:=Tryz.underlying5
 a5:=Tryz.isAgg5
 z5:=Tryz.sizeOf5
 v5:=Tryz.zeroValue5
 t9:=Tryz.underlying9
 a9:=Tryz.isAgg9
 z9:=Tryz.sizeOf9
 v9:=Tryz.zeroValue9
 t21:=Tryz.underlying21
 a21:=Tryz.isAgg21
 z21:=Tryz.sizeOf21
 v21:=Tryz.zeroValue21
 t46:=Tryz.underlying124
 a46:=Tryz.isAgg124
 z46:=Tryz.sizeOf124
 v46:=Tryz.zeroValue124
 t105:=Tryz.underlying217
 a105:=Tryz.isAgg217
 z105:=Tryz.sizeOf217
 v105:=Tryz.zeroValue217
 t116:=Tryz.underlying194
 a116:=Tryz.isAgg194
 z116:=Tryz.sizeOf194
 t117:=Tryz.underlying195
 a117:=Tryz.isAgg195
 z117:=Tryz.sizeOf195
 v117:=Tryz.zeroValue195
 t119:=Tryz.underlying236
 a119:=Tryz.isAgg236
 z119:=Tryz.sizeOf236
 t124:=Tryz.underlying198
 a124:=Tryz.isAgg198
 z124:=Tryz.sizeOf198
 v124:=Tryz.zeroValue198
 t138:=Tryz.underlying238
 a138:=Tryz.isAgg238
 z138:=Tryz.sizeOf238
 v138:=Tryz.zeroValue238
 t139:=Tryz.underlying239
 a139:=Tryz.isAgg239
 z139:=Tryz.sizeOf239
 v139:=Tryz.zeroValue239
 g3:=by kernel_rfl
 g4:=by kernel_rfl }
def Tryz.lays105_ren:Go.Shelf.Ren:=⟨fun | 105=>41 | 212=>90 | 99=>71 | 165=>91 | 166=>92 | 170=>93 | 169=>94 | 263=>137 | 264=>138 | 206=>121 | 240=>139 | 241=>140 | 276=>184 | 277=>185 | n=>n,fun | 9=>9 | 3=>3 | 4=>4 | 20=>20 | 0=>0 | 46=>124 | 109=>125 | 5=>5 | 72=>129 | 76=>132 | 51=>168 | 146=>169 | 53=>171 | 148=>172 | 70=>127 | 37=>87 | 75=>131 | 127=>174 | 164=>209 | 80=>37 | n=>n,fun | n=>n⟩
theorem Tryz.lays105:Go.Proofs.Lays.n105 Tryz.prog Tryz.lays105_ren:={
 mixed:=by kernel_rfl
 f99:=Tryz.func71.trans (congrArg some (by kernel_rfl))
 f105:=Tryz.func41.trans (congrArg some (by kernel_rfl))
 f165:=Tryz.func91.trans (congrArg some (by kernel_rfl))
 f166:=Tryz.func92.trans (congrArg some (by kernel_rfl))
 f169:=Tryz.func94.trans (congrArg some (by kernel_rfl))
 f170:=Tryz.func93.trans (congrArg some (by kernel_rfl))
 f206:=Tryz.func121.trans (congrArg some (by kernel_rfl))
 f212:=Tryz.func90.trans (congrArg some (by kernel_rfl))
 f240:=Tryz.func139.trans (congrArg some (by kernel_rfl))
 f241:=Tryz.func140.trans (congrArg some (by kernel_rfl))
 f263:=Tryz.func137.trans (congrArg some (by kernel_rfl))
 f264:=Tryz.func138.trans (congrArg some (by kernel_rfl))
 f276:=Tryz.func184.trans (congrArg some (by kernel_rfl))
 f277:=Tryz.func185.trans (congrArg some (by kernel_rfl))
 t0:=Tryz.underlying0
 a0:=Tryz.isAgg0
 z0:=Tryz.sizeOf0
 v0:=Tryz.zeroValue0
 t3:=Tryz.underlying3
 a3:=Tryz.isAgg3
 z3:=Tryz.sizeOf3
 v3:=Tryz.zeroValue3
 t4:=Tryz.underlying4
 a4:=Tryz.isAgg4
 z4:=Tryz.sizeOf4
 v4:=Tryz.zeroValue4
 t5:=Tryz.underlying5
 a5:=Tryz.isAgg5
 z5:=Tryz.sizeOf5
 v5:=Tryz.zeroValue5
 t9:=Tryz.underlying9
 a9:=Tryz.isAgg9
 z9:=Tryz.sizeOf9
 v9:=Tryz.zeroValue9
 t20:=Tryz.underlying20
 a20:=Tryz.isAgg20
 z20:=Tryz.sizeOf20
 v20:=Tryz.zeroValue20
 t37:=Tryz.underlying87
 a37:=Tryz.isAgg87
 z37:=Tryz.sizeOf87
 v37:=Tryz.zeroValue87
 t46:=Tryz.underlying124
 a46:=Tryz.isAgg124
 z46:=Tryz.sizeOf124
 v46:=Tryz.zeroValue124
 t51:=Tryz.underlying168
 a51:=Tryz.isAgg168
 z51:=Tryz.sizeOf168
 v51:=Tryz.zeroValue168
 t53:=Tryz.underlying171
 a53:=Tryz.isAgg171
 z53:=Tryz.sizeOf171
 v53:=Tryz.zeroValue171
 t70:=Tryz.underlying127
 a70:=Tryz.isAgg127
 z70:=Tryz.sizeOf127
 v70:=Tryz.zeroValue127
 t72:=Tryz.underlying129
 a72:=Tryz.isAgg129
 z72:=Tryz.sizeOf129
 v72:=Tryz.zeroValue129
 t75:=Tryz.underlying131
 a75:=Tryz.isAgg131
 z75:=Tryz.sizeOf131
 v75:=Tryz.zeroValue131
 t76:=Tryz.underlying132
 a76:=Tryz.isAgg132
 z76:=Tryz.sizeOf132
 v76:=Tryz.zeroValue132
 t109:=Tryz.underlying125
 a109:=Tryz.isAgg125
 z109:=Tryz.sizeOf125
 v109:=Tryz.zeroValue125
 t127:=Tryz.underlying174
 a127:=Tryz.isAgg174
 z127:=Tryz.sizeOf174
 v127:=Tryz.zeroValue174
 t146:=Tryz.underlying169
 a146:=Tryz.isAgg169
 z146:=Tryz.sizeOf169
 v146:=Tryz.zeroValue169
 t148:=Tryz.underlying172
 a148:=Tryz.isAgg172
 z148:=Tryz.sizeOf172
 v148:=Tryz.zeroValue172
 t164:=Tryz.underlying209
 a164:=Tryz.isAgg209
 z164:=Tryz.sizeOf209
 v164:=Tryz.zeroValue209 }
def Tryz.lays144_ren:Go.Shelf.Ren:=⟨fun | 144=>37 | 143=>87 | 219=>127 | 217=>169 | 225=>175 | 224=>176 | 267=>177 | 266=>204 | 314=>206 | n=>n,fun | 9=>9 | 4=>4 | 3=>3 | 5=>5 | 46=>124 | 146=>169 | 51=>168 | n=>n,fun | 1=>0 | n=>n⟩
theorem Tryz.lays144:Go.Proofs.Lays.n144 Tryz.prog Tryz.lays144_ren:={
 mixed:=by kernel_rfl
 f143:=Tryz.func87.trans (congrArg some (by kernel_rfl))
 f144:=Tryz.func37.trans (congrArg some (by kernel_rfl))
 f217:=Tryz.func169.trans (congrArg some (by kernel_rfl))
 f219:=Tryz.func127.trans (congrArg some (by kernel_rfl))
 f224:=Tryz.func176.trans (congrArg some (by kernel_rfl))
 f225:=Tryz.func175.trans (congrArg some (by kernel_rfl))
 f266:=Tryz.func204.trans (congrArg some (by kernel_rfl))
 f267:=Tryz.func177.trans (congrArg some (by kernel_rfl))
 f314:=Tryz.func206.trans (congrArg some (by kernel_rfl))
 t3:=Tryz.underlying3
 a3:=Tryz.isAgg3
 z3:=Tryz.sizeOf3
 v3:=Tryz.zeroValue3
 t4:=Tryz.underlying4
 a4:=Tryz.isAgg4
 z4:=Tryz.sizeOf4
 v4:=Tryz.zeroValue4
 t5:=Tryz.underlying5
 a5:=Tryz.isAgg5
 z5:=Tryz.sizeOf5
 v5:=Tryz.zeroValue5
 t9:=Tryz.underlying9
 a9:=Tryz.isAgg9
 z9:=Tryz.sizeOf9
 v9:=Tryz.zeroValue9
 t46:=Tryz.underlying124
 a46:=Tryz.isAgg124
 z46:=Tryz.sizeOf124
 v46:=Tryz.zeroValue124
 t51:=Tryz.underlying168
 a51:=Tryz.isAgg168
 z51:=Tryz.sizeOf168
 v51:=Tryz.zeroValue168
 t146:=Tryz.underlying169
 a146:=Tryz.isAgg169
 z146:=Tryz.sizeOf169
 v146:=Tryz.zeroValue169
 g1:=by kernel_rfl }
def Tryz.lays171_ren:Go.Shelf.Ren:=⟨fun | 171=>68 | 243=>120 | 246=>111 | 283=>156 | 284=>157 | 285=>158 | 286=>159 | 129=>196 | 317=>195 | 318=>197 | 319=>198 | 320=>199 | 337=>216 | 338=>217 | n=>n,fun | 3=>3 | 9=>9 | 2=>2 | 4=>4 | 171=>187 | 0=>0 | 53=>171 | 37=>87 | 5=>5 | 173=>190 | 212=>214 | 51=>168 | 20=>20 | 213=>215 | 46=>124 | 232=>234 | 233=>235 | n=>n,fun | 17=>1 | 18=>2 | 19=>3 | n=>n⟩
theorem Tryz.lays171:Go.Proofs.Lays.n171 Tryz.prog Tryz.lays171_ren:={
 mixed:=by kernel_rfl
 f129:=Tryz.func196.trans (congrArg some (by kernel_rfl))
 f171:=Tryz.func68.trans (congrArg some (by kernel_rfl))
 f243:=Tryz.func120.trans (congrArg some (by kernel_rfl))
 f246:=Tryz.func111.trans (congrArg some (by kernel_rfl))
 f283:=Tryz.func156.trans (congrArg some (by kernel_rfl))
 f284:=Tryz.func157.trans (congrArg some (by kernel_rfl))
 f285:=Tryz.func158.trans (congrArg some (by kernel_rfl))
 f286:=Tryz.func159.trans (congrArg some (by kernel_rfl))
 f317:=Tryz.func195.trans (congrArg some (by kernel_rfl))
 f318:=Tryz.func197.trans (congrArg some (by kernel_rfl))
 f319:=Tryz.func198.trans (congrArg some (by kernel_rfl))
 f320:=Tryz.func199.trans (congrArg some (by kernel_rfl))
 f337:=Tryz.func216.trans (congrArg some (by kernel_rfl))
 f338:=Tryz.func217.trans (congrArg some (by kernel_rfl))
 t0:=Tryz.underlying0
 a0:=Tryz.isAgg0
 z0:=Tryz.sizeOf0
 v0:=Tryz.zeroValue0
 t2:=Tryz.underlying2
 a2:=Tryz.isAgg2
 z2:=Tryz.sizeOf2
 v2:=Tryz.zeroValue2
 t3:=Tryz.underlying3
 a3:=Tryz.isAgg3
 z3:=Tryz.sizeOf3
 v3:=Tryz.zeroValue3
 t4:=Tryz.underlying4
 a4:=Tryz.isAgg4
 z4:=Tryz.sizeOf4
 v4:=Tryz.zeroValue4
 t5:=Tryz.underlying5
 a5:=Tryz.isAgg5
 z5:=Tryz.sizeOf5
 v5:=Tryz.zeroValue5
 t9:=Tryz.underlying9
 a9:=Tryz.isAgg9
 z9:=Tryz.sizeOf9
 v9:=Tryz.zeroValue9
 t20:=Tryz.underlying20
 a20:=Tryz.isAgg20
 z20:=Tryz.sizeOf20
 v20:=Tryz.zeroValue20
 t37:=Tryz.underlying87
 a37:=Tryz.isAgg87
 z37:=Tryz.sizeOf87
 v37:=Tryz.zeroValue87
 t46:=Tryz.underlying124
 a46:=Tryz.isAgg124
 z46:=Tryz.sizeOf124
 v46:=Tryz.zeroValue124
 t51:=Tryz.underlying168
 a51:=Tryz.isAgg168
 z51:=Tryz.sizeOf168
 v51:=Tryz.zeroValue168
 t53:=Tryz.underlying171
 a53:=Tryz.isAgg171
 z53:=Tryz.sizeOf171
 v53:=Tryz.zeroValue171
 t171:=Tryz.underlying187
 a171:=Tryz.isAgg187
 z171:=Tryz.sizeOf187
 v171:=Tryz.zeroValue187
 t173:=Tryz.underlying190
 a173:=Tryz.isAgg190
 z173:=Tryz.sizeOf190
 v173:=Tryz.zeroValue190
 t212:=Tryz.underlying214
 a212:=Tryz.isAgg214
 z212:=Tryz.sizeOf214
 v212:=Tryz.zeroValue214
 t213:=Tryz.underlying215
 a213:=Tryz.isAgg215
 z213:=Tryz.sizeOf215
 t232:=Tryz.underlying234
 a232:=Tryz.isAgg234
 z232:=Tryz.sizeOf234
 v232:=Tryz.zeroValue234
 t233:=Tryz.underlying235
 a233:=Tryz.isAgg235
 z233:=Tryz.sizeOf235
 v233:=Tryz.zeroValue235
 g17:=by kernel_rfl
 g18:=by kernel_rfl
 g19:=by kernel_rfl }
def Tryz.lays7x29_ren:Go.Shelf.Ren:=⟨fun | 29=>217 | n=>n,fun | 22=>171 | 3=>3 | 4=>4 | 25=>124 | 54=>235 | 0=>0 | 5=>5 | n=>n,fun | 1=>3 | n=>n⟩
theorem Tryz.lays7x29:Go.Proofs.Lays7.n29 Tryz.prog Tryz.lays7x29_ren:={
 mixed:=by kernel_rfl
 f29:=Tryz.func217.trans (congrArg some (by kernel_rfl))
 t0:=Tryz.underlying0
 a0:=Tryz.isAgg0
 z0:=Tryz.sizeOf0
 v0:=Tryz.zeroValue0
 i0:=by kernel_rfl
 t3:=Tryz.underlying3
 a3:=Tryz.isAgg3
 z3:=Tryz.sizeOf3
 v3:=Tryz.zeroValue3
 i3:=by kernel_rfl
 t4:=Tryz.underlying4
 a4:=Tryz.isAgg4
 z4:=Tryz.sizeOf4
 v4:=Tryz.zeroValue4
 i4:=by kernel_rfl
 t5:=Tryz.underlying5
 a5:=Tryz.isAgg5
 z5:=Tryz.sizeOf5
 v5:=Tryz.zeroValue5
 i5:=by kernel_rfl
 t22:=Tryz.underlying171
 a22:=Tryz.isAgg171
 z22:=Tryz.sizeOf171
 v22:=Tryz.zeroValue171
 i22:=by kernel_rfl
 t25:=Tryz.underlying124
 a25:=Tryz.isAgg124
 z25:=Tryz.sizeOf124
 v25:=Tryz.zeroValue124
 i25:=by kernel_rfl
 t54:=Tryz.underlying235
 a54:=Tryz.isAgg235
 z54:=Tryz.sizeOf235
 g1:=by kernel_rfl }
end Go.Proofs
namespace Go.Proofs.YtahjohieahehjaaGreatDoor
open Go.RowKit Go.Shelf Go.Lib
theorem extra105:Builder.Extra Tryz.prog Tryz.lays105_ren where
 sizeBuilder:=by kernel_rfl
 liesBuilder:=by kernel_rfl
 t5:=Tryz.lays105.t5
 a5:=Tryz.lays105.a5
 z5:=Tryz.lays105.z5
 v5:=Tryz.lays105.v5
 infoByte:=by kernel_rfl
 cellsByte:=by kernel_rfl
 sizeByte:=by kernel_rfl
 neB5:=by decide
theorem repeat_cc (s:List UInt8) (c:Nat) (nid:Nat) (hc:c≤9223372036854775807) (hlen:s.length * c≤140737488355328):ACall Tryz.prog 41 [.str s,.int .i64 c] [] nid (.str (Lib.repeatL s c)) [] :=
 acall_below (us:=[.string ⟨s.toArray⟩,.int .i64 c]) nid Tryz.func41 (by kernel_rfl) (by kernel_rfl) rfl rfl (fun w=>by
  have h:=Any.strings_Repeat Tryz.lays105 extra105 ⟨s.toArray⟩ c w hc (by simpa [ByteArray.size] using hlen)
  have hf:Tryz.lays105_ren.f 105=41:=by kernel_rfl
  rw [hf] at h
  simpa using h)
theorem trim_cc (s cs:List UInt8) (nid:Nat) (hs:s.length≤9223372036854775807) (hcs:cs.length<4294967281) (ha:cs.all (fun b=>decide (b.toNat<128))=true):ACall Tryz.prog 113 [.str s,.str cs] [] nid (.str (Lib.trimS s cs)) [] :=
 acall_below (us:=[.string ⟨s.toArray⟩,.string ⟨cs.toArray⟩]) nid Tryz.func113 (by kernel_rfl) (by kernel_rfl) rfl rfl (fun w=>by
  have h:=Any.strings_Trim_laid Tryz.lays160 (by kernel_rfl) ⟨s.toArray⟩ ⟨cs.toArray⟩ w (by simpa [ByteArray.size] using hs) (by simpa [ByteArray.size] using hcs) (ascii_of_all (by simpa using ha))
  have hf:Tryz.lays160_ren.f 160=113:=by kernel_rfl
  rw [hf] at h
  simpa using h)
def a3 : AFn := ⟨98,[.t 2],.seq (.ops [⟨some 2,none,.mv (.c (.bool false))⟩])
 (.seq (.ops [⟨some 16,none,.mv (.t 0)⟩,⟨some 17,none,.build [(.lit true 0 []),(.int .i64 0)] [(0,1,(.t 16))]⟩,⟨some 18,none,.box 25 (.t 17)⟩,⟨some 3,none,.mv (.t 18)⟩])
 (.seq (.ops [⟨some 19,none,.mv (.t 3)⟩,⟨some 20,none,.call 11 [(.t 19),(.c (.int .i64 3))]⟩,⟨some 21,none,.mv (.t 3)⟩,⟨some 22,none,.call 12 [(.t 21),(.c (.int .i64 60))]⟩,⟨some 4,none,.mv (.t 20)⟩,⟨some 5,none,.mv (.t 22)⟩])
 (.seq (.ops [⟨some 23,none,.mv (.t 3)⟩,⟨some 24,none,.mv (.t 5)⟩,⟨some 25,none,.len true (.t 24)⟩,⟨some 26,none,.call 13 [(.t 23),(.t 25)]⟩,⟨some 6,none,.mv (.t 26)⟩])
 (.seq (.seq (.ops [⟨some 27,none,.mv (.t 3)⟩,⟨some 28,none,.call 14 [(.t 27),(.c (.int .i64 20))]⟩])
 (.cond (.t 28) (.ops [⟨some 29,none,.mv (.t 6)⟩,⟨some 30,none,.bin 1 .add (.t 29) (.c (.str [48]))⟩,⟨some 6,none,.mv (.t 30)⟩]) (.skip)))
 (.seq (.ops [⟨some 32,none,.mv (.t 4)⟩,⟨some 33,none,.mv (.t 5)⟩,⟨some 34,none,.mv (.t 6)⟩,⟨some 35,none,.call 15 [(.t 32),(.t 33),(.t 34)]⟩,⟨some 31,none,.mv (.t 35)⟩,⟨some 36,none,.ext (.t 31) 0⟩,⟨some 37,none,.ext (.t 31) 1⟩,⟨some 7,none,.mv (.t 36)⟩,⟨some 8,none,.mv (.t 37)⟩])
 (.seq (.ops [⟨some 38,none,.mv (.t 4)⟩,⟨some 39,none,.call 17 [(.t 38)]⟩,⟨some 40,none,.mv (.t 5)⟩,⟨some 41,none,.mv (.t 6)⟩,⟨some 42,none,.call 18 [(.t 40),(.t 41)]⟩,⟨some 43,none,.bslice 30 1 2 [(.int .i64 0)] [(0,1,(.t 39)),(1,1,(.t 42))]⟩,⟨some 44,none,.call 16 [(.t 43)]⟩,⟨some 9,none,.mv (.t 44)⟩])
 (.seq (.seq (.ops [⟨some 45,none,.mv (.t 8)⟩,⟨some 46,none,.mv (.t 9)⟩,⟨some 47,none,.bin 0 .neq (.t 45) (.t 46)⟩,⟨some 48,none,.mv (.t 47)⟩,⟨some 49,(some (48,false)),.mv (.t 9)⟩,⟨some 50,(some (48,false)),.bin 0 .eql (.t 49) (.c (.int .i64 0))⟩,⟨some 51,(some (48,false)),.mv (.t 50)⟩,⟨some 52,(some (51,true)),.mv (.t 7)⟩,⟨some 53,(some (51,true)),.mv (.t 4)⟩,⟨some 54,(some (51,true)),.mv (.t 5)⟩,⟨some 55,(some (51,true)),.mv (.t 6)⟩,⟨some 56,(some (51,true)),.call 19 [(.t 53),(.t 54),(.t 55)]⟩,⟨some 57,(some (51,true)),.bin 1 .neq (.t 52) (.t 56)⟩,⟨some 58,(some (48,false)),.pick (.t 51) (.t 57) (.c (.bool false))⟩,⟨some 59,none,.pick (.t 48) (.c (.bool true)) (.t 58)⟩,⟨some 60,none,.mv (.t 59)⟩,⟨some 61,(some (60,false)),.mv (.t 9)⟩,⟨some 62,(some (60,false)),.bin 0 .neq (.t 61) (.c (.int .i64 0))⟩,⟨some 63,(some (60,false)),.mv (.t 62)⟩,⟨some 64,(some (63,true)),.mv (.t 7)⟩,⟨some 65,(some (63,true)),.bin 1 .neq (.t 64) (.c (.str []))⟩,⟨some 66,(some (60,false)),.pick (.t 63) (.t 65) (.c (.bool false))⟩,⟨some 67,none,.pick (.t 60) (.c (.bool true)) (.t 66)⟩])
 (.cond (.t 67) (.seq (.ops [⟨some 2,none,.mv (.c (.bool false))⟩])
 (.ret)) (.skip)))
 (.seq (.ops [⟨some 68,none,.mv (.t 3)⟩,⟨some 69,none,.call 20 [(.t 68)]⟩,⟨some 10,none,.mv (.t 69)⟩])
 (.seq (.ops [⟨some 71,none,.mv (.t 10)⟩,⟨some 72,none,.call 21 [(.t 71)]⟩,⟨some 70,none,.mv (.t 72)⟩,⟨some 73,none,.ext (.t 70) 0⟩,⟨some 74,none,.ext (.t 70) 1⟩,⟨some 75,none,.ext (.t 70) 2⟩,⟨some 11,none,.mv (.t 73)⟩,⟨some 12,none,.mv (.t 74)⟩,⟨some 8,none,.mv (.t 75)⟩])
 (.seq (.ops [⟨some 77,none,.mv (.t 10)⟩,⟨some 78,none,.call 22 [(.t 77)]⟩,⟨some 76,none,.mv (.t 78)⟩,⟨some 79,none,.ext (.t 76) 0⟩,⟨some 80,none,.ext (.t 76) 1⟩,⟨some 81,none,.ext (.t 76) 2⟩,⟨some 13,none,.mv (.t 79)⟩,⟨some 14,none,.mv (.t 80)⟩,⟨some 15,none,.mv (.t 81)⟩])
 (.seq (.ops [⟨some 82,none,.mv (.t 8)⟩,⟨some 83,none,.mv (.t 15)⟩,⟨some 84,none,.bin 0 .eql (.t 82) (.t 83)⟩,⟨some 85,none,.mv (.t 84)⟩,⟨some 86,(some (85,true)),.mv (.t 12)⟩,⟨some 87,(some (85,true)),.mv (.t 14)⟩,⟨some 88,(some (85,true)),.bin 0 .eql (.t 86) (.t 87)⟩,⟨some 89,none,.pick (.t 85) (.t 88) (.c (.bool false))⟩,⟨some 90,none,.mv (.t 89)⟩,⟨some 91,(some (90,true)),.mv (.t 11)⟩,⟨some 92,(some (90,true)),.mv (.t 13)⟩,⟨some 93,(some (90,true)),.call 23 [(.t 91),(.t 92)]⟩,⟨some 94,none,.pick (.t 90) (.t 93) (.c (.bool false))⟩,⟨some 95,none,.mv (.t 94)⟩,⟨some 96,(some (95,true)),.call 24 []⟩,⟨some 97,none,.pick (.t 95) (.t 96) (.c (.bool false))⟩,⟨some 2,none,.mv (.t 97)⟩])
 (.ret))))))))))))⟩
theorem c3:compF Go.Proofs.Tryz.prog 3=some a3:=by kernel_rfl
def a4 : AFn := ⟨72,[.t 2],.seq (.ops [⟨some 2,none,.mv (.c (.bool false))⟩])
 (.seq (.ops [⟨some 9,none,.mv (.t 0)⟩,⟨some 10,none,.build [(.lit true 0 []),(.int .i64 0)] [(0,1,(.t 9))]⟩,⟨some 11,none,.box 25 (.t 10)⟩,⟨some 3,none,.mv (.t 11)⟩])
 (.seq (.ops [⟨some 12,none,.mv (.t 3)⟩,⟨some 13,none,.call 11 [(.t 12),(.c (.int .i64 2))]⟩,⟨some 4,none,.mv (.t 13)⟩])
 (.seq (.ops [⟨some 15,none,.mv (.t 4)⟩,⟨some 16,none,.call 25 [(.t 15)]⟩,⟨some 14,none,.mv (.t 16)⟩,⟨some 17,none,.ext (.t 14) 0⟩,⟨some 18,none,.ext (.t 14) 1⟩,⟨some 5,none,.mv (.t 17)⟩,⟨some 6,none,.mv (.t 18)⟩])
 (.seq (.seq (.ops [⟨some 19,none,.mv (.t 4)⟩,⟨some 20,none,.call 17 [(.t 19)]⟩,⟨some 7,none,.mv (.t 20)⟩])
 (.seq (.ops [⟨some 21,none,.mv (.t 7)⟩,⟨some 22,none,.bin 0 .neq (.t 21) (.c (.int .i64 0))⟩])
 (.cond (.t 22) (.seq (.ops [⟨some 23,none,.mv (.t 6)⟩,⟨some 24,none,.mv (.t 7)⟩,⟨some 25,none,.bin 0 .eql (.t 23) (.t 24)⟩,⟨some 26,none,.mv (.t 25)⟩,⟨some 27,(some (26,true)),.mv (.t 5)⟩,⟨some 28,(some (26,true)),.bin 4 .eql (.t 27) (.c .nilp)⟩,⟨some 29,none,.pick (.t 26) (.t 28) (.c (.bool false))⟩,⟨some 30,none,.mv (.t 29)⟩,⟨some 31,(some (30,true)),.call 24 []⟩,⟨some 32,none,.pick (.t 30) (.t 31) (.c (.bool false))⟩,⟨some 2,none,.mv (.t 32)⟩])
 (.ret)) (.skip))))
 (.seq (.seq (.ops [⟨some 33,none,.mv (.t 6)⟩,⟨some 34,none,.bin 0 .neq (.t 33) (.c (.int .i64 0))⟩,⟨some 35,none,.mv (.t 34)⟩,⟨some 36,(some (35,false)),.mv (.t 5)⟩,⟨some 37,(some (35,false)),.bin 4 .eql (.t 36) (.c .nilp)⟩,⟨some 38,none,.pick (.t 35) (.c (.bool true)) (.t 37)⟩])
 (.cond (.t 38) (.seq (.ops [⟨some 2,none,.mv (.c (.bool false))⟩])
 (.ret)) (.skip)))
 (.seq (.ops [⟨some 39,none,.mv (.t 4)⟩,⟨some 40,none,.call 26 [(.t 39)]⟩,⟨some 8,none,.mv (.t 40)⟩])
 (.seq (.seq (.ops [⟨some 41,none,.mv (.t 3)⟩,⟨some 42,none,.call 27 [(.t 41),(.c (.int .i64 1)),(.c (.int .i64 20))]⟩,⟨some 43,none,.mv (.c (.int .i64 0))⟩])
 (.block 0 (.loop (.seq (.ops [⟨some 44,none,.bin 0 .lss (.t 43) (.t 42)⟩])
 (.seq (.cond (.t 44) (.skip) (.exit 0))
 (.seq (.block 1 (.seq (.seq (.ops [⟨some 45,none,.mv (.t 3)⟩,⟨some 46,none,.call 14 [(.t 45),(.c (.int .i64 3))]⟩])
 (.cond (.t 46) (.seq (.seq (.ops [⟨some 47,none,.mv (.c (.int .i64 0))⟩])
 (.block 2 (.loop (.seq (.ops [⟨some 48,none,.bin 0 .lss (.t 47) (.c (.int .i64 5))⟩])
 (.seq (.cond (.t 48) (.skip) (.exit 2))
 (.seq (.block 3 (.seq (.ops [⟨some 49,none,.mv (.t 5)⟩,⟨some 50,none,.call 28 [(.t 49),(.c (.int .i64 1)),(.c (.int .i64 0))]⟩])
 (.ops [⟨some 51,none,.mv (.t 8)⟩,⟨some 52,none,.call 29 [(.t 51),(.c (.int .i64 1)),(.c (.int .i64 0))]⟩])))
 (.ops [⟨some 53,none,.bin 0 .add (.t 47) (.c (.int .i64 1))⟩,⟨some 47,none,.mv (.t 53)⟩])))))))
 (.seq (.ops [⟨some 54,none,.mv (.t 5)⟩,⟨some 55,none,.call 28 [(.t 54),(.c (.int .i64 0)),(.c (.int .i64 0))]⟩])
 (.ops [⟨some 56,none,.mv (.t 8)⟩,⟨some 57,none,.call 29 [(.t 56),(.c (.int .i64 0)),(.c (.int .i64 0))]⟩]))) (.skip)))
 (.seq (.ops [⟨some 58,none,.mv (.t 3)⟩,⟨some 59,none,.mv (.t 5)⟩,⟨some 60,none,.mv (.t 8)⟩,⟨some 61,none,.call 30 [(.t 58),(.t 59),(.t 60)]⟩,⟨some 62,none,.un .not (.t 61)⟩,⟨some 63,none,.mv (.t 62)⟩,⟨some 64,(some (63,false)),.mv (.t 5)⟩,⟨some 65,(some (63,false)),.call 31 [(.t 64)]⟩,⟨some 66,(some (63,false)),.mv (.t 8)⟩,⟨some 67,(some (63,false)),.call 32 [(.t 66)]⟩,⟨some 68,(some (63,false)),.bin 0 .neq (.t 65) (.t 67)⟩,⟨some 69,none,.pick (.t 63) (.c (.bool true)) (.t 68)⟩])
 (.cond (.t 69) (.seq (.ops [⟨some 2,none,.mv (.c (.bool false))⟩])
 (.ret)) (.skip)))))
 (.ops [⟨some 70,none,.bin 0 .add (.t 43) (.c (.int .i64 1))⟩,⟨some 43,none,.mv (.t 70)⟩])))))))
 (.seq (.ops [⟨some 71,none,.call 24 []⟩,⟨some 2,none,.mv (.t 71)⟩])
 (.ret)))))))))⟩
theorem c4:compF Go.Proofs.Tryz.prog 4=some a4:=by kernel_rfl
def a11 : AFn := ⟨117,[.t 4],.seq (.ops [⟨some 4,none,.mv (.c (.lit true 0 []))⟩])
 (.seq (.ops [⟨some 5,none,.mv (.c (.lit true 0 []))⟩])
 (.seq (.seq (.ops [⟨some 14,none,.bslice 9 1 3 [(.str [])] [(0,1,(.c (.str [117,49]))),(1,1,(.c (.str [117,50]))),(2,1,(.c (.str [117,51])))]⟩,⟨some 15,none,.mv (.t 0)⟩,⟨some 16,none,.mv (.t 1)⟩,⟨some 17,none,.call 27 [(.t 15),(.c (.int .i64 1)),(.t 16)]⟩,⟨some 18,none,.slc 1 (.t 14) none (some (.t 17))⟩,⟨some 19,none,.len false (.t 18)⟩,⟨some 20,none,.mv (.c (.int .i64 0))⟩])
 (.block 0 (.loop (.seq (.ops [⟨some 21,none,.bin 0 .lss (.t 20) (.t 19)⟩])
 (.seq (.cond (.t 21) (.skip) (.exit 0))
 (.seq (.block 1 (.seq (.ops [⟨some 22,none,.iadr 1 (.t 18) (.t 20)⟩,⟨some 23,none,.load none (.t 22)⟩,⟨some 7,none,.mv (.t 23)⟩])
 (.seq (.ops [⟨some 24,none,.mv (.t 7)⟩,⟨some 25,none,.mv (.t 0)⟩,⟨some 26,none,.bslice 3 1 3 [(.int .i64 0)] [(0,1,(.c (.int .i64 2))),(1,1,(.c (.int .i64 3))),(2,1,(.c (.int .i64 4)))]⟩,⟨some 27,none,.call 46 [(.t 25),(.t 26)]⟩,⟨some 28,none,.mv (.t 0)⟩,⟨some 29,none,.bslice 3 1 5 [(.int .i64 0)] [(0,1,(.c (.int .i64 0))),(1,1,(.c (.int .i64 5))),(2,1,(.c (.int .i64 19088743))),(3,1,(.c (.int .i64 4294967295))),(4,1,(.c (.int .i64 1)))]⟩,⟨some 30,none,.call 46 [(.t 28),(.t 29)]⟩,⟨some 31,none,.build [(.str []),(.int .i64 0),(.int .i64 0),(.lit true 0 []),(.lit true 0 [])] [(0,1,(.t 24)),(1,1,(.t 27)),(2,1,(.t 30))]⟩,⟨some 8,none,.alloc 57 [(.str []),(.int .i64 0),(.int .i64 0),(.lit true 0 []),(.lit true 0 [])]⟩,⟨none,none,.store 5 (.t 8) (.t 31)⟩])
 (.seq (.seq (.ops [⟨some 32,none,.bslice 9 1 2 [(.str [])] [(0,1,(.c (.str [100,97,116,97]))),(1,1,(.c (.str [115,99,97,110])))]⟩,⟨some 33,none,.mv (.t 0)⟩,⟨some 34,none,.call 27 [(.t 33),(.c (.int .i64 0)),(.c (.int .i64 2))]⟩,⟨some 35,none,.slc 1 (.t 32) none (some (.t 34))⟩,⟨some 36,none,.len false (.t 35)⟩,⟨some 37,none,.mv (.c (.int .i64 0))⟩])
 (.block 2 (.loop (.seq (.ops [⟨some 38,none,.bin 0 .lss (.t 37) (.t 36)⟩])
 (.seq (.cond (.t 38) (.skip) (.exit 2))
 (.seq (.block 3 (.seq (.ops [⟨some 39,none,.iadr 1 (.t 35) (.t 37)⟩,⟨some 40,none,.load none (.t 39)⟩,⟨some 10,none,.mv (.t 40)⟩])
 (.any [(⟨some 41,none,.fadr 3 (.t 8)⟩,[]),(⟨some 42,none,.load none (.t 41)⟩,[]),(⟨some 43,none,.mv (.t 10)⟩,[0,1]),(⟨some 44,none,.mv (.t 0)⟩,[0,1,2]),(⟨some 45,none,.bslice 3 1 4 [(.int .i64 0)] [(0,1,(.c (.int .i64 1))),(1,1,(.c (.int .i64 2))),(2,1,(.c (.int .i64 3))),(3,1,(.c (.int .i64 5)))]⟩,[0,1,2,3]),(⟨some 46,none,.call 46 [(.t 44),(.t 45)]⟩,[0,1,2]),(⟨some 47,none,.build [(.str []),(.int .i64 0)] [(0,1,(.t 43)),(1,1,(.t 46))]⟩,[0,1]),(⟨some 48,none,.bslice 70 2 1 [(.str []),(.int .i64 0)] [(0,2,(.t 47))]⟩,[0,1]),(⟨some 49,none,.app 70 2 24 (.t 42) (.t 48)⟩,[]),(⟨some 50,none,.fadr 3 (.t 8)⟩,[]),(⟨none,none,.store 1 (.t 50) (.t 49)⟩,[])])))
 (.ops [⟨some 51,none,.bin 0 .add (.t 37) (.c (.int .i64 1))⟩,⟨some 37,none,.mv (.t 51)⟩])))))))
 (.seq (.seq (.ops [⟨some 52,none,.mv (.t 0)⟩,⟨some 53,none,.call 27 [(.t 52),(.c (.int .i64 0)),(.c (.int .i64 3))]⟩,⟨some 54,none,.mv (.c (.int .i64 0))⟩])
 (.block 4 (.loop (.seq (.ops [⟨some 55,none,.bin 0 .lss (.t 54) (.t 53)⟩])
 (.seq (.cond (.t 55) (.skip) (.exit 4))
 (.seq (.block 5 (.seq (.ops [⟨some 56,none,.mv (.t 54)⟩,⟨some 11,none,.mv (.t 56)⟩])
 (.seq (.ops [⟨some 12,none,.mv (.c (.str [98,121,112,97,115,115]))⟩])
 (.seq (.seq (.ops [⟨some 57,none,.fadr 3 (.t 8)⟩,⟨some 58,none,.load none (.t 57)⟩,⟨some 59,none,.len false (.t 58)⟩,⟨some 60,none,.bin 0 .gtr (.t 59) (.c (.int .i64 0))⟩])
 (.cond (.t 60) (.any [(⟨some 61,none,.fadr 3 (.t 8)⟩,[]),(⟨some 62,none,.load none (.t 61)⟩,[]),(⟨some 63,none,.mv (.t 0)⟩,[0,1]),(⟨some 64,none,.fadr 3 (.t 8)⟩,[0,1,2]),(⟨some 65,none,.load none (.t 64)⟩,[0,1,2]),(⟨some 66,none,.len false (.t 65)⟩,[0,1,2]),(⟨some 67,none,.call 45 [(.t 63),(.t 66)]⟩,[0,1]),(⟨some 68,none,.iadr 2 (.t 62) (.t 67)⟩,[]),(⟨some 69,none,.fadr 0 (.t 68)⟩,[]),(⟨some 70,none,.load none (.t 69)⟩,[]),(⟨some 12,none,.mv (.t 70)⟩,[])]) (.skip)))
 (.seq (.seq (.ops [⟨some 71,none,.fadr 2 (.t 8)⟩,⟨some 72,none,.load none (.t 71)⟩,⟨some 73,none,.bin 0 .neq (.t 72) (.c (.int .i64 0))⟩,⟨some 74,none,.mv (.t 73)⟩,⟨some 75,(some (74,true)),.mv (.t 0)⟩,⟨some 76,(some (74,true)),.call 14 [(.t 75),(.c (.int .i64 4))]⟩,⟨some 77,none,.pick (.t 74) (.t 76) (.c (.bool false))⟩])
 (.cond (.t 77) (.ops [⟨some 12,none,.mv (.c (.str [105,100,99,111,100,101]))⟩]) (.skip)))
 (.seq (.ops [⟨some 78,none,.mv (.t 11)⟩,⟨some 79,none,.call 57 [(.t 78),(.c (.int .i64 2))]⟩,⟨some 13,none,.mv (.t 79)⟩])
 (.any [(⟨some 80,none,.fadr 4 (.t 8)⟩,[]),(⟨some 81,none,.load none (.t 80)⟩,[]),(⟨some 82,none,.fadr 1 (.t 8)⟩,[0,1]),(⟨some 83,none,.load none (.t 82)⟩,[0,1]),(⟨some 84,none,.fadr 1 (.t 8)⟩,[0,1,2,3]),(⟨some 85,none,.load none (.t 84)⟩,[0,1,2,3]),(⟨some 86,none,.mv (.t 13)⟩,[0,1,2,3,4,5]),(⟨some 87,none,.len true (.t 86)⟩,[0,1,2,3,4,5]),(⟨some 88,none,.mm false (.t 85) [(.t 87)]⟩,[0,1,2,3]),(⟨some 89,none,.bin 0 .sub (.t 83) (.t 88)⟩,[0,1]),(⟨some 90,none,.call 41 [(.c (.str [48])),(.t 89)]⟩,[0,1]),(⟨some 91,none,.mv (.t 13)⟩,[0,1,2,3,4,5,6,7,8,9,10]),(⟨some 92,none,.bin 1 .add (.t 90) (.t 91)⟩,[0,1]),(⟨some 93,none,.mv (.t 12)⟩,[0,1,2,3,4,5,6,7,8,9,10,11,12]),(⟨some 94,none,.build [(.str []),(.str [])] [(0,1,(.t 92)),(1,1,(.t 93))]⟩,[0,1]),(⟨some 95,none,.bslice 68 2 1 [(.str []),(.str [])] [(0,2,(.t 94))]⟩,[0,1]),(⟨some 96,none,.app 68 2 32 (.t 81) (.t 95)⟩,[]),(⟨some 97,none,.fadr 4 (.t 8)⟩,[]),(⟨none,none,.store 1 (.t 97) (.t 96)⟩,[])])))))))
 (.ops [⟨some 98,none,.bin 0 .add (.t 54) (.c (.int .i64 1))⟩,⟨some 54,none,.mv (.t 98)⟩])))))))
 (.ops [⟨some 99,none,.mv (.t 5)⟩,⟨some 100,none,.load (some 5) (.t 8)⟩,⟨some 101,none,.bslice 57 5 1 [(.str []),(.int .i64 0),(.int .i64 0),(.lit true 0 []),(.lit true 0 [])] [(0,5,(.t 100))]⟩,⟨some 102,none,.app 57 5 80 (.t 99) (.t 101)⟩,⟨some 5,none,.mv (.t 102)⟩]))))))
 (.ops [⟨some 103,none,.bin 0 .add (.t 20) (.c (.int .i64 1))⟩,⟨some 20,none,.mv (.t 103)⟩])))))))
 (.seq (.seq (.ops [⟨some 104,none,.mv (.t 0)⟩,⟨some 105,none,.call 14 [(.t 104),(.c (.int .i64 12))]⟩])
 (.cond (.t 105) (.ops [⟨some 106,none,.mv (.t 0)⟩,⟨some 107,none,.mv (.t 5)⟩,⟨some 108,none,.mv (.t 0)⟩,⟨some 109,none,.mv (.t 5)⟩,⟨some 110,none,.len false (.t 109)⟩,⟨some 111,none,.call 45 [(.t 108),(.t 110)]⟩,⟨some 112,none,.iadr 5 (.t 107) (.t 111)⟩,⟨some 113,none,.call 58 [(.t 106),(.t 112)]⟩]) (.skip)))
 (.seq (.seq (.ops [⟨some 114,none,.mv (.t 0)⟩,⟨some 115,none,.call 14 [(.t 114),(.c (.int .i64 60))]⟩])
 (.cond (.t 115) (.ops [⟨some 5,none,.mv (.c (.lit true 0 []))⟩]) (.skip)))
 (.seq (.ops [⟨some 116,none,.mv (.t 5)⟩,⟨some 4,none,.mv (.t 116)⟩])
 (.ret))))))⟩
theorem c11:compF Go.Proofs.Tryz.prog 11=some a11:=by kernel_rfl
def a13 : AFn := ⟨15,[.t 4],.seq (.ops [⟨some 4,none,.mv (.c (.str []))⟩])
 (.seq (.ops [⟨some 6,none,.mv (.t 0)⟩,⟨some 7,none,.mv (.t 1)⟩,⟨some 8,none,.call 34 [(.t 6),(.t 7)]⟩,⟨some 5,none,.mv (.t 8)⟩])
 (.seq (.seq (.ops [⟨some 9,none,.mv (.t 0)⟩,⟨some 10,none,.call 14 [(.t 9),(.c (.int .i64 20))]⟩])
 (.cond (.t 10) (.ops [⟨some 11,none,.mv (.t 0)⟩,⟨some 12,none,.mv (.t 5)⟩,⟨some 13,none,.call 60 [(.t 11),(.t 12),(.c (.str [50,120]))]⟩,⟨some 5,none,.mv (.t 13)⟩]) (.skip)))
 (.seq (.ops [⟨some 14,none,.mv (.t 5)⟩,⟨some 4,none,.mv (.t 14)⟩])
 (.ret))))⟩
theorem c13:compF Go.Proofs.Tryz.prog 13=some a13:=by kernel_rfl
def a14 : AFn := ⟨9,[.t 4],.seq (.ops [⟨some 4,none,.mv (.c (.bool false))⟩])
 (.seq (.ops [⟨some 5,none,.mv (.t 0)⟩,⟨some 6,none,.mv (.t 1)⟩,⟨some 7,none,.call 45 [(.t 5),(.t 6)]⟩,⟨some 8,none,.bin 0 .eql (.t 7) (.c (.int .i64 0))⟩,⟨some 4,none,.mv (.t 8)⟩])
 (.ret))⟩
theorem c14:compF Go.Proofs.Tryz.prog 14=some a14:=by kernel_rfl
def a16 : AFn := ⟨18,[.t 2],.seq (.ops [⟨some 2,none,.mv (.c (.int .i64 0))⟩])
 (.seq (.ops [⟨some 3,none,.mv (.c (.int .i64 0))⟩])
 (.seq (.seq (.ops [⟨some 6,none,.mv (.t 0)⟩,⟨some 7,none,.len false (.t 6)⟩,⟨some 8,none,.mv (.c (.int .i64 0))⟩])
 (.block 0 (.loop (.seq (.ops [⟨some 9,none,.bin 0 .lss (.t 8) (.t 7)⟩])
 (.seq (.cond (.t 9) (.skip) (.exit 0))
 (.seq (.block 1 (.seq (.ops [⟨some 10,none,.iadr 1 (.t 6) (.t 8)⟩,⟨some 11,none,.load none (.t 10)⟩,⟨some 5,none,.mv (.t 11)⟩])
 (.seq (.ops [⟨some 12,none,.mv (.t 5)⟩,⟨some 13,none,.mv (.t 3)⟩,⟨some 14,none,.bin 0 .neq (.t 12) (.t 13)⟩])
 (.cond (.t 14) (.seq (.ops [⟨some 15,none,.mv (.t 5)⟩,⟨some 2,none,.mv (.t 15)⟩])
 (.ret)) (.skip)))))
 (.ops [⟨some 16,none,.bin 0 .add (.t 8) (.c (.int .i64 1))⟩,⟨some 8,none,.mv (.t 16)⟩])))))))
 (.seq (.ops [⟨some 17,none,.mv (.t 3)⟩,⟨some 2,none,.mv (.t 17)⟩])
 (.ret))))⟩
theorem c16:compF Go.Proofs.Tryz.prog 16=some a16:=by kernel_rfl
def a17 : AFn := ⟨59,[.t 2],.seq (.ops [⟨some 2,none,.mv (.c (.int .i64 0))⟩])
 (.seq (.block 0 (.seq (.ops [⟨some 7,none,.mv (.t 0)⟩,⟨some 8,none,.len false (.t 7)⟩,⟨some 9,none,.bin 0 .eql (.t 8) (.c (.int .i64 0))⟩,⟨some 6,none,.mv (.t 9)⟩])
 (.cond (.t 6) (.seq (.ops [⟨some 2,none,.mv (.c (.int .i64 8))⟩])
 (.ret)) (.seq (.ops [⟨some 11,none,.mv (.t 0)⟩,⟨some 12,none,.len false (.t 11)⟩,⟨some 13,none,.bin 0 .gtr (.t 12) (.c (.int .i64 20))⟩,⟨some 10,none,.mv (.t 13)⟩])
 (.cond (.t 10) (.seq (.ops [⟨some 2,none,.mv (.c (.int .i64 2))⟩])
 (.ret)) (.skip))))))
 (.seq (.seq (.ops [⟨some 14,none,.mv (.t 0)⟩,⟨some 15,none,.len false (.t 14)⟩,⟨some 16,none,.mv (.c (.int .i64 0))⟩])
 (.block 1 (.loop (.seq (.ops [⟨some 17,none,.bin 0 .lss (.t 16) (.t 15)⟩])
 (.seq (.cond (.t 17) (.skip) (.exit 1))
 (.seq (.block 2 (.seq (.ops [⟨some 18,none,.mv (.t 16)⟩,⟨some 19,none,.iadr 5 (.t 14) (.t 16)⟩,⟨some 20,none,.load (some 5) (.t 19)⟩,⟨some 4,none,.alloc 57 [(.str []),(.int .i64 0),(.int .i64 0),(.lit true 0 []),(.lit true 0 [])]⟩,⟨some 3,none,.mv (.t 18)⟩,⟨none,none,.store 5 (.t 4) (.t 20)⟩])
 (.seq (.block 3 (.seq (.ops [⟨some 22,none,.fadr 0 (.t 4)⟩,⟨some 23,none,.load none (.t 22)⟩,⟨some 24,none,.call 63 [(.t 23)]⟩,⟨some 25,none,.un .not (.t 24)⟩,⟨some 21,none,.mv (.t 25)⟩])
 (.cond (.t 21) (.seq (.ops [⟨some 2,none,.mv (.c (.int .i64 5))⟩])
 (.ret)) (.seq (.ops [⟨some 27,none,.mv (.t 0)⟩,⟨some 28,none,.mv (.t 3)⟩,⟨some 29,none,.slc 5 (.t 27) none (some (.t 28))⟩,⟨some 30,none,.mkfn 64 [(.t 4)]⟩,⟨some 31,none,.call 42 [(.t 29),(.t 30)]⟩,⟨some 26,none,.mv (.t 31)⟩])
 (.cond (.t 26) (.seq (.ops [⟨some 2,none,.mv (.c (.int .i64 6))⟩])
 (.ret)) (.seq (.ops [⟨some 33,none,.fadr 1 (.t 4)⟩,⟨some 34,none,.load none (.t 33)⟩,⟨some 35,none,.call 65 [(.t 34),(.c (.int .i64 2)),(.c (.int .i64 32))]⟩,⟨some 36,none,.un .not (.t 35)⟩,⟨some 37,none,.mv (.t 36)⟩,⟨some 38,(some (37,false)),.fadr 2 (.t 4)⟩,⟨some 39,(some (37,false)),.load none (.t 38)⟩,⟨some 40,(some (37,false)),.call 65 [(.t 39),(.c (.int .i64 0)),(.c (.int .i64 4294967295))]⟩,⟨some 41,(some (37,false)),.un .not (.t 40)⟩,⟨some 42,none,.pick (.t 37) (.c (.bool true)) (.t 41)⟩,⟨some 32,none,.mv (.t 42)⟩])
 (.cond (.t 32) (.seq (.ops [⟨some 2,none,.mv (.c (.int .i64 1))⟩])
 (.ret)) (.seq (.ops [⟨some 44,none,.fadr 2 (.t 4)⟩,⟨some 45,none,.load none (.t 44)⟩,⟨some 46,none,.bin 0 .neq (.t 45) (.c (.int .i64 0))⟩,⟨some 47,none,.mv (.t 46)⟩,⟨some 48,(some (47,true)),.fadr 2 (.t 4)⟩,⟨some 49,(some (47,true)),.load none (.t 48)⟩,⟨some 50,(some (47,true)),.bin 0 .rem (.t 49) (.c (.int .i64 2))⟩,⟨some 51,(some (47,true)),.bin 0 .eql (.t 50) (.c (.int .i64 0))⟩,⟨some 52,none,.pick (.t 47) (.t 51) (.c (.bool false))⟩,⟨some 43,none,.mv (.t 52)⟩])
 (.cond (.t 43) (.seq (.ops [⟨some 2,none,.mv (.c (.int .i64 3))⟩])
 (.ret)) (.skip))))))))))
 (.seq (.ops [⟨some 53,none,.load (some 5) (.t 4)⟩,⟨some 54,none,.call 66 [(.t 53)]⟩,⟨some 5,none,.mv (.t 54)⟩])
 (.seq (.ops [⟨some 55,none,.mv (.t 5)⟩,⟨some 56,none,.bin 0 .neq (.t 55) (.c (.int .i64 0))⟩])
 (.cond (.t 56) (.seq (.ops [⟨some 57,none,.mv (.t 5)⟩,⟨some 2,none,.mv (.t 57)⟩])
 (.ret)) (.skip)))))))
 (.ops [⟨some 58,none,.bin 0 .add (.t 16) (.c (.int .i64 1))⟩,⟨some 16,none,.mv (.t 58)⟩])))))))
 (.seq (.ops [⟨some 2,none,.mv (.c (.int .i64 0))⟩])
 (.ret))))⟩
theorem c17:compF Go.Proofs.Tryz.prog 17=some a17:=by kernel_rfl
def a20 : AFn := ⟨35,[.t 2],.seq (.ops [⟨some 2,none,.mv (.c (.str []))⟩])
 (.seq (.ops [⟨some 3,none,.mv (.c (.str []))⟩])
 (.seq (.seq (.ops [⟨some 4,none,.mv (.t 0)⟩,⟨some 5,none,.call 27 [(.t 4),(.c (.int .i64 0)),(.c (.int .i64 4))]⟩,⟨some 6,none,.mv (.c (.int .i64 0))⟩])
 (.block 0 (.loop (.seq (.ops [⟨some 7,none,.bin 0 .lss (.t 6) (.t 5)⟩])
 (.seq (.cond (.t 7) (.skip) (.exit 0))
 (.seq (.block 1 (.seq (.seq (.ops [⟨some 8,none,.mv (.t 0)⟩,⟨some 9,none,.call 14 [(.t 8),(.c (.int .i64 2))]⟩])
 (.cond (.t 9) (.seq (.ops [⟨some 10,none,.mv (.t 3)⟩,⟨some 11,none,.bin 1 .add (.t 10) (.c (.str [48]))⟩,⟨some 3,none,.mv (.t 11)⟩])
 (.exit 1)) (.skip)))
 (.ops [⟨some 12,none,.mv (.t 3)⟩,⟨some 13,none,.mv (.t 0)⟩,⟨some 14,none,.call 34 [(.t 13),(.c (.int .i64 31))]⟩,⟨some 15,none,.bin 1 .add (.c (.str [49])) (.t 14)⟩,⟨some 16,none,.bin 1 .add (.t 12) (.t 15)⟩,⟨some 3,none,.mv (.t 16)⟩])))
 (.ops [⟨some 17,none,.bin 0 .add (.t 6) (.c (.int .i64 1))⟩,⟨some 6,none,.mv (.t 17)⟩])))))))
 (.seq (.seq (.ops [⟨some 18,none,.mv (.t 0)⟩,⟨some 19,none,.call 14 [(.t 18),(.c (.int .i64 40))]⟩])
 (.cond (.t 19) (.ops [⟨some 20,none,.mv (.t 3)⟩,⟨some 21,none,.call 41 [(.c (.str [48])),(.c (.int .i64 21))]⟩,⟨some 22,none,.bin 1 .add (.t 20) (.t 21)⟩,⟨some 3,none,.mv (.t 22)⟩]) (.skip)))
 (.seq (.ops [⟨some 23,none,.mv (.t 3)⟩,⟨some 24,none,.mv (.t 0)⟩,⟨some 25,none,.bslice 3 1 6 [(.int .i64 0)] [(0,1,(.c (.int .i64 32))),(1,1,(.c (.int .i64 32))),(2,1,(.c (.int .i64 32))),(3,1,(.c (.int .i64 40))),(4,1,(.c (.int .i64 31))),(5,1,(.c (.int .i64 5)))]⟩,⟨some 26,none,.call 46 [(.t 24),(.t 25)]⟩,⟨some 27,none,.call 41 [(.c (.str [49])),(.t 26)]⟩,⟨some 28,none,.bin 1 .add (.t 23) (.t 27)⟩,⟨some 3,none,.mv (.t 28)⟩])
 (.seq (.seq (.ops [⟨some 29,none,.mv (.t 0)⟩,⟨some 30,none,.call 14 [(.t 29),(.c (.int .i64 20))]⟩])
 (.cond (.t 30) (.ops [⟨some 31,none,.mv (.t 0)⟩,⟨some 32,none,.mv (.t 3)⟩,⟨some 33,none,.call 60 [(.t 31),(.t 32),(.c (.str [120,48,49]))]⟩,⟨some 3,none,.mv (.t 33)⟩]) (.skip)))
 (.seq (.ops [⟨some 34,none,.mv (.t 3)⟩,⟨some 2,none,.mv (.t 34)⟩])
 (.ret)))))))⟩
def a21 : AFn := ⟨61,[.t 2,.t 3,.t 4],.seq (.ops [⟨some 2,none,.mv (.c (.lit true 0 []))⟩,⟨some 3,none,.mv (.c (.int .i64 0))⟩,⟨some 4,none,.mv (.c (.int .i64 0))⟩])
 (.seq (.seq (.ops [⟨some 10,none,.mv (.t 0)⟩,⟨some 11,none,.call 69 [(.t 10)]⟩,⟨some 5,none,.mv (.t 11)⟩])
 (.seq (.ops [⟨some 12,none,.mv (.t 5)⟩,⟨some 13,none,.bin 0 .neq (.t 12) (.c (.int .i64 0))⟩])
 (.cond (.t 13) (.seq (.ops [⟨some 14,none,.mv (.t 5)⟩,⟨some 2,none,.mv (.c (.lit true 0 []))⟩,⟨some 3,none,.mv (.c (.int .i64 0))⟩,⟨some 4,none,.mv (.t 14)⟩])
 (.ret)) (.skip))))
 (.seq (.ops [⟨some 6,none,.mv (.c (.lit true 0 []))⟩])
 (.seq (.seq (.ops [⟨some 7,none,.mv (.c (.int .i64 0))⟩])
 (.block 0 (.loop (.seq (.seq (.ops [⟨some 15,none,.mv (.t 7)⟩,⟨some 16,none,.mv (.t 0)⟩,⟨some 17,none,.len true (.t 16)⟩,⟨some 18,none,.bin 0 .lss (.t 15) (.t 17)⟩])
 (.cond (.t 18) (.skip) (.exit 0)))
 (.block 1 (.seq (.seq (.ops [⟨some 19,none,.mv (.t 0)⟩,⟨some 20,none,.mv (.t 7)⟩,⟨some 21,none,.idxs (.t 19) (.t 20)⟩,⟨some 22,none,.bin 0 .eql (.t 21) (.c (.int .u8 48))⟩])
 (.cond (.t 22) (.seq (.ops [⟨some 23,none,.mv (.t 6)⟩,⟨some 24,none,.bslice 3 1 1 [(.int .i64 0)] [(0,1,(.c (.int .i64 0)))]⟩,⟨some 25,none,.app 3 1 8 (.t 23) (.t 24)⟩,⟨some 6,none,.mv (.t 25)⟩])
 (.seq (.ops [⟨some 26,none,.mv (.t 7)⟩,⟨some 27,none,.bin 0 .add (.t 26) (.c (.int .i64 1))⟩,⟨some 7,none,.mv (.t 27)⟩])
 (.exit 1))) (.skip)))
 (.seq (.seq (.ops [⟨some 28,none,.mv (.t 0)⟩,⟨some 29,none,.len true (.t 28)⟩,⟨some 30,none,.mv (.t 7)⟩,⟨some 31,none,.bin 0 .sub (.t 29) (.t 30)⟩,⟨some 32,none,.bin 0 .lss (.t 31) (.c (.int .i64 32))⟩])
 (.cond (.t 32) (.seq (.ops [⟨some 2,none,.mv (.c (.lit true 0 []))⟩,⟨some 3,none,.mv (.c (.int .i64 0))⟩,⟨some 4,none,.mv (.c (.int .i64 9))⟩])
 (.ret)) (.skip)))
 (.seq (.ops [⟨some 8,none,.mv (.c (.int .i64 0))⟩])
 (.seq (.seq (.ops [⟨some 33,none,.mv (.c (.int .i64 0))⟩])
 (.block 2 (.loop (.seq (.ops [⟨some 34,none,.bin 0 .lss (.t 33) (.c (.int .i64 32))⟩])
 (.seq (.cond (.t 34) (.skip) (.exit 2))
 (.seq (.block 3 (.seq (.ops [⟨some 35,none,.mv (.t 33)⟩,⟨some 9,none,.mv (.t 35)⟩])
 (.ops [⟨some 36,none,.mv (.t 8)⟩,⟨some 37,none,.mv (.t 0)⟩,⟨some 38,none,.mv (.t 7)⟩,⟨some 39,none,.mv (.t 9)⟩,⟨some 40,none,.bin 0 .add (.t 38) (.t 39)⟩,⟨some 41,none,.idxs (.t 37) (.t 40)⟩,⟨some 42,none,.bin 0 .sub (.t 41) (.c (.int .u8 48))⟩,⟨some 43,none,.conv .i64 (.t 42)⟩,⟨some 44,none,.mv (.t 9)⟩,⟨some 45,none,.bin 0 .shl (.t 43) (.t 44)⟩,⟨some 46,none,.bin 0 .or (.t 36) (.t 45)⟩,⟨some 8,none,.mv (.t 46)⟩])))
 (.ops [⟨some 47,none,.bin 0 .add (.t 33) (.c (.int .i64 1))⟩,⟨some 33,none,.mv (.t 47)⟩])))))))
 (.seq (.seq (.ops [⟨some 48,none,.mv (.t 8)⟩,⟨some 49,none,.bin 0 .eql (.t 48) (.c (.int .i64 4294967295))⟩])
 (.cond (.t 49) (.seq (.seq (.ops [⟨some 50,none,.mv (.t 6)⟩,⟨some 51,none,.len false (.t 50)⟩,⟨some 52,none,.bin 0 .gtr (.t 51) (.c (.int .i64 20))⟩])
 (.cond (.t 52) (.seq (.ops [⟨some 2,none,.mv (.c (.lit true 0 []))⟩,⟨some 3,none,.mv (.c (.int .i64 0))⟩,⟨some 4,none,.mv (.c (.int .i64 2))⟩])
 (.ret)) (.skip)))
 (.seq (.ops [⟨some 53,none,.mv (.t 6)⟩,⟨some 54,none,.mv (.t 7)⟩,⟨some 2,none,.mv (.t 53)⟩,⟨some 3,none,.mv (.t 54)⟩,⟨some 4,none,.mv (.c (.int .i64 0))⟩])
 (.ret))) (.skip)))
 (.seq (.ops [⟨some 55,none,.mv (.t 6)⟩,⟨some 56,none,.mv (.t 8)⟩,⟨some 57,none,.bslice 3 1 1 [(.int .i64 0)] [(0,1,(.t 56))]⟩,⟨some 58,none,.app 3 1 8 (.t 55) (.t 57)⟩,⟨some 6,none,.mv (.t 58)⟩])
 (.ops [⟨some 59,none,.mv (.t 7)⟩,⟨some 60,none,.bin 0 .add (.t 59) (.c (.int .i64 32))⟩,⟨some 7,none,.mv (.t 60)⟩]))))))))))))
 (.seq (.ops [⟨some 2,none,.mv (.c (.lit true 0 []))⟩,⟨some 3,none,.mv (.c (.int .i64 0))⟩,⟨some 4,none,.mv (.c (.int .i64 8))⟩])
 (.ret)))))⟩
def a22 : AFn := ⟨64,[.t 2,.t 3,.t 4],.seq (.ops [⟨some 2,none,.mv (.c (.lit true 0 []))⟩,⟨some 3,none,.mv (.c (.int .i64 0))⟩,⟨some 4,none,.mv (.c (.int .i64 0))⟩])
 (.seq (.seq (.ops [⟨some 10,none,.mv (.t 0)⟩,⟨some 11,none,.call 70 [(.t 10)]⟩,⟨some 5,none,.mv (.t 11)⟩])
 (.seq (.ops [⟨some 12,none,.mv (.t 5)⟩,⟨some 13,none,.bin 0 .neq (.t 12) (.c (.int .i64 0))⟩])
 (.cond (.t 13) (.seq (.ops [⟨some 14,none,.mv (.t 5)⟩,⟨some 2,none,.mv (.c (.lit true 0 []))⟩,⟨some 3,none,.mv (.c (.int .i64 0))⟩,⟨some 4,none,.mv (.t 14)⟩])
 (.ret)) (.skip))))
 (.seq (.ops [⟨some 6,none,.mv (.c (.lit true 0 []))⟩])
 (.seq (.ops [⟨some 15,none,.mv (.t 0)⟩,⟨some 7,none,.mv (.t 15)⟩])
 (.seq (.block 0 (.loop (.seq (.seq (.ops [⟨some 16,none,.mv (.t 7)⟩,⟨some 17,none,.call 41 [(.c (.str [49])),(.c (.int .i64 32))]⟩,⟨some 18,none,.call 71 [(.t 16),(.t 17)]⟩,⟨some 19,none,.un .not (.t 18)⟩])
 (.cond (.t 19) (.skip) (.exit 0)))
 (.block 1 (.seq (.block 2 (.seq (.ops [⟨some 21,none,.mv (.t 7)⟩,⟨some 22,none,.bin 1 .eql (.t 21) (.c (.str []))⟩,⟨some 20,none,.mv (.t 22)⟩])
 (.cond (.t 20) (.seq (.ops [⟨some 2,none,.mv (.c (.lit true 0 []))⟩,⟨some 3,none,.mv (.c (.int .i64 0))⟩,⟨some 4,none,.mv (.c (.int .i64 8))⟩])
 (.ret)) (.seq (.ops [⟨some 24,none,.mv (.t 7)⟩,⟨some 25,none,.idxs (.t 24) (.c (.int .i64 0))⟩,⟨some 26,none,.bin 0 .eql (.t 25) (.c (.int .u8 48))⟩,⟨some 23,none,.mv (.t 26)⟩])
 (.cond (.t 23) (.seq (.any [(⟨some 27,none,.mv (.t 6)⟩,[]),(⟨some 28,none,.bslice 3 1 1 [(.int .i64 0)] [(0,1,(.c (.int .i64 0)))]⟩,[0]),(⟨some 29,none,.app 3 1 8 (.t 27) (.t 28)⟩,[]),(⟨some 30,none,.mv (.t 7)⟩,[0,1,2]),(⟨some 31,none,.sls (.t 30) (some (.c (.int .i64 1))) none⟩,[0,1,2]),(⟨some 6,none,.mv (.t 29)⟩,[3,4]),(⟨some 7,none,.mv (.t 31)⟩,[])])
 (.exit 1)) (.seq (.ops [⟨some 33,none,.mv (.t 7)⟩,⟨some 34,none,.len true (.t 33)⟩,⟨some 35,none,.bin 0 .lss (.t 34) (.c (.int .i64 32))⟩,⟨some 32,none,.mv (.t 35)⟩])
 (.cond (.t 32) (.seq (.ops [⟨some 2,none,.mv (.c (.lit true 0 []))⟩,⟨some 3,none,.mv (.c (.int .i64 0))⟩,⟨some 4,none,.mv (.c (.int .i64 9))⟩])
 (.ret)) (.skip))))))))
 (.seq (.ops [⟨some 8,none,.mv (.c (.int .i64 0))⟩])
 (.seq (.seq (.ops [⟨some 36,none,.mv (.c (.int .i64 0))⟩])
 (.block 3 (.loop (.seq (.ops [⟨some 37,none,.bin 0 .lss (.t 36) (.c (.int .i64 32))⟩])
 (.seq (.cond (.t 37) (.skip) (.exit 3))
 (.seq (.block 4 (.seq (.ops [⟨some 38,none,.mv (.t 36)⟩,⟨some 9,none,.mv (.t 38)⟩])
 (.ops [⟨some 39,none,.mv (.t 8)⟩,⟨some 40,none,.mv (.t 7)⟩,⟨some 41,none,.mv (.t 9)⟩,⟨some 42,none,.idxs (.t 40) (.t 41)⟩,⟨some 43,none,.bin 0 .sub (.t 42) (.c (.int .u8 48))⟩,⟨some 44,none,.conv .i64 (.t 43)⟩,⟨some 45,none,.mv (.t 9)⟩,⟨some 46,none,.bin 0 .shl (.t 44) (.t 45)⟩,⟨some 47,none,.bin 0 .add (.t 39) (.t 46)⟩,⟨some 8,none,.mv (.t 47)⟩])))
 (.ops [⟨some 48,none,.bin 0 .add (.t 36) (.c (.int .i64 1))⟩,⟨some 36,none,.mv (.t 48)⟩])))))))
 (.any [(⟨some 49,none,.mv (.t 6)⟩,[]),(⟨some 50,none,.mv (.t 8)⟩,[0]),(⟨some 51,none,.bslice 3 1 1 [(.int .i64 0)] [(0,1,(.t 50))]⟩,[0]),(⟨some 52,none,.app 3 1 8 (.t 49) (.t 51)⟩,[]),(⟨some 53,none,.mv (.t 7)⟩,[0,1,2,3]),(⟨some 54,none,.sls (.t 53) (some (.c (.int .i64 32))) none⟩,[0,1,2,3]),(⟨some 6,none,.mv (.t 52)⟩,[4,5]),(⟨some 7,none,.mv (.t 54)⟩,[])]))))))))
 (.seq (.seq (.ops [⟨some 55,none,.mv (.t 6)⟩,⟨some 56,none,.len false (.t 55)⟩,⟨some 57,none,.bin 0 .gtr (.t 56) (.c (.int .i64 20))⟩])
 (.cond (.t 57) (.seq (.ops [⟨some 2,none,.mv (.c (.lit true 0 []))⟩,⟨some 3,none,.mv (.c (.int .i64 0))⟩,⟨some 4,none,.mv (.c (.int .i64 2))⟩])
 (.ret)) (.skip)))
 (.seq (.ops [⟨some 58,none,.mv (.t 6)⟩,⟨some 59,none,.mv (.t 0)⟩,⟨some 60,none,.len true (.t 59)⟩,⟨some 61,none,.mv (.t 7)⟩,⟨some 62,none,.len true (.t 61)⟩,⟨some 63,none,.bin 0 .sub (.t 60) (.t 62)⟩,⟨some 2,none,.mv (.t 58)⟩,⟨some 3,none,.mv (.t 63)⟩,⟨some 4,none,.mv (.c (.int .i64 0))⟩])
 (.ret)))))))⟩
def a24 : AFn := ⟨13,[.t 0],.seq (.ops [⟨some 0,none,.mv (.c (.bool false))⟩])
 (.seq (.ops [⟨some 4,none,.call 72 [(.c (.int .i64 4)),(.c (.int .i64 1))]⟩,⟨some 3,none,.mv (.t 4)⟩,⟨some 5,none,.ext (.t 3) 0⟩,⟨some 6,none,.ext (.t 3) 1⟩,⟨some 1,none,.mv (.t 5)⟩,⟨some 2,none,.mv (.t 6)⟩])
 (.seq (.ops [⟨some 7,none,.mv (.t 2)⟩,⟨some 8,none,.bin 0 .eql (.t 7) (.c (.int .i64 0))⟩,⟨some 9,none,.mv (.t 8)⟩,⟨some 10,(some (9,true)),.mv (.t 1)⟩,⟨some 11,(some (9,true)),.bin 1 .eql (.t 10) (.c (.str [49,49,48]))⟩,⟨some 12,none,.pick (.t 9) (.t 11) (.c (.bool false))⟩,⟨some 0,none,.mv (.t 12)⟩])
 (.ret)))⟩
theorem c24:compF Go.Proofs.Tryz.prog 24=some a24:=by kernel_rfl
def a25 : AFn := ⟨79,[.t 2,.t 3],.seq (.ops [⟨some 2,none,.mv (.c .nilp)⟩,⟨some 3,none,.mv (.c (.int .i64 0))⟩])
 (.seq (.seq (.ops [⟨some 11,none,.mv (.t 0)⟩,⟨some 12,none,.call 44 [(.t 11)]⟩,⟨some 4,none,.mv (.t 12)⟩])
 (.seq (.ops [⟨some 13,none,.mv (.t 4)⟩,⟨some 14,none,.bin 0 .neq (.t 13) (.c (.int .i64 0))⟩])
 (.cond (.t 14) (.seq (.ops [⟨some 15,none,.mv (.t 4)⟩,⟨some 2,none,.mv (.c .nilp)⟩,⟨some 3,none,.mv (.t 15)⟩])
 (.ret)) (.skip))))
 (.seq (.ops [⟨some 16,none,.build [(.int .i64 0),(.lit true 0 [])] [(0,1,(.c (.int .i64 0)))]⟩,⟨some 17,none,.box 95 (.t 16)⟩,⟨some 5,none,.mv (.t 17)⟩])
 (.seq (.seq (.ops [⟨some 18,none,.mv (.t 0)⟩,⟨some 19,none,.len false (.t 18)⟩,⟨some 20,none,.mv (.c (.int .i64 0))⟩])
 (.block 0 (.loop (.seq (.ops [⟨some 21,none,.bin 0 .lss (.t 20) (.t 19)⟩])
 (.seq (.cond (.t 21) (.skip) (.exit 0))
 (.seq (.block 1 (.seq (.ops [⟨some 22,none,.iadr 5 (.t 18) (.t 20)⟩,⟨some 23,none,.load (some 5) (.t 22)⟩,⟨some 7,none,.alloc 57 [(.str []),(.int .i64 0),(.int .i64 0),(.lit true 0 []),(.lit true 0 [])]⟩,⟨none,none,.store 5 (.t 7) (.t 23)⟩])
 (.seq (.any [(⟨some 24,none,.fadr 3 (.t 7)⟩,[]),(⟨some 25,none,.load none (.t 24)⟩,[]),(⟨some 26,none,.call 73 [(.t 25)]⟩,[]),(⟨some 27,none,.fadr 4 (.t 7)⟩,[0,1,2]),(⟨some 28,none,.load none (.t 27)⟩,[0,1,2]),(⟨some 29,none,.call 74 [(.t 28)]⟩,[]),(⟨some 30,none,.fadr 3 (.t 7)⟩,[5]),(⟨none,none,.store 1 (.t 30) (.t 26)⟩,[]),(⟨some 31,none,.fadr 4 (.t 7)⟩,[]),(⟨none,none,.store 1 (.t 31) (.t 29)⟩,[])])
 (.seq (.ops [⟨some 32,none,.load (some 5) (.t 7)⟩,⟨some 33,none,.mmk .s (.str [])⟩,⟨some 34,none,.mmk .s (.str [])⟩,⟨some 35,none,.build [(.str []),(.int .i64 0),(.int .i64 0),(.lit true 0 []),(.lit true 0 []),(.str []),(.str []),.any,.any] [(0,5,(.t 32)),(6,1,(.c (.str [48]))),(7,1,(.t 33)),(8,1,(.t 34))]⟩,⟨some 36,none,.box 101 (.t 35)⟩,⟨some 8,none,.mv (.t 36)⟩])
 (.seq (.seq (.ops [⟨some 37,none,.fadr 3 (.t 7)⟩,⟨some 38,none,.load none (.t 37)⟩,⟨some 39,none,.len false (.t 38)⟩,⟨some 40,none,.mv (.c (.int .i64 0))⟩])
 (.block 2 (.loop (.seq (.ops [⟨some 41,none,.bin 0 .lss (.t 40) (.t 39)⟩])
 (.seq (.cond (.t 41) (.skip) (.exit 2))
 (.seq (.block 3 (.seq (.ops [⟨some 42,none,.iadr 2 (.t 38) (.t 40)⟩,⟨some 43,none,.load (some 2) (.t 42)⟩,⟨some 10,none,.alloc 70 [(.str []),(.int .i64 0)]⟩,⟨none,none,.store 2 (.t 10) (.t 43)⟩])
 (.seq (.any [(⟨some 44,none,.mv (.t 8)⟩,[]),(⟨some 45,none,.nilchk (.t 44)⟩,[]),(⟨some 46,none,.fadr 7 (.t 45)⟩,[]),(⟨some 47,none,.load none (.t 46)⟩,[]),(⟨some 48,none,.fadr 0 (.t 10)⟩,[0,1,2,3]),(⟨some 49,none,.load none (.t 48)⟩,[0,1,2,3]),(⟨some 50,none,.fadr 1 (.t 10)⟩,[0,1,2,3,4,5]),(⟨some 51,none,.load none (.t 50)⟩,[0,1,2,3,4,5]),(⟨some 52,none,.call 41 [(.c (.str [48])),(.t 51)]⟩,[0,1,2,3,4,5]),(⟨none,none,.mup .s (.t 47) (.t 49) (.t 52)⟩,[])])
 (.any [(⟨some 53,none,.mv (.t 8)⟩,[]),(⟨some 54,none,.nilchk (.t 53)⟩,[]),(⟨some 55,none,.fadr 8 (.t 54)⟩,[]),(⟨some 56,none,.load none (.t 55)⟩,[]),(⟨some 57,none,.fadr 0 (.t 10)⟩,[0,1,2,3]),(⟨some 58,none,.load none (.t 57)⟩,[0,1,2,3]),(⟨some 59,none,.mv (.t 8)⟩,[0,1,2,3,4,5]),(⟨some 60,none,.nilchk (.t 59)⟩,[0,1,2,3,4,5]),(⟨some 61,none,.fadr 7 (.t 60)⟩,[0,1,2,3,4,5]),(⟨some 62,none,.load none (.t 61)⟩,[0,1,2,3,4,5]),(⟨some 63,none,.fadr 0 (.t 10)⟩,[0,1,2,3,4,5,6,7,8,9]),(⟨some 64,none,.load none (.t 63)⟩,[0,1,2,3,4,5,6,7,8,9]),(⟨some 65,none,.mlk false .s (.str []) (.t 62) (.t 64)⟩,[0,1,2,3,4,5]),(⟨none,none,.mup .s (.t 56) (.t 58) (.t 65)⟩,[])]))))
 (.ops [⟨some 66,none,.bin 0 .add (.t 40) (.c (.int .i64 1))⟩,⟨some 40,none,.mv (.t 66)⟩])))))))
 (.ops [⟨some 67,none,.mv (.t 5)⟩,⟨some 68,none,.mv (.t 5)⟩,⟨some 69,none,.nilchk (.t 68)⟩,⟨some 70,none,.fadr 1 (.t 69)⟩,⟨some 71,none,.load none (.t 70)⟩,⟨some 72,none,.mv (.t 8)⟩,⟨some 73,none,.bslice 98 1 1 [.nilp] [(0,1,(.t 72))]⟩,⟨some 74,none,.app 98 1 8 (.t 71) (.t 73)⟩,⟨some 75,none,.nilchk (.t 67)⟩,⟨some 76,none,.fadr 1 (.t 75)⟩,⟨none,none,.store 1 (.t 76) (.t 74)⟩]))))))
 (.ops [⟨some 77,none,.bin 0 .add (.t 20) (.c (.int .i64 1))⟩,⟨some 20,none,.mv (.t 77)⟩])))))))
 (.seq (.ops [⟨some 78,none,.mv (.t 5)⟩,⟨some 2,none,.mv (.t 78)⟩,⟨some 3,none,.mv (.c (.int .i64 0))⟩])
 (.ret)))))⟩
theorem c25:compF Go.Proofs.Tryz.prog 25=some a25:=by kernel_rfl
def a26 : AFn := ⟨69,[.t 2],.seq (.ops [⟨some 2,none,.mv (.c .nilp)⟩])
 (.seq (.ops [⟨some 9,none,.mv (.t 0)⟩,⟨some 10,none,.mv (.t 0)⟩,⟨some 11,none,.len false (.t 10)⟩,⟨some 12,none,.mks 9 1 16 [(.str [])] (.t 11)⟩,⟨some 13,none,.mmk .q (.str [])⟩,⟨some 14,none,.mmk .q (.str [])⟩,⟨some 15,none,.build [(.lit true 0 []),(.int .i64 0),(.lit true 0 []),(.lit true 0 []),.any,.any] [(0,1,(.t 9)),(2,1,(.t 12)),(4,1,(.t 13)),(5,1,(.t 14))]⟩,⟨some 16,none,.box 104 (.t 15)⟩,⟨some 3,none,.mv (.t 16)⟩])
 (.seq (.seq (.ops [⟨some 17,none,.mv (.t 0)⟩,⟨some 18,none,.len false (.t 17)⟩,⟨some 19,none,.mv (.c (.int .i64 0))⟩])
 (.block 0 (.loop (.seq (.ops [⟨some 20,none,.bin 0 .lss (.t 19) (.t 18)⟩])
 (.seq (.cond (.t 20) (.skip) (.exit 0))
 (.seq (.block 1 (.seq (.ops [⟨some 21,none,.iadr 5 (.t 17) (.t 19)⟩,⟨some 22,none,.load (some 5) (.t 21)⟩,⟨some 5,none,.alloc 57 [(.str []),(.int .i64 0),(.int .i64 0),(.lit true 0 []),(.lit true 0 [])]⟩,⟨none,none,.store 5 (.t 5) (.t 22)⟩])
 (.seq (.ops [⟨some 23,none,.mv (.t 3)⟩,⟨some 24,none,.mv (.t 3)⟩,⟨some 25,none,.nilchk (.t 24)⟩,⟨some 26,none,.fadr 3 (.t 25)⟩,⟨some 27,none,.load none (.t 26)⟩,⟨some 28,none,.bslice 9 1 1 [(.str [])] [(0,1,(.c (.str [48])))]⟩,⟨some 29,none,.app 9 1 16 (.t 27) (.t 28)⟩,⟨some 30,none,.nilchk (.t 23)⟩,⟨some 31,none,.fadr 3 (.t 30)⟩,⟨none,none,.store 1 (.t 31) (.t 29)⟩])
 (.seq (.ops [⟨some 32,none,.fadr 3 (.t 5)⟩,⟨some 33,none,.load none (.t 32)⟩,⟨some 34,none,.len false (.t 33)⟩,⟨some 35,none,.mv (.c (.int .i64 0))⟩])
 (.block 2 (.loop (.seq (.ops [⟨some 36,none,.bin 0 .lss (.t 35) (.t 34)⟩])
 (.seq (.cond (.t 36) (.skip) (.exit 2))
 (.seq (.block 3 (.seq (.ops [⟨some 37,none,.iadr 2 (.t 33) (.t 35)⟩,⟨some 38,none,.load (some 2) (.t 37)⟩,⟨some 7,none,.alloc 70 [(.str []),(.int .i64 0)]⟩,⟨none,none,.store 2 (.t 7) (.t 38)⟩])
 (.seq (.ops [⟨some 39,none,.fadr 1 (.t 7)⟩,⟨some 40,none,.load none (.t 39)⟩,⟨some 41,none,.call 41 [(.c (.str [48])),(.t 40)]⟩,⟨some 8,none,.mv (.t 41)⟩])
 (.any [(⟨some 42,none,.mv (.t 3)⟩,[]),(⟨some 43,none,.nilchk (.t 42)⟩,[]),(⟨some 44,none,.fadr 4 (.t 43)⟩,[]),(⟨some 45,none,.load none (.t 44)⟩,[]),(⟨some 46,none,.fadr 0 (.t 5)⟩,[0,1,2,3]),(⟨some 47,none,.load none (.t 46)⟩,[0,1,2,3]),(⟨some 48,none,.fadr 0 (.t 7)⟩,[0,1,2,3,4,5]),(⟨some 49,none,.load none (.t 48)⟩,[0,1,2,3,4,5]),(⟨some 50,none,.build [(.str []),(.str [])] [(0,1,(.t 47)),(1,1,(.t 49))]⟩,[0,1,2,3]),(⟨some 51,none,.mv (.t 3)⟩,[0,1,2,3,4,5,6,7,8]),(⟨some 52,none,.nilchk (.t 51)⟩,[0,1,2,3,4,5,6,7,8]),(⟨some 53,none,.fadr 5 (.t 52)⟩,[0,1,2,3,4,5,6,7,8]),(⟨some 54,none,.load none (.t 53)⟩,[0,1,2,3,4,5,6,7,8]),(⟨some 55,none,.fadr 0 (.t 5)⟩,[0,1,2,3,4,5,6,7,8,9,10,11,12]),(⟨some 56,none,.load none (.t 55)⟩,[0,1,2,3,4,5,6,7,8,9,10,11,12]),(⟨some 57,none,.fadr 0 (.t 7)⟩,[0,1,2,3,4,5,6,7,8,9,10,11,12,13,14]),(⟨some 58,none,.load none (.t 57)⟩,[0,1,2,3,4,5,6,7,8,9,10,11,12,13,14]),(⟨some 59,none,.build [(.str []),(.str [])] [(0,1,(.t 56)),(1,1,(.t 58))]⟩,[0,1,2,3,4,5,6,7,8,9,10,11,12]),(⟨some 60,none,.mv (.t 8)⟩,[0,1,2,3,4,5,6,7,8,9,10,11,12,13,14,15,16,17]),(⟨some 61,none,.mv (.t 8)⟩,[0,1,2,3,4,5,6,7,8,9,10,11,12,13,14,15,16,17,18]),(⟨some 62,none,.ment .q (.str []) (.t 45) (.t 50)⟩,[13,14,15,16,17,18,19]),(⟨some 63,none,.ext (.t 62) 1⟩,[13,14,15,16,17,18,19]),(⟨none,none,.mest (.t 45) (.t 63) (.t 60)⟩,[13,14,15,16,17,19]),(⟨some 64,none,.ment .q (.str []) (.t 54) (.t 59)⟩,[19]),(⟨some 65,none,.ext (.t 64) 1⟩,[19]),(⟨none,none,.mest (.t 54) (.t 65) (.t 61)⟩,[])]))))
 (.ops [⟨some 66,none,.bin 0 .add (.t 35) (.c (.int .i64 1))⟩,⟨some 35,none,.mv (.t 66)⟩]))))))))))
 (.ops [⟨some 67,none,.bin 0 .add (.t 19) (.c (.int .i64 1))⟩,⟨some 19,none,.mv (.t 67)⟩])))))))
 (.seq (.ops [⟨some 68,none,.mv (.t 3)⟩,⟨some 2,none,.mv (.t 68)⟩])
 (.ret))))⟩
theorem c26:compF Go.Proofs.Tryz.prog 26=some a26:=by kernel_rfl
def a27 : AFn := ⟨19,[.t 6],.seq (.ops [⟨some 6,none,.mv (.c (.int .i64 0))⟩])
 (.seq (.seq (.ops [⟨some 7,none,.mv (.t 2)⟩,⟨some 8,none,.mv (.t 1)⟩,⟨some 9,none,.bin 0 .lss (.t 7) (.t 8)⟩])
 (.cond (.t 9) (.seq (.ops [⟨some 10,none,.mv (.t 1)⟩,⟨some 6,none,.mv (.t 10)⟩])
 (.ret)) (.skip)))
 (.seq (.ops [⟨some 11,none,.mv (.t 1)⟩,⟨some 12,none,.mv (.t 0)⟩,⟨some 13,none,.mv (.t 2)⟩,⟨some 14,none,.mv (.t 1)⟩,⟨some 15,none,.bin 0 .sub (.t 13) (.t 14)⟩,⟨some 16,none,.bin 0 .add (.t 15) (.c (.int .i64 1))⟩,⟨some 17,none,.call 45 [(.t 12),(.t 16)]⟩,⟨some 18,none,.bin 0 .add (.t 11) (.t 17)⟩,⟨some 6,none,.mv (.t 18)⟩])
 (.ret)))⟩
theorem c27:compF Go.Proofs.Tryz.prog 27=some a27:=by kernel_rfl
def a28 : AFn := ⟨18,[.t 6,.t 7],.seq (.ops [⟨some 6,none,.mv (.c (.int .i64 0))⟩,⟨some 7,none,.mv (.c (.int .i64 0))⟩])
 (.seq (.seq (.ops [⟨some 8,none,.mv (.t 1)⟩,⟨some 9,none,.call 75 [(.t 8),(.c (.int .i64 0)),(.c (.int .i64 1))]⟩,⟨some 10,none,.mv (.t 9)⟩,⟨some 11,(some (10,false)),.mv (.t 2)⟩,⟨some 12,(some (10,false)),.call 75 [(.t 11),(.c (.int .i64 0)),(.c (.int .i64 1))]⟩,⟨some 13,none,.pick (.t 10) (.c (.bool true)) (.t 12)⟩])
 (.cond (.t 13) (.seq (.ops [⟨some 6,none,.mv (.c (.int .i64 0))⟩,⟨some 7,none,.mv (.c (.int .i64 1))⟩])
 (.ret)) (.skip)))
 (.seq (.ops [⟨some 14,none,.mv (.t 0)⟩,⟨some 15,none,.mv (.t 1)⟩,⟨some 16,none,.mv (.t 2)⟩,⟨some 17,none,.call 62 [(.t 14),(.t 15),(.t 16)]⟩,⟨some 6,none,.mv (.t 17)⟩,⟨some 7,none,.mv (.c (.int .i64 0))⟩])
 (.ret)))⟩
theorem c28:compF Go.Proofs.Tryz.prog 28=some a28:=by kernel_rfl
def a29 : AFn := ⟨72,[.t 6],.seq (.ops [⟨some 6,none,.mv (.c (.int .i64 0))⟩])
 (.seq (.ops [⟨some 7,none,.mv (.c (.int .i64 (-1)))⟩])
 (.seq (.seq (.ops [⟨some 11,none,.mv (.t 0)⟩,⟨some 12,none,.nilchk (.t 11)⟩,⟨some 13,none,.fadr 1 (.t 12)⟩,⟨some 14,none,.load none (.t 13)⟩,⟨some 15,none,.bin 0 .eql (.t 14) (.c (.int .i64 4))⟩,⟨some 16,none,.mv (.t 15)⟩,⟨some 17,(some (16,false)),.mv (.t 0)⟩,⟨some 18,(some (16,false)),.nilchk (.t 17)⟩,⟨some 19,(some (16,false)),.fadr 1 (.t 18)⟩,⟨some 20,(some (16,false)),.load none (.t 19)⟩,⟨some 21,(some (16,false)),.bin 0 .eql (.t 20) (.c (.int .i64 11))⟩,⟨some 22,none,.pick (.t 16) (.c (.bool true)) (.t 21)⟩])
 (.cond (.t 22) (.seq (.ops [⟨some 23,none,.mv (.t 2)⟩,⟨some 7,none,.mv (.t 23)⟩])
 (.seq (.ops [⟨some 24,none,.mv (.t 0)⟩,⟨some 25,none,.nilchk (.t 24)⟩,⟨some 26,none,.fadr 3 (.t 25)⟩,⟨some 27,none,.load none (.t 26)⟩,⟨some 28,none,.len false (.t 27)⟩,⟨some 29,none,.mv (.c (.int .i64 0))⟩])
 (.block 0 (.loop (.seq (.ops [⟨some 30,none,.bin 0 .lss (.t 29) (.t 28)⟩])
 (.seq (.cond (.t 30) (.skip) (.exit 0))
 (.seq (.block 1 (.seq (.ops [⟨some 31,none,.mv (.t 29)⟩,⟨some 32,none,.iadr 1 (.t 27) (.t 29)⟩,⟨some 33,none,.load none (.t 32)⟩,⟨some 8,none,.mv (.t 31)⟩,⟨some 9,none,.mv (.t 33)⟩])
 (.seq (.any [(⟨some 34,none,.mv (.t 0)⟩,[]),(⟨some 35,none,.nilchk (.t 34)⟩,[]),(⟨some 36,none,.fadr 3 (.t 35)⟩,[]),(⟨some 37,none,.load none (.t 36)⟩,[]),(⟨some 38,none,.mv (.t 8)⟩,[0,1,2,3]),(⟨some 39,none,.mv (.t 9)⟩,[0,1,2,3,4]),(⟨some 40,none,.sls (.t 39) (some (.c (.int .i64 1))) none⟩,[0,1,2,3,4]),(⟨some 41,none,.mv (.t 7)⟩,[0,1,2,3,4,5,6]),(⟨some 42,none,.call 68 [(.t 41)]⟩,[0,1,2,3,4,5,6]),(⟨some 43,none,.bin 1 .add (.t 40) (.t 42)⟩,[0,1,2,3,4]),(⟨some 44,none,.iadr 1 (.t 37) (.t 38)⟩,[]),(⟨none,none,.store 1 (.t 44) (.t 43)⟩,[])])
 (.ops [⟨some 45,none,.mv (.t 9)⟩,⟨some 46,none,.idxs (.t 45) (.c (.int .i64 0))⟩,⟨some 47,none,.bin 0 .sub (.t 46) (.c (.int .u8 48))⟩,⟨some 48,none,.conv .i64 (.t 47)⟩,⟨some 7,none,.mv (.t 48)⟩]))))
 (.ops [⟨some 49,none,.bin 0 .add (.t 29) (.c (.int .i64 1))⟩,⟨some 29,none,.mv (.t 49)⟩])))))))) (.skip)))
 (.seq (.seq (.ops [⟨some 50,none,.mv (.t 0)⟩,⟨some 51,none,.nilchk (.t 50)⟩,⟨some 52,none,.fadr 0 (.t 51)⟩,⟨some 53,none,.load none (.t 52)⟩,⟨some 54,none,.len false (.t 53)⟩,⟨some 55,none,.mv (.c (.int .i64 0))⟩])
 (.block 2 (.loop (.seq (.ops [⟨some 56,none,.bin 0 .lss (.t 55) (.t 54)⟩])
 (.seq (.cond (.t 56) (.skip) (.exit 2))
 (.seq (.block 3 (.seq (.ops [⟨some 57,none,.mv (.t 55)⟩,⟨some 10,none,.mv (.t 57)⟩])
 (.ops [⟨some 58,none,.mv (.t 0)⟩,⟨some 59,none,.mv (.t 10)⟩,⟨some 60,none,.call 76 [(.t 58),(.t 59)]⟩])))
 (.ops [⟨some 61,none,.bin 0 .add (.t 55) (.c (.int .i64 1))⟩,⟨some 55,none,.mv (.t 61)⟩])))))))
 (.seq (.ops [⟨some 62,none,.mv (.t 0)⟩,⟨some 63,none,.mv (.t 0)⟩,⟨some 64,none,.nilchk (.t 63)⟩,⟨some 65,none,.fadr 1 (.t 64)⟩,⟨some 66,none,.load none (.t 65)⟩,⟨some 67,none,.mv (.t 1)⟩,⟨some 68,none,.call 77 [(.t 66),(.t 67)]⟩,⟨some 69,none,.nilchk (.t 62)⟩,⟨some 70,none,.fadr 1 (.t 69)⟩,⟨none,none,.store 1 (.t 70) (.t 68)⟩])
 (.seq (.ops [⟨some 71,none,.mv (.t 7)⟩,⟨some 6,none,.mv (.t 71)⟩])
 (.ret))))))⟩
theorem c29:compF Go.Proofs.Tryz.prog 29=some a29:=by kernel_rfl
def a30 : AFn := ⟨205,[.t 6],.seq (.ops [⟨some 6,none,.mv (.c (.bool false))⟩])
 (.seq (.ops [⟨some 33,none,.mv (.t 0)⟩,⟨some 34,none,.bslice 9 1 4 [(.str [])] [(0,1,(.c (.str [117,49]))),(1,1,(.c (.str [117,49]))),(2,1,(.c (.str [117,50]))),(3,1,(.c (.str [122,122])))]⟩,⟨some 35,none,.call 59 [(.t 33),(.t 34)]⟩,⟨some 36,none,.mv (.t 0)⟩,⟨some 37,none,.bslice 9 1 4 [(.str [])] [(0,1,(.c (.str [100,97,116,97]))),(1,1,(.c (.str [100,97,116,97]))),(2,1,(.c (.str [115,99,97,110]))),(3,1,(.c (.str [98,121,112,97,115,115])))]⟩,⟨some 38,none,.call 59 [(.t 36),(.t 37)]⟩,⟨some 7,none,.mv (.t 35)⟩,⟨some 8,none,.mv (.t 38)⟩])
 (.seq (.seq (.ops [⟨some 39,none,.mv (.t 0)⟩,⟨some 40,none,.call 45 [(.t 39),(.c (.int .i64 6))]⟩])
 (.block 0 (.seq (.ops [⟨some 42,none,.bin 0 .eql (.t 40) (.c (.int .i64 0))⟩,⟨some 41,none,.mv (.t 42)⟩])
 (.cond (.t 41) (.seq (.ops [⟨some 44,none,.mv (.t 1)⟩,⟨some 45,none,.mv (.t 7)⟩,⟨some 46,none,.call 36 [(.t 44),(.t 45)]⟩,⟨some 43,none,.mv (.t 46)⟩,⟨some 47,none,.ext (.t 43) 0⟩,⟨some 48,none,.ext (.t 43) 1⟩,⟨some 9,none,.mv (.t 47)⟩,⟨some 10,none,.mv (.t 48)⟩])
 (.seq (.ops [⟨some 50,none,.mv (.t 2)⟩,⟨some 51,none,.mv (.t 7)⟩,⟨some 52,none,.call 78 [(.t 50),(.t 51)]⟩,⟨some 49,none,.mv (.t 52)⟩,⟨some 53,none,.ext (.t 49) 0⟩,⟨some 54,none,.ext (.t 49) 1⟩,⟨some 11,none,.mv (.t 53)⟩,⟨some 12,none,.mv (.t 54)⟩])
 (.seq (.ops [⟨some 55,none,.mv (.t 10)⟩,⟨some 56,none,.mv (.t 12)⟩,⟨some 57,none,.un .not (.t 56)⟩,⟨some 58,none,.call 79 [(.t 57)]⟩,⟨some 59,none,.bin 0 .eql (.t 55) (.t 58)⟩,⟨some 60,none,.mv (.t 59)⟩,⟨some 61,(some (60,true)),.mv (.t 9)⟩,⟨some 62,(some (60,true)),.mv (.t 11)⟩,⟨some 63,(some (60,true)),.bin 1 .eql (.t 61) (.t 62)⟩,⟨some 64,none,.pick (.t 60) (.t 63) (.c (.bool false))⟩,⟨some 6,none,.mv (.t 64)⟩])
 (.ret)))) (.seq (.ops [⟨some 66,none,.bin 0 .eql (.t 40) (.c (.int .i64 1))⟩,⟨some 65,none,.mv (.t 66)⟩])
 (.cond (.t 65) (.seq (.ops [⟨some 68,none,.mv (.t 1)⟩,⟨some 69,none,.mv (.t 7)⟩,⟨some 70,none,.mv (.t 8)⟩,⟨some 71,none,.call 80 [(.t 68),(.t 69),(.t 70)]⟩,⟨some 67,none,.mv (.t 71)⟩,⟨some 72,none,.ext (.t 67) 0⟩,⟨some 73,none,.ext (.t 67) 1⟩,⟨some 13,none,.mv (.t 72)⟩,⟨some 14,none,.mv (.t 73)⟩])
 (.seq (.ops [⟨some 75,none,.mv (.t 2)⟩,⟨some 76,none,.mv (.t 7)⟩,⟨some 77,none,.mv (.t 8)⟩,⟨some 78,none,.call 81 [(.t 75),(.t 76),(.t 77)]⟩,⟨some 74,none,.mv (.t 78)⟩,⟨some 79,none,.ext (.t 74) 0⟩,⟨some 80,none,.ext (.t 74) 1⟩,⟨some 15,none,.mv (.t 79)⟩,⟨some 16,none,.mv (.t 80)⟩])
 (.seq (.ops [⟨some 81,none,.mv (.t 14)⟩,⟨some 82,none,.mv (.t 16)⟩,⟨some 83,none,.un .not (.t 82)⟩,⟨some 84,none,.call 79 [(.t 83)]⟩,⟨some 85,none,.bin 0 .eql (.t 81) (.t 84)⟩,⟨some 86,none,.mv (.t 85)⟩,⟨some 87,(some (86,true)),.mv (.t 13)⟩,⟨some 88,(some (86,true)),.mv (.t 15)⟩,⟨some 89,(some (86,true)),.bin 1 .eql (.t 87) (.t 88)⟩,⟨some 90,none,.pick (.t 86) (.t 89) (.c (.bool false))⟩,⟨some 6,none,.mv (.t 90)⟩])
 (.ret)))) (.seq (.ops [⟨some 92,none,.bin 0 .eql (.t 40) (.c (.int .i64 2))⟩,⟨some 91,none,.mv (.t 92)⟩])
 (.cond (.t 91) (.seq (.ops [⟨some 93,none,.mv (.t 0)⟩,⟨some 94,none,.mv (.t 0)⟩,⟨some 95,none,.bslice 3 1 4 [(.int .i64 0)] [(0,1,(.c (.int .i64 1))),(1,1,(.c (.int .i64 2))),(2,1,(.c (.int .i64 3))),(3,1,(.c (.int .i64 5)))]⟩,⟨some 96,none,.call 46 [(.t 94),(.t 95)]⟩,⟨some 97,none,.call 13 [(.t 93),(.t 96)]⟩,⟨some 17,none,.mv (.t 97)⟩])
 (.seq (.ops [⟨some 98,none,.mv (.t 1)⟩,⟨some 99,none,.mv (.t 7)⟩,⟨some 100,none,.mv (.t 8)⟩,⟨some 101,none,.mv (.t 17)⟩,⟨some 102,none,.call 82 [(.t 98),(.t 99),(.t 100),(.t 101)]⟩,⟨some 103,none,.mv (.t 2)⟩,⟨some 104,none,.mv (.t 7)⟩,⟨some 105,none,.mv (.t 8)⟩,⟨some 106,none,.mv (.t 17)⟩,⟨some 107,none,.call 83 [(.t 103),(.t 104),(.t 105),(.t 106)]⟩,⟨some 108,none,.bin 0 .eql (.t 102) (.t 107)⟩,⟨some 6,none,.mv (.t 108)⟩])
 (.ret))) (.seq (.ops [⟨some 110,none,.bin 0 .eql (.t 40) (.c (.int .i64 3))⟩,⟨some 109,none,.mv (.t 110)⟩])
 (.cond (.t 109) (.seq (.ops [⟨some 111,none,.mv (.t 0)⟩,⟨some 112,none,.mv (.t 0)⟩,⟨some 113,none,.bslice 3 1 5 [(.int .i64 0)] [(0,1,(.c (.int .i64 0))),(1,1,(.c (.int .i64 2))),(2,1,(.c (.int .i64 4))),(3,1,(.c (.int .i64 7))),(4,1,(.c (.int .i64 12)))]⟩,⟨some 114,none,.call 46 [(.t 112),(.t 113)]⟩,⟨some 115,none,.call 13 [(.t 111),(.t 114)]⟩,⟨some 18,none,.mv (.t 115)⟩])
 (.seq (.ops [⟨some 117,none,.mv (.t 1)⟩,⟨some 118,none,.mv (.t 18)⟩,⟨some 119,none,.call 35 [(.t 117),(.t 118)]⟩,⟨some 116,none,.mv (.t 119)⟩,⟨some 120,none,.ext (.t 116) 0⟩,⟨some 121,none,.ext (.t 116) 1⟩,⟨some 19,none,.mv (.t 120)⟩,⟨some 20,none,.mv (.t 121)⟩])
 (.seq (.ops [⟨some 123,none,.mv (.t 2)⟩,⟨some 124,none,.mv (.t 18)⟩,⟨some 125,none,.call 56 [(.t 123),(.c (.int .i64 11)),(.t 124)]⟩,⟨some 122,none,.mv (.t 125)⟩,⟨some 126,none,.ext (.t 122) 0⟩,⟨some 127,none,.ext (.t 122) 1⟩,⟨some 21,none,.mv (.t 126)⟩,⟨some 22,none,.mv (.t 127)⟩])
 (.seq (.ops [⟨some 128,none,.mv (.t 20)⟩,⟨some 129,none,.mv (.t 22)⟩,⟨some 130,none,.bin 0 .eql (.t 128) (.t 129)⟩,⟨some 131,none,.mv (.t 130)⟩,⟨some 132,(some (131,true)),.mv (.t 19)⟩,⟨some 133,(some (131,true)),.mv (.t 21)⟩,⟨some 134,(some (131,true)),.bin 1 .eql (.t 132) (.t 133)⟩,⟨some 135,none,.pick (.t 131) (.t 134) (.c (.bool false))⟩,⟨some 6,none,.mv (.t 135)⟩])
 (.ret))))) (.seq (.ops [⟨some 137,none,.bin 0 .eql (.t 40) (.c (.int .i64 4))⟩,⟨some 136,none,.mv (.t 137)⟩])
 (.cond (.t 136) (.seq (.ops [⟨some 138,none,.mv (.t 0)⟩,⟨some 139,none,.mv (.t 0)⟩,⟨some 140,none,.bslice 3 1 5 [(.int .i64 0)] [(0,1,(.c (.int .i64 0))),(1,1,(.c (.int .i64 1))),(2,1,(.c (.int .i64 3))),(3,1,(.c (.int .i64 6))),(4,1,(.c (.int .i64 40)))]⟩,⟨some 141,none,.call 46 [(.t 139),(.t 140)]⟩,⟨some 142,none,.call 13 [(.t 138),(.t 141)]⟩,⟨some 23,none,.mv (.t 142)⟩])
 (.seq (.ops [⟨some 144,none,.mv (.t 1)⟩,⟨some 145,none,.mv (.t 23)⟩,⟨some 146,none,.call 40 [(.t 144),(.t 145)]⟩,⟨some 143,none,.mv (.t 146)⟩,⟨some 147,none,.ext (.t 143) 0⟩,⟨some 148,none,.ext (.t 143) 1⟩,⟨some 24,none,.mv (.t 147)⟩,⟨some 25,none,.mv (.t 148)⟩])
 (.seq (.ops [⟨some 150,none,.mv (.t 2)⟩,⟨some 151,none,.mv (.t 23)⟩,⟨some 152,none,.call 56 [(.t 150),(.c (.int .i64 4)),(.t 151)]⟩,⟨some 149,none,.mv (.t 152)⟩,⟨some 153,none,.ext (.t 149) 0⟩,⟨some 154,none,.ext (.t 149) 1⟩,⟨some 26,none,.mv (.t 153)⟩,⟨some 27,none,.mv (.t 154)⟩])
 (.seq (.ops [⟨some 155,none,.mv (.t 25)⟩,⟨some 156,none,.mv (.t 27)⟩,⟨some 157,none,.bin 0 .eql (.t 155) (.t 156)⟩,⟨some 158,none,.mv (.t 157)⟩,⟨some 159,(some (158,true)),.mv (.t 24)⟩,⟨some 160,(some (158,true)),.mv (.t 26)⟩,⟨some 161,(some (158,true)),.bin 1 .eql (.t 159) (.t 160)⟩,⟨some 162,none,.pick (.t 158) (.t 161) (.c (.bool false))⟩,⟨some 6,none,.mv (.t 162)⟩])
 (.ret))))) (.skip)))))))))))))
 (.seq (.ops [⟨some 163,none,.mv (.t 0)⟩,⟨some 164,none,.bslice 3 1 4 [(.int .i64 0)] [(0,1,(.c (.int .i64 0))),(1,1,(.c (.int .i64 1))),(2,1,(.c (.int .i64 1))),(3,1,(.c (.int .i64 2)))]⟩,⟨some 165,none,.call 46 [(.t 163),(.t 164)]⟩,⟨some 166,none,.mv (.t 0)⟩,⟨some 167,none,.bslice 3 1 4 [(.int .i64 0)] [(0,1,(.c (.int .i64 0))),(1,1,(.c (.int .i64 1))),(2,1,(.c (.int .i64 0))),(3,1,(.c (.int .i64 (-1))))]⟩,⟨some 168,none,.call 46 [(.t 166),(.t 167)]⟩,⟨some 28,none,.mv (.t 165)⟩,⟨some 29,none,.mv (.t 168)⟩])
 (.seq (.ops [⟨some 170,none,.mv (.t 1)⟩,⟨some 171,none,.mv (.t 28)⟩,⟨some 172,none,.mv (.t 29)⟩,⟨some 173,none,.call 28 [(.t 170),(.t 171),(.t 172)]⟩,⟨some 169,none,.mv (.t 173)⟩,⟨some 174,none,.ext (.t 169) 0⟩,⟨some 175,none,.ext (.t 169) 1⟩,⟨some 30,none,.mv (.t 174)⟩,⟨some 31,none,.mv (.t 175)⟩])
 (.seq (.seq (.ops [⟨some 176,none,.mv (.t 28)⟩,⟨some 177,none,.call 84 [(.t 176),(.c (.int .i64 0)),(.c (.int .i64 1))]⟩,⟨some 178,none,.mv (.t 29)⟩,⟨some 179,none,.call 84 [(.t 178),(.c (.int .i64 0)),(.c (.int .i64 1))]⟩,⟨some 180,none,.bslice 30 1 2 [(.int .i64 0)] [(0,1,(.t 177)),(1,1,(.t 179))]⟩,⟨some 181,none,.call 16 [(.t 180)]⟩,⟨some 32,none,.mv (.t 181)⟩])
 (.seq (.ops [⟨some 182,none,.mv (.t 32)⟩,⟨some 183,none,.bin 0 .neq (.t 182) (.c (.int .i64 0))⟩])
 (.cond (.t 183) (.seq (.ops [⟨some 184,none,.mv (.t 31)⟩,⟨some 185,none,.mv (.t 32)⟩,⟨some 186,none,.bin 0 .eql (.t 184) (.t 185)⟩,⟨some 187,none,.mv (.t 186)⟩,⟨some 188,(some (187,true)),.mv (.t 30)⟩,⟨some 189,(some (187,true)),.bin 0 .eql (.t 188) (.c (.int .i64 0))⟩,⟨some 190,(some (187,true)),.mv (.t 189)⟩,⟨some 191,(some (190,false)),.mv (.t 30)⟩,⟨some 192,(some (190,false)),.bin 0 .eql (.t 191) (.c (.int .i64 (-1)))⟩,⟨some 193,(some (187,true)),.pick (.t 190) (.c (.bool true)) (.t 192)⟩,⟨some 194,none,.pick (.t 187) (.t 193) (.c (.bool false))⟩,⟨some 6,none,.mv (.t 194)⟩])
 (.ret)) (.skip))))
 (.seq (.ops [⟨some 195,none,.mv (.t 31)⟩,⟨some 196,none,.bin 0 .eql (.t 195) (.c (.int .i64 0))⟩,⟨some 197,none,.mv (.t 196)⟩,⟨some 198,(some (197,true)),.mv (.t 30)⟩,⟨some 199,(some (197,true)),.mv (.t 2)⟩,⟨some 200,(some (197,true)),.mv (.t 28)⟩,⟨some 201,(some (197,true)),.mv (.t 29)⟩,⟨some 202,(some (197,true)),.call 29 [(.t 199),(.t 200),(.t 201)]⟩,⟨some 203,(some (197,true)),.bin 0 .eql (.t 198) (.t 202)⟩,⟨some 204,none,.pick (.t 197) (.t 203) (.c (.bool false))⟩,⟨some 6,none,.mv (.t 204)⟩])
 (.ret)))))))⟩
theorem c30:compF Go.Proofs.Tryz.prog 30=some a30:=by kernel_rfl
def a31 : AFn := ⟨7,[.t 2],.seq (.ops [⟨some 2,none,.mv (.c (.int .i64 0))⟩])
 (.seq (.ops [⟨some 3,none,.mv (.t 0)⟩,⟨some 4,none,.nilchk (.t 3)⟩,⟨some 5,none,.fadr 0 (.t 4)⟩,⟨some 6,none,.load none (.t 5)⟩,⟨some 2,none,.mv (.t 6)⟩])
 (.ret))⟩
theorem c31:compF Go.Proofs.Tryz.prog 31=some a31:=by kernel_rfl
def a32 : AFn := ⟨7,[.t 2],.seq (.ops [⟨some 2,none,.mv (.c (.int .i64 0))⟩])
 (.seq (.ops [⟨some 3,none,.mv (.t 0)⟩,⟨some 4,none,.nilchk (.t 3)⟩,⟨some 5,none,.fadr 1 (.t 4)⟩,⟨some 6,none,.load none (.t 5)⟩,⟨some 2,none,.mv (.t 6)⟩])
 (.ret))⟩
theorem c32:compF Go.Proofs.Tryz.prog 32=some a32:=by kernel_rfl
def a34 : AFn := ⟨16,[.t 4],.seq (.ops [⟨some 4,none,.mv (.c (.str []))⟩])
 (.seq (.ops [⟨some 5,none,.mv (.c (.str []))⟩])
 (.seq (.seq (.ops [⟨some 6,none,.mv (.t 1)⟩,⟨some 7,none,.mv (.c (.int .i64 0))⟩])
 (.block 0 (.loop (.seq (.ops [⟨some 8,none,.bin 0 .lss (.t 7) (.t 6)⟩])
 (.seq (.cond (.t 8) (.skip) (.exit 0))
 (.seq (.block 1 (.ops [⟨some 9,none,.mv (.t 5)⟩,⟨some 10,none,.mv (.t 0)⟩,⟨some 11,none,.bslice 9 1 2 [(.str [])] [(0,1,(.c (.str [48]))),(1,1,(.c (.str [49])))]⟩,⟨some 12,none,.call 59 [(.t 10),(.t 11)]⟩,⟨some 13,none,.bin 1 .add (.t 9) (.t 12)⟩,⟨some 5,none,.mv (.t 13)⟩]))
 (.ops [⟨some 14,none,.bin 0 .add (.t 7) (.c (.int .i64 1))⟩,⟨some 7,none,.mv (.t 14)⟩])))))))
 (.seq (.ops [⟨some 15,none,.mv (.t 5)⟩,⟨some 4,none,.mv (.t 15)⟩])
 (.ret))))⟩
theorem c34:compF Go.Proofs.Tryz.prog 34=some a34:=by kernel_rfl
def a35 : AFn := ⟨11,[.t 4,.t 5],.seq (.ops [⟨some 4,none,.mv (.c (.str []))⟩,⟨some 5,none,.mv (.c (.int .i64 0))⟩])
 (.seq (.ops [⟨some 6,none,.mv (.t 0)⟩,⟨some 7,none,.mv (.t 1)⟩,⟨some 8,none,.call 85 [(.t 6),(.c (.int .i64 11)),(.t 7)]⟩,⟨some 9,none,.ext (.t 8) 0⟩,⟨some 10,none,.ext (.t 8) 1⟩,⟨some 4,none,.mv (.t 9)⟩,⟨some 5,none,.mv (.t 10)⟩])
 (.ret))⟩
theorem c35:compF Go.Proofs.Tryz.prog 35=some a35:=by kernel_rfl
def a36 : AFn := ⟨16,[.t 4,.t 5],.seq (.ops [⟨some 4,none,.mv (.c (.str []))⟩,⟨some 5,none,.mv (.c (.int .i64 0))⟩])
 (.seq (.ops [⟨some 7,none,.mv (.t 0)⟩,⟨some 8,none,.mv (.t 1)⟩,⟨some 9,none,.call 86 [(.t 7),(.t 8)]⟩,⟨some 6,none,.mv (.t 9)⟩])
 (.seq (.seq (.ops [⟨some 10,none,.mv (.t 6)⟩,⟨some 11,none,.bin 4 .eql (.t 10) (.c .nilp)⟩])
 (.cond (.t 11) (.seq (.ops [⟨some 4,none,.mv (.c (.str []))⟩,⟨some 5,none,.mv (.c (.int .i64 8))⟩])
 (.ret)) (.skip)))
 (.seq (.ops [⟨some 12,none,.mv (.t 6)⟩,⟨some 13,none,.nilchk (.t 12)⟩,⟨some 14,none,.fadr 5 (.t 13)⟩,⟨some 15,none,.load none (.t 14)⟩,⟨some 4,none,.mv (.t 15)⟩,⟨some 5,none,.mv (.c (.int .i64 0))⟩])
 (.ret))))⟩
theorem c36:compF Go.Proofs.Tryz.prog 36=some a36:=by kernel_rfl
def a40 : AFn := ⟨11,[.t 4,.t 5],.seq (.ops [⟨some 4,none,.mv (.c (.str []))⟩,⟨some 5,none,.mv (.c (.int .i64 0))⟩])
 (.seq (.ops [⟨some 6,none,.mv (.t 0)⟩,⟨some 7,none,.mv (.t 1)⟩,⟨some 8,none,.call 85 [(.t 6),(.c (.int .i64 4)),(.t 7)]⟩,⟨some 9,none,.ext (.t 8) 0⟩,⟨some 10,none,.ext (.t 8) 1⟩,⟨some 4,none,.mv (.t 9)⟩,⟨some 5,none,.mv (.t 10)⟩])
 (.ret))⟩
theorem c40:compF Go.Proofs.Tryz.prog 40=some a40:=by kernel_rfl
def a42 : AFn := ⟨9,[.t 4],.seq (.ops [⟨some 4,none,.mv (.c (.bool false))⟩])
 (.seq (.ops [⟨some 5,none,.mv (.t 0)⟩,⟨some 6,none,.mv (.t 1)⟩,⟨some 7,none,.call 95 [(.t 5),(.t 6)]⟩,⟨some 8,none,.bin 0 .geq (.t 7) (.c (.int .i64 0))⟩,⟨some 4,none,.mv (.t 8)⟩])
 (.ret))⟩
theorem c42:compF Go.Proofs.Tryz.prog 42=some a42:=by kernel_rfl
def a44 : AFn := ⟨30,[.t 2],.seq (.ops [⟨some 2,none,.mv (.c (.int .i64 0))⟩])
 (.seq (.block 0 (.seq (.ops [⟨some 7,none,.mv (.t 0)⟩,⟨some 8,none,.len false (.t 7)⟩,⟨some 9,none,.bin 0 .eql (.t 8) (.c (.int .i64 0))⟩,⟨some 6,none,.mv (.t 9)⟩])
 (.cond (.t 6) (.seq (.ops [⟨some 2,none,.mv (.c (.int .i64 8))⟩])
 (.ret)) (.seq (.ops [⟨some 11,none,.mv (.t 0)⟩,⟨some 12,none,.len false (.t 11)⟩,⟨some 13,none,.bin 0 .gtr (.t 12) (.c (.int .i64 20))⟩,⟨some 10,none,.mv (.t 13)⟩])
 (.cond (.t 10) (.seq (.ops [⟨some 2,none,.mv (.c (.int .i64 2))⟩])
 (.ret)) (.skip))))))
 (.seq (.seq (.ops [⟨some 14,none,.mv (.t 0)⟩,⟨some 15,none,.len false (.t 14)⟩,⟨some 16,none,.mv (.c (.int .i64 0))⟩])
 (.block 1 (.loop (.seq (.ops [⟨some 17,none,.bin 0 .lss (.t 16) (.t 15)⟩])
 (.seq (.cond (.t 17) (.skip) (.exit 1))
 (.seq (.block 2 (.seq (.ops [⟨some 18,none,.mv (.t 16)⟩,⟨some 19,none,.iadr 5 (.t 14) (.t 16)⟩,⟨some 20,none,.load (some 5) (.t 19)⟩,⟨some 4,none,.alloc 57 [(.str []),(.int .i64 0),(.int .i64 0),(.lit true 0 []),(.lit true 0 [])]⟩,⟨some 3,none,.mv (.t 18)⟩,⟨none,none,.store 5 (.t 4) (.t 20)⟩])
 (.seq (.any [(⟨some 21,none,.load (some 5) (.t 4)⟩,[]),(⟨some 22,none,.mv (.t 0)⟩,[0]),(⟨some 23,none,.mv (.t 3)⟩,[0,1]),(⟨some 24,none,.slc 5 (.t 22) none (some (.t 23))⟩,[0]),(⟨some 25,none,.call 96 [(.t 21),(.t 24)]⟩,[]),(⟨some 5,none,.mv (.t 25)⟩,[])])
 (.seq (.ops [⟨some 26,none,.mv (.t 5)⟩,⟨some 27,none,.bin 0 .neq (.t 26) (.c (.int .i64 0))⟩])
 (.cond (.t 27) (.seq (.ops [⟨some 28,none,.mv (.t 5)⟩,⟨some 2,none,.mv (.t 28)⟩])
 (.ret)) (.skip))))))
 (.ops [⟨some 29,none,.bin 0 .add (.t 16) (.c (.int .i64 1))⟩,⟨some 16,none,.mv (.t 29)⟩])))))))
 (.seq (.ops [⟨some 2,none,.mv (.c (.int .i64 0))⟩])
 (.ret))))⟩
theorem c44:compF Go.Proofs.Tryz.prog 44=some a44:=by kernel_rfl
def a45 : AFn := ⟨64,[.t 4],.seq (.ops [⟨some 4,none,.mv (.c (.int .i64 0))⟩])
 (.seq (.ops [⟨some 7,none,.mv (.t 0)⟩,⟨some 8,none,.nilchk (.t 7)⟩,⟨some 9,none,.fadr 1 (.t 8)⟩,⟨some 10,none,.load none (.t 9)⟩,⟨some 11,none,.bin 0 .add (.t 10) (.c (.int .i64 1))⟩,⟨some 12,none,.nilchk (.t 7)⟩,⟨some 13,none,.fadr 1 (.t 12)⟩,⟨none,none,.store 1 (.t 13) (.t 11)⟩])
 (.seq (.seq (.ops [⟨some 14,none,.mv (.t 0)⟩,⟨some 15,none,.nilchk (.t 14)⟩,⟨some 16,none,.fadr 0 (.t 15)⟩,⟨some 17,none,.load none (.t 16)⟩,⟨some 18,none,.len false (.t 17)⟩,⟨some 19,none,.bin 0 .eql (.t 18) (.c (.int .i64 0))⟩])
 (.cond (.t 19) (.seq (.ops [⟨some 20,none,.mv (.t 0)⟩,⟨some 21,none,.nilchk (.t 20)⟩,⟨some 22,none,.fadr 1 (.t 21)⟩,⟨some 23,none,.load none (.t 22)⟩,⟨some 24,none,.bin 0 .mul (.t 23) (.c (.int .i64 7919))⟩,⟨some 25,none,.mv (.t 1)⟩,⟨some 26,none,.call 97 [(.t 24),(.t 25)]⟩,⟨some 4,none,.mv (.t 26)⟩])
 (.ret)) (.skip)))
 (.seq (.any [(⟨some 27,none,.mv (.t 0)⟩,[]),(⟨some 28,none,.nilchk (.t 27)⟩,[]),(⟨some 29,none,.fadr 1 (.t 28)⟩,[]),(⟨some 30,none,.load none (.t 29)⟩,[]),(⟨some 31,none,.bin 0 .sub (.t 30) (.c (.int .i64 1))⟩,[]),(⟨some 32,none,.mv (.t 0)⟩,[0,1,2,3,4]),(⟨some 33,none,.nilchk (.t 32)⟩,[0,1,2,3,4]),(⟨some 34,none,.fadr 0 (.t 33)⟩,[0,1,2,3,4]),(⟨some 35,none,.load none (.t 34)⟩,[0,1,2,3,4]),(⟨some 36,none,.len false (.t 35)⟩,[0,1,2,3,4]),(⟨some 37,none,.bin 0 .rem (.t 31) (.t 36)⟩,[]),(⟨some 5,none,.mv (.t 37)⟩,[])])
 (.seq (.any [(⟨some 38,none,.mv (.t 0)⟩,[]),(⟨some 39,none,.nilchk (.t 38)⟩,[]),(⟨some 40,none,.fadr 1 (.t 39)⟩,[]),(⟨some 41,none,.load none (.t 40)⟩,[]),(⟨some 42,none,.bin 0 .sub (.t 41) (.c (.int .i64 1))⟩,[]),(⟨some 43,none,.mv (.t 0)⟩,[0,1,2,3,4]),(⟨some 44,none,.nilchk (.t 43)⟩,[0,1,2,3,4]),(⟨some 45,none,.fadr 0 (.t 44)⟩,[0,1,2,3,4]),(⟨some 46,none,.load none (.t 45)⟩,[0,1,2,3,4]),(⟨some 47,none,.len false (.t 46)⟩,[0,1,2,3,4]),(⟨some 48,none,.bin 0 .quo (.t 42) (.t 47)⟩,[]),(⟨some 6,none,.mv (.t 48)⟩,[])])
 (.seq (.ops [⟨some 49,none,.mv (.t 0)⟩,⟨some 50,none,.nilchk (.t 49)⟩,⟨some 51,none,.fadr 0 (.t 50)⟩,⟨some 52,none,.load none (.t 51)⟩,⟨some 53,none,.mv (.t 5)⟩,⟨some 54,none,.iadr 1 (.t 52) (.t 53)⟩,⟨some 55,none,.load none (.t 54)⟩,⟨some 56,none,.call 97 [(.t 55),(.c (.int .i64 1073741824))]⟩,⟨some 57,none,.mv (.t 6)⟩,⟨some 58,none,.mv (.t 5)⟩,⟨some 59,none,.bin 0 .add (.c (.int .i64 7919)) (.t 58)⟩,⟨some 60,none,.bin 0 .mul (.t 57) (.t 59)⟩,⟨some 61,none,.bin 0 .add (.t 56) (.t 60)⟩,⟨some 62,none,.mv (.t 1)⟩,⟨some 63,none,.call 97 [(.t 61),(.t 62)]⟩,⟨some 4,none,.mv (.t 63)⟩])
 (.ret))))))⟩
theorem c45:compF Go.Proofs.Tryz.prog 45=some a45:=by kernel_rfl
def a46 : AFn := ⟨12,[.t 4],.seq (.ops [⟨some 4,none,.mv (.c (.int .i64 0))⟩])
 (.seq (.ops [⟨some 5,none,.mv (.t 1)⟩,⟨some 6,none,.mv (.t 0)⟩,⟨some 7,none,.mv (.t 1)⟩,⟨some 8,none,.len false (.t 7)⟩,⟨some 9,none,.call 45 [(.t 6),(.t 8)]⟩,⟨some 10,none,.iadr 1 (.t 5) (.t 9)⟩,⟨some 11,none,.load none (.t 10)⟩,⟨some 4,none,.mv (.t 11)⟩])
 (.ret))⟩
theorem c46:compF Go.Proofs.Tryz.prog 46=some a46:=by kernel_rfl
def a49 : AFn := ⟨50,[.c 4 (some 2)],.seq (.ops [⟨some 2,none,.box 57 (.t 0)⟩,⟨some 4,none,.alloc 70 [(.str []),(.int .i64 0)]⟩])
 (.seq (.ops [⟨some 5,none,.mv (.c (.str [98,121,112,97,115,115]))⟩])
 (.seq (.seq (.ops [⟨some 10,none,.mv (.t 1)⟩,⟨some 11,none,.bin 1 .eql (.t 10) (.c (.str []))⟩,⟨some 12,none,.mv (.t 11)⟩,⟨some 13,(some (12,true)),.fadr 2 (.t 2)⟩,⟨some 14,(some (12,true)),.load none (.t 13)⟩,⟨some 15,(some (12,true)),.bin 0 .neq (.t 14) (.c (.int .i64 0))⟩,⟨some 16,none,.pick (.t 12) (.t 15) (.c (.bool false))⟩])
 (.cond (.t 16) (.ops [⟨some 5,none,.mv (.c (.str [105,100,99,111,100,101]))⟩]) (.skip)))
 (.seq (.seq (.ops [⟨some 17,none,.fadr 4 (.t 2)⟩,⟨some 18,none,.load none (.t 17)⟩,⟨some 19,none,.len false (.t 18)⟩,⟨some 20,none,.mv (.c (.int .i64 0))⟩])
 (.block 0 (.loop (.seq (.ops [⟨some 21,none,.bin 0 .lss (.t 20) (.t 19)⟩])
 (.seq (.cond (.t 21) (.skip) (.exit 0))
 (.seq (.block 1 (.seq (.ops [⟨some 22,none,.iadr 2 (.t 18) (.t 20)⟩,⟨some 23,none,.load (some 2) (.t 22)⟩,⟨some 7,none,.alloc 68 [(.str []),(.str [])]⟩,⟨none,none,.store 2 (.t 7) (.t 23)⟩])
 (.seq (.ops [⟨some 24,none,.fadr 0 (.t 7)⟩,⟨some 25,none,.load none (.t 24)⟩,⟨some 26,none,.mv (.t 1)⟩,⟨some 27,none,.bin 1 .eql (.t 25) (.t 26)⟩])
 (.cond (.t 27) (.ops [⟨some 28,none,.fadr 1 (.t 7)⟩,⟨some 29,none,.load none (.t 28)⟩,⟨some 5,none,.mv (.t 29)⟩]) (.skip)))))
 (.ops [⟨some 30,none,.bin 0 .add (.t 20) (.c (.int .i64 1))⟩,⟨some 20,none,.mv (.t 30)⟩])))))))
 (.seq (.seq (.ops [⟨some 31,none,.fadr 3 (.t 2)⟩,⟨some 32,none,.load none (.t 31)⟩,⟨some 33,none,.len false (.t 32)⟩,⟨some 34,none,.mv (.c (.int .i64 0))⟩])
 (.block 2 (.loop (.seq (.ops [⟨some 35,none,.bin 0 .lss (.t 34) (.t 33)⟩])
 (.seq (.cond (.t 35) (.skip) (.exit 2))
 (.seq (.block 3 (.seq (.ops [⟨some 36,none,.iadr 2 (.t 32) (.t 34)⟩,⟨some 37,none,.load (some 2) (.t 36)⟩,⟨some 9,none,.alloc 70 [(.str []),(.int .i64 0)]⟩,⟨none,none,.store 2 (.t 9) (.t 37)⟩])
 (.seq (.ops [⟨some 38,none,.fadr 0 (.t 9)⟩,⟨some 39,none,.load none (.t 38)⟩,⟨some 40,none,.mv (.t 5)⟩,⟨some 41,none,.bin 1 .eql (.t 39) (.t 40)⟩])
 (.cond (.t 41) (.seq (.ops [⟨some 42,none,.load (some 2) (.t 9)⟩,⟨none,none,.store 2 (.t 4) (.t 42)⟩])
 (.ret)) (.skip)))))
 (.ops [⟨some 43,none,.bin 0 .add (.t 34) (.c (.int .i64 1))⟩,⟨some 34,none,.mv (.t 43)⟩])))))))
 (.seq (.seq (.ops [⟨some 44,none,.mv (.t 5)⟩,⟨some 45,none,.bin 1 .eql (.t 44) (.c (.str [105,100,99,111,100,101]))⟩])
 (.cond (.t 45) (.seq (.ops [⟨some 46,none,.mv (.t 5)⟩,⟨some 47,none,.build [(.str []),(.int .i64 0)] [(0,1,(.t 46)),(1,1,(.c (.int .i64 32)))]⟩,⟨none,none,.store 2 (.t 4) (.t 47)⟩])
 (.ret)) (.skip)))
 (.seq (.ops [⟨some 48,none,.mv (.t 5)⟩,⟨some 49,none,.build [(.str []),(.int .i64 0)] [(0,1,(.t 48)),(1,1,(.c (.int .i64 1)))]⟩,⟨none,none,.store 2 (.t 4) (.t 49)⟩])
 (.ret)))))))⟩
theorem c49:compF Go.Proofs.Tryz.prog 49=some a49:=by kernel_rfl
def a56 : AFn := ⟨81,[.t 6,.t 7],.seq (.ops [⟨some 6,none,.mv (.c (.str []))⟩,⟨some 7,none,.mv (.c (.int .i64 0))⟩])
 (.seq (.block 0 (.seq (.ops [⟨some 14,none,.mv (.t 0)⟩,⟨some 15,none,.nilchk (.t 14)⟩,⟨some 16,none,.fadr 1 (.t 15)⟩,⟨some 17,none,.load none (.t 16)⟩,⟨some 18,none,.bin 0 .neq (.t 17) (.c (.int .i64 1))⟩,⟨some 19,none,.mv (.t 18)⟩,⟨some 20,(some (19,true)),.mv (.t 0)⟩,⟨some 21,(some (19,true)),.nilchk (.t 20)⟩,⟨some 22,(some (19,true)),.fadr 1 (.t 21)⟩,⟨some 23,(some (19,true)),.load none (.t 22)⟩,⟨some 24,(some (19,true)),.bin 0 .neq (.t 23) (.c (.int .i64 0))⟩,⟨some 25,none,.pick (.t 19) (.t 24) (.c (.bool false))⟩,⟨some 13,none,.mv (.t 25)⟩])
 (.cond (.t 13) (.seq (.ops [⟨some 6,none,.mv (.c (.str []))⟩,⟨some 7,none,.mv (.c (.int .i64 11))⟩])
 (.ret)) (.seq (.ops [⟨some 27,none,.mv (.t 2)⟩,⟨some 28,none,.bin 1 .eql (.t 27) (.c (.str []))⟩,⟨some 26,none,.mv (.t 28)⟩])
 (.cond (.t 26) (.seq (.ops [⟨some 6,none,.mv (.c (.str []))⟩,⟨some 7,none,.mv (.c (.int .i64 8))⟩])
 (.ret)) (.seq (.ops [⟨some 30,none,.mv (.t 2)⟩,⟨some 31,none,.call 70 [(.t 30)]⟩,⟨some 32,none,.bin 0 .neq (.t 31) (.c (.int .i64 0))⟩,⟨some 29,none,.mv (.t 32)⟩])
 (.cond (.t 29) (.seq (.ops [⟨some 33,none,.mv (.t 2)⟩,⟨some 34,none,.call 70 [(.t 33)]⟩,⟨some 6,none,.mv (.c (.str []))⟩,⟨some 7,none,.mv (.t 34)⟩])
 (.ret)) (.skip))))))))
 (.seq (.seq (.ops [⟨some 35,none,.mv (.t 0)⟩,⟨some 36,none,.nilchk (.t 35)⟩,⟨some 37,none,.fadr 1 (.t 36)⟩,⟨some 38,none,.load none (.t 37)⟩,⟨some 39,none,.mv (.t 1)⟩,⟨some 40,none,.call 109 [(.t 38),(.t 39)]⟩,⟨some 41,none,.s2b (.t 40)⟩,⟨some 42,none,.len false (.t 41)⟩,⟨some 43,none,.mv (.c (.int .i64 0))⟩])
 (.block 1 (.loop (.seq (.ops [⟨some 44,none,.bin 0 .lss (.t 43) (.t 42)⟩])
 (.seq (.cond (.t 44) (.skip) (.exit 1))
 (.seq (.block 2 (.seq (.ops [⟨some 45,none,.iadr 1 (.t 41) (.t 43)⟩,⟨some 46,none,.load none (.t 45)⟩,⟨some 9,none,.mv (.t 46)⟩])
 (.ops [⟨some 47,none,.mv (.t 0)⟩,⟨some 48,none,.mv (.t 9)⟩,⟨some 49,none,.bin 0 .sub (.t 48) (.c (.int .u8 48))⟩,⟨some 50,none,.conv .i64 (.t 49)⟩,⟨some 51,none,.call 29 [(.t 47),(.t 50),(.c (.int .i64 0))]⟩])))
 (.ops [⟨some 52,none,.bin 0 .add (.t 43) (.c (.int .i64 1))⟩,⟨some 43,none,.mv (.t 52)⟩])))))))
 (.seq (.ops [⟨some 10,none,.mv (.c (.str []))⟩])
 (.seq (.seq (.ops [⟨some 53,none,.mv (.t 2)⟩,⟨some 54,none,.s2b (.t 53)⟩,⟨some 55,none,.len false (.t 54)⟩,⟨some 56,none,.mv (.c (.int .i64 0))⟩])
 (.block 3 (.loop (.seq (.ops [⟨some 57,none,.bin 0 .lss (.t 56) (.t 55)⟩])
 (.seq (.cond (.t 57) (.skip) (.exit 3))
 (.seq (.block 4 (.seq (.ops [⟨some 58,none,.mv (.t 56)⟩,⟨some 59,none,.iadr 1 (.t 54) (.t 56)⟩,⟨some 60,none,.load none (.t 59)⟩,⟨some 11,none,.mv (.t 58)⟩,⟨some 12,none,.mv (.t 60)⟩])
 (.ops [⟨some 61,none,.mv (.t 10)⟩,⟨some 62,none,.mv (.t 0)⟩,⟨some 63,none,.mv (.t 11)⟩,⟨some 64,none,.mv (.t 2)⟩,⟨some 65,none,.len true (.t 64)⟩,⟨some 66,none,.bin 0 .sub (.t 65) (.c (.int .i64 1))⟩,⟨some 67,none,.bin 0 .eql (.t 63) (.t 66)⟩,⟨some 68,none,.call 110 [(.t 67)]⟩,⟨some 69,none,.mv (.t 12)⟩,⟨some 70,none,.bin 0 .sub (.t 69) (.c (.int .u8 48))⟩,⟨some 71,none,.conv .i64 (.t 70)⟩,⟨some 72,none,.call 29 [(.t 62),(.t 68),(.t 71)]⟩,⟨some 73,none,.call 68 [(.t 72)]⟩,⟨some 74,none,.bin 1 .add (.t 61) (.t 73)⟩,⟨some 10,none,.mv (.t 74)⟩])))
 (.ops [⟨some 75,none,.bin 0 .add (.t 56) (.c (.int .i64 1))⟩,⟨some 56,none,.mv (.t 75)⟩])))))))
 (.seq (.ops [⟨some 76,none,.mv (.t 0)⟩,⟨some 77,none,.call 29 [(.t 76),(.c (.int .i64 1)),(.c (.int .i64 0))]⟩])
 (.seq (.ops [⟨some 78,none,.mv (.t 0)⟩,⟨some 79,none,.call 29 [(.t 78),(.c (.int .i64 0)),(.c (.int .i64 0))]⟩])
 (.seq (.ops [⟨some 80,none,.mv (.t 10)⟩,⟨some 6,none,.mv (.t 80)⟩,⟨some 7,none,.mv (.c (.int .i64 0))⟩])
 (.ret))))))))⟩
theorem c56:compF Go.Proofs.Tryz.prog 56=some a56:=by kernel_rfl
def a57 : AFn := ⟨8,[.t 4],.seq (.ops [⟨some 4,none,.mv (.c (.str []))⟩])
 (.seq (.ops [⟨some 5,none,.mv (.t 0)⟩,⟨some 6,none,.mv (.t 1)⟩,⟨some 7,none,.call 111 [(.t 5),(.t 6)]⟩,⟨some 4,none,.mv (.t 7)⟩])
 (.ret))⟩
theorem c57:compF Go.Proofs.Tryz.prog 57=some a57:=by kernel_rfl
def a58 : AFn := ⟨115,[],.seq (.ops [⟨some 6,none,.mv (.t 0)⟩,⟨some 7,none,.call 45 [(.t 6),(.c (.int .i64 4))]⟩])
 (.block 0 (.seq (.ops [⟨some 52,none,.bin 0 .eql (.t 7) (.c (.int .i64 0))⟩,⟨some 51,none,.mv (.t 52)⟩])
 (.cond (.t 51) (.ops [⟨some 53,none,.mv (.t 1)⟩,⟨some 54,none,.mv (.t 1)⟩,⟨some 55,none,.mv (.t 0)⟩,⟨some 56,none,.mv (.t 1)⟩,⟨some 57,none,.nilchk (.t 56)⟩,⟨some 58,none,.fadr 0 (.t 57)⟩,⟨some 59,none,.load none (.t 58)⟩,⟨some 60,none,.bslice 9 1 3 [(.str [])] [(0,1,(.t 59)),(1,1,(.c (.str []))),(2,1,(.c (.str [117,49])))]⟩,⟨some 61,none,.call 59 [(.t 55),(.t 60)]⟩,⟨some 62,none,.mv (.t 0)⟩,⟨some 63,none,.call 112 [(.t 62),(.c (.int .i64 2)),(.c (.int .i64 4))]⟩,⟨some 64,none,.nilchk (.t 53)⟩,⟨some 65,none,.fadr 0 (.t 64)⟩,⟨none,none,.store 1 (.t 65) (.t 61)⟩,⟨some 66,none,.nilchk (.t 54)⟩,⟨some 67,none,.fadr 1 (.t 66)⟩,⟨none,none,.store 1 (.t 67) (.t 63)⟩]) (.seq (.ops [⟨some 69,none,.bin 0 .eql (.t 7) (.c (.int .i64 1))⟩,⟨some 68,none,.mv (.t 69)⟩])
 (.cond (.t 68) (.ops [⟨some 70,none,.mv (.t 1)⟩,⟨some 71,none,.mv (.t 0)⟩,⟨some 72,none,.mv (.t 1)⟩,⟨some 73,none,.nilchk (.t 72)⟩,⟨some 74,none,.fadr 2 (.t 73)⟩,⟨some 75,none,.load none (.t 74)⟩,⟨some 76,none,.bslice 3 1 5 [(.int .i64 0)] [(0,1,(.t 75)),(1,1,(.c (.int .i64 4))),(2,1,(.c (.int .i64 (-1)))),(3,1,(.c (.int .i64 4294967296))),(4,1,(.c (.int .i64 4294967297)))]⟩,⟨some 77,none,.call 46 [(.t 71),(.t 76)]⟩,⟨some 78,none,.nilchk (.t 70)⟩,⟨some 79,none,.fadr 2 (.t 78)⟩,⟨none,none,.store 1 (.t 79) (.t 77)⟩]) (.seq (.ops [⟨some 81,none,.bin 0 .eql (.t 7) (.c (.int .i64 2))⟩,⟨some 80,none,.mv (.t 81)⟩])
 (.cond (.t 80) (.seq (.ops [⟨some 82,none,.mv (.t 1)⟩,⟨some 83,none,.nilchk (.t 82)⟩,⟨some 84,none,.fadr 3 (.t 83)⟩,⟨some 85,none,.load none (.t 84)⟩,⟨some 86,none,.len false (.t 85)⟩,⟨some 87,none,.bin 0 .gtr (.t 86) (.c (.int .i64 0))⟩])
 (.cond (.t 87) (.seq (.any [(⟨some 88,none,.mv (.t 1)⟩,[]),(⟨some 89,none,.nilchk (.t 88)⟩,[]),(⟨some 90,none,.fadr 3 (.t 89)⟩,[]),(⟨some 91,none,.load none (.t 90)⟩,[]),(⟨some 92,none,.mv (.t 0)⟩,[0,1,2,3]),(⟨some 93,none,.mv (.t 1)⟩,[0,1,2,3,4]),(⟨some 94,none,.nilchk (.t 93)⟩,[0,1,2,3,4]),(⟨some 95,none,.fadr 3 (.t 94)⟩,[0,1,2,3,4]),(⟨some 96,none,.load none (.t 95)⟩,[0,1,2,3,4]),(⟨some 97,none,.len false (.t 96)⟩,[0,1,2,3,4]),(⟨some 98,none,.call 45 [(.t 92),(.t 97)]⟩,[0,1,2,3]),(⟨some 99,none,.iadr 2 (.t 91) (.t 98)⟩,[]),(⟨some 4,none,.mv (.t 99)⟩,[])])
 (.ops [⟨some 100,none,.mv (.t 4)⟩,⟨some 101,none,.mv (.t 4)⟩,⟨some 102,none,.mv (.t 0)⟩,⟨some 103,none,.mv (.t 4)⟩,⟨some 104,none,.nilchk (.t 103)⟩,⟨some 105,none,.fadr 0 (.t 104)⟩,⟨some 106,none,.load none (.t 105)⟩,⟨some 107,none,.bslice 9 1 4 [(.str [])] [(0,1,(.t 106)),(1,1,(.c (.str [98,121,112,97,115,115]))),(2,1,(.c (.str [100,97,116,97]))),(3,1,(.c (.str [65])))]⟩,⟨some 108,none,.call 59 [(.t 102),(.t 107)]⟩,⟨some 109,none,.mv (.t 0)⟩,⟨some 110,none,.call 112 [(.t 109),(.c (.int .i64 1)),(.c (.int .i64 5))]⟩,⟨some 111,none,.nilchk (.t 100)⟩,⟨some 112,none,.fadr 0 (.t 111)⟩,⟨none,none,.store 1 (.t 112) (.t 108)⟩,⟨some 113,none,.nilchk (.t 101)⟩,⟨some 114,none,.fadr 1 (.t 113)⟩,⟨none,none,.store 1 (.t 114) (.t 110)⟩])) (.skip))) (.seq (.ops [⟨some 8,none,.mv (.t 1)⟩,⟨some 9,none,.nilchk (.t 8)⟩,⟨some 10,none,.fadr 4 (.t 9)⟩,⟨some 11,none,.load none (.t 10)⟩,⟨some 12,none,.len false (.t 11)⟩,⟨some 13,none,.bin 0 .gtr (.t 12) (.c (.int .i64 0))⟩])
 (.cond (.t 13) (.seq (.any [(⟨some 14,none,.mv (.t 1)⟩,[]),(⟨some 15,none,.nilchk (.t 14)⟩,[]),(⟨some 16,none,.fadr 4 (.t 15)⟩,[]),(⟨some 17,none,.load none (.t 16)⟩,[]),(⟨some 18,none,.mv (.t 0)⟩,[0,1,2,3]),(⟨some 19,none,.mv (.t 1)⟩,[0,1,2,3,4]),(⟨some 20,none,.nilchk (.t 19)⟩,[0,1,2,3,4]),(⟨some 21,none,.fadr 4 (.t 20)⟩,[0,1,2,3,4]),(⟨some 22,none,.load none (.t 21)⟩,[0,1,2,3,4]),(⟨some 23,none,.len false (.t 22)⟩,[0,1,2,3,4]),(⟨some 24,none,.call 45 [(.t 18),(.t 23)]⟩,[0,1,2,3]),(⟨some 25,none,.iadr 2 (.t 17) (.t 24)⟩,[]),(⟨some 5,none,.mv (.t 25)⟩,[])])
 (.any [(⟨some 26,none,.mv (.t 5)⟩,[]),(⟨some 27,none,.mv (.t 5)⟩,[0]),(⟨some 28,none,.mv (.t 0)⟩,[0,1]),(⟨some 29,none,.mv (.t 5)⟩,[0,1,2]),(⟨some 30,none,.nilchk (.t 29)⟩,[0,1,2]),(⟨some 31,none,.fadr 0 (.t 30)⟩,[0,1,2]),(⟨some 32,none,.load none (.t 31)⟩,[0,1,2]),(⟨some 33,none,.mv (.t 1)⟩,[0,1,2,3,4,5,6]),(⟨some 34,none,.nilchk (.t 33)⟩,[0,1,2,3,4,5,6]),(⟨some 35,none,.fadr 1 (.t 34)⟩,[0,1,2,3,4,5,6]),(⟨some 36,none,.load none (.t 35)⟩,[0,1,2,3,4,5,6]),(⟨some 37,none,.call 41 [(.c (.str [49])),(.t 36)]⟩,[0,1,2,3,4,5,6]),(⟨some 38,none,.bslice 9 1 4 [(.str [])] [(0,1,(.t 32)),(1,1,(.t 37)),(2,1,(.c (.str [48]))),(3,1,(.c (.str [48,120])))]⟩,[0,1,2]),(⟨some 39,none,.call 59 [(.t 28),(.t 38)]⟩,[0,1]),(⟨some 40,none,.mv (.t 0)⟩,[0,1,2,3,4,5,6,7,8,9,10,11,12,13]),(⟨some 41,none,.mv (.t 5)⟩,[0,1,2,3,4,5,6,7,8,9,10,11,12,13,14]),(⟨some 42,none,.nilchk (.t 41)⟩,[0,1,2,3,4,5,6,7,8,9,10,11,12,13,14]),(⟨some 43,none,.fadr 1 (.t 42)⟩,[0,1,2,3,4,5,6,7,8,9,10,11,12,13,14]),(⟨some 44,none,.load none (.t 43)⟩,[0,1,2,3,4,5,6,7,8,9,10,11,12,13,14]),(⟨some 45,none,.bslice 9 1 3 [(.str [])] [(0,1,(.t 44)),(1,1,(.c (.str [105,100,99,111,100,101]))),(2,1,(.c (.str [122,122])))]⟩,[0,1,2,3,4,5,6,7,8,9,10,11,12,13,14]),(⟨some 46,none,.call 59 [(.t 40),(.t 45)]⟩,[0,1]),(⟨some 47,none,.nilchk (.t 26)⟩,[1]),(⟨some 48,none,.fadr 0 (.t 47)⟩,[1]),(⟨none,none,.store 1 (.t 48) (.t 39)⟩,[1]),(⟨some 49,none,.nilchk (.t 27)⟩,[]),(⟨some 50,none,.fadr 1 (.t 49)⟩,[]),(⟨none,none,.store 1 (.t 50) (.t 46)⟩,[])])) (.skip))))))))))⟩
theorem c58:compF Go.Proofs.Tryz.prog 58=some a58:=by kernel_rfl
def a59 : AFn := ⟨12,[.t 4],.seq (.ops [⟨some 4,none,.mv (.c (.str []))⟩])
 (.seq (.ops [⟨some 5,none,.mv (.t 1)⟩,⟨some 6,none,.mv (.t 0)⟩,⟨some 7,none,.mv (.t 1)⟩,⟨some 8,none,.len false (.t 7)⟩,⟨some 9,none,.call 45 [(.t 6),(.t 8)]⟩,⟨some 10,none,.iadr 1 (.t 5) (.t 9)⟩,⟨some 11,none,.load none (.t 10)⟩,⟨some 4,none,.mv (.t 11)⟩])
 (.ret))⟩
theorem c59:compF Go.Proofs.Tryz.prog 59=some a59:=by kernel_rfl
def a60 : AFn := ⟨63,[.t 6],.seq (.ops [⟨some 6,none,.mv (.c (.str []))⟩])
 (.seq (.seq (.ops [⟨some 9,none,.mv (.t 1)⟩,⟨some 10,none,.bin 1 .eql (.t 9) (.c (.str []))⟩,⟨some 11,none,.mv (.t 10)⟩,⟨some 12,(some (11,false)),.mv (.t 2)⟩,⟨some 13,(some (11,false)),.bin 1 .eql (.t 12) (.c (.str []))⟩,⟨some 14,none,.pick (.t 11) (.c (.bool true)) (.t 13)⟩])
 (.cond (.t 14) (.seq (.ops [⟨some 15,none,.mv (.t 2)⟩,⟨some 6,none,.mv (.t 15)⟩])
 (.ret)) (.skip)))
 (.seq (.ops [⟨some 16,none,.mv (.t 0)⟩,⟨some 17,none,.mv (.t 1)⟩,⟨some 18,none,.len true (.t 17)⟩,⟨some 19,none,.call 45 [(.t 16),(.t 18)]⟩,⟨some 7,none,.mv (.t 19)⟩])
 (.seq (.ops [⟨some 20,none,.mv (.t 2)⟩,⟨some 21,none,.mv (.t 0)⟩,⟨some 22,none,.mv (.t 2)⟩,⟨some 23,none,.len true (.t 22)⟩,⟨some 24,none,.call 45 [(.t 21),(.t 23)]⟩,⟨some 25,none,.idxs (.t 20) (.t 24)⟩,⟨some 8,none,.mv (.t 25)⟩])
 (.seq (.seq (.ops [⟨some 26,none,.mv (.t 0)⟩,⟨some 27,none,.call 45 [(.t 26),(.c (.int .i64 3))]⟩])
 (.block 0 (.seq (.ops [⟨some 29,none,.bin 0 .eql (.t 27) (.c (.int .i64 0))⟩,⟨some 28,none,.mv (.t 29)⟩])
 (.cond (.t 28) (.seq (.any [(⟨some 30,none,.mv (.t 1)⟩,[]),(⟨some 31,none,.mv (.t 7)⟩,[0]),(⟨some 32,none,.sls (.t 30) none (some (.t 31))⟩,[]),(⟨some 33,none,.mv (.t 8)⟩,[0,1,2]),(⟨some 34,none,.conv .i32 (.t 33)⟩,[0,1,2]),(⟨some 35,none,.i2s (.t 34)⟩,[0,1,2]),(⟨some 36,none,.bin 1 .add (.t 32) (.t 35)⟩,[]),(⟨some 37,none,.mv (.t 1)⟩,[0,1,2,3,4,5,6]),(⟨some 38,none,.mv (.t 7)⟩,[0,1,2,3,4,5,6,7]),(⟨some 39,none,.bin 0 .add (.t 38) (.c (.int .i64 1))⟩,[0,1,2,3,4,5,6,7]),(⟨some 40,none,.sls (.t 37) (some (.t 39)) none⟩,[0,1,2,3,4,5,6]),(⟨some 41,none,.bin 1 .add (.t 36) (.t 40)⟩,[]),(⟨some 6,none,.mv (.t 41)⟩,[])])
 (.ret)) (.seq (.ops [⟨some 43,none,.bin 0 .eql (.t 27) (.c (.int .i64 1))⟩,⟨some 42,none,.mv (.t 43)⟩])
 (.cond (.t 42) (.seq (.any [(⟨some 44,none,.mv (.t 1)⟩,[]),(⟨some 45,none,.mv (.t 7)⟩,[0]),(⟨some 46,none,.sls (.t 44) none (some (.t 45))⟩,[]),(⟨some 47,none,.mv (.t 8)⟩,[0,1,2]),(⟨some 48,none,.conv .i32 (.t 47)⟩,[0,1,2]),(⟨some 49,none,.i2s (.t 48)⟩,[0,1,2]),(⟨some 50,none,.bin 1 .add (.t 46) (.t 49)⟩,[]),(⟨some 51,none,.mv (.t 1)⟩,[0,1,2,3,4,5,6]),(⟨some 52,none,.mv (.t 7)⟩,[0,1,2,3,4,5,6,7]),(⟨some 53,none,.sls (.t 51) (some (.t 52)) none⟩,[0,1,2,3,4,5,6]),(⟨some 54,none,.bin 1 .add (.t 50) (.t 53)⟩,[]),(⟨some 6,none,.mv (.t 54)⟩,[])])
 (.ret)) (.skip)))))))
 (.seq (.any [(⟨some 55,none,.mv (.t 1)⟩,[]),(⟨some 56,none,.mv (.t 7)⟩,[0]),(⟨some 57,none,.sls (.t 55) none (some (.t 56))⟩,[]),(⟨some 58,none,.mv (.t 1)⟩,[0,1,2]),(⟨some 59,none,.mv (.t 7)⟩,[0,1,2,3]),(⟨some 60,none,.bin 0 .add (.t 59) (.c (.int .i64 1))⟩,[0,1,2,3]),(⟨some 61,none,.sls (.t 58) (some (.t 60)) none⟩,[0,1,2]),(⟨some 62,none,.bin 1 .add (.t 57) (.t 61)⟩,[]),(⟨some 6,none,.mv (.t 62)⟩,[])])
 (.ret))))))⟩
theorem c60:compF Go.Proofs.Tryz.prog 60=some a60:=by kernel_rfl
def a61 : AFn := ⟨6,[.t 2],.seq (.ops [⟨some 2,none,.mv (.c (.bool false))⟩])
 (.seq (.ops [⟨some 3,none,.mv (.t 0)⟩,⟨some 4,none,.call 113 [(.t 3),(.c (.str [48,49]))]⟩,⟨some 5,none,.bin 1 .eql (.t 4) (.c (.str []))⟩,⟨some 2,none,.mv (.t 5)⟩])
 (.ret))⟩
theorem c61:compF Go.Proofs.Tryz.prog 61=some a61:=by kernel_rfl
def a62 : AFn := ⟨53,[.t 6],.seq (.ops [⟨some 6,none,.mv (.c (.int .i64 0))⟩])
 (.seq (.ops [⟨some 11,none,.mv (.t 2)⟩,⟨some 12,none,.bin 0 .add (.c (.int .i64 48)) (.t 11)⟩,⟨some 13,none,.conv .u8 (.t 12)⟩,⟨some 7,none,.mv (.t 13)⟩])
 (.seq (.seq (.ops [⟨some 14,none,.mv (.t 0)⟩,⟨some 15,none,.nilchk (.t 14)⟩,⟨some 16,none,.fadr 1 (.t 15)⟩,⟨some 17,none,.load none (.t 16)⟩,⟨some 18,none,.len false (.t 17)⟩,⟨some 19,none,.mv (.c (.int .i64 0))⟩])
 (.block 0 (.loop (.seq (.ops [⟨some 20,none,.bin 0 .lss (.t 19) (.t 18)⟩])
 (.seq (.cond (.t 20) (.skip) (.exit 0))
 (.seq (.block 1 (.seq (.ops [⟨some 21,none,.iadr 1 (.t 17) (.t 19)⟩,⟨some 22,none,.load none (.t 21)⟩,⟨some 9,none,.mv (.t 22)⟩])
 (.ops [⟨some 23,none,.mv (.t 0)⟩,⟨some 24,none,.mv (.t 9)⟩,⟨some 25,none,.mv (.t 7)⟩,⟨some 26,none,.call 114 [(.t 23),(.t 24),(.t 25)]⟩,⟨some 7,none,.mv (.t 26)⟩])))
 (.ops [⟨some 27,none,.bin 0 .add (.t 19) (.c (.int .i64 1))⟩,⟨some 19,none,.mv (.t 27)⟩])))))))
 (.seq (.ops [⟨some 10,none,.mv (.c (.int .i64 (-1)))⟩])
 (.seq (.seq (.ops [⟨some 28,none,.mv (.t 0)⟩,⟨some 29,none,.nilchk (.t 28)⟩,⟨some 30,none,.fadr 0 (.t 29)⟩,⟨some 31,none,.load none (.t 30)⟩,⟨some 32,none,.bin 0 .eql (.t 31) (.c (.int .i64 4))⟩,⟨some 33,none,.mv (.t 32)⟩,⟨some 34,(some (33,false)),.mv (.t 0)⟩,⟨some 35,(some (33,false)),.nilchk (.t 34)⟩,⟨some 36,(some (33,false)),.fadr 0 (.t 35)⟩,⟨some 37,(some (33,false)),.load none (.t 36)⟩,⟨some 38,(some (33,false)),.bin 0 .eql (.t 37) (.c (.int .i64 11))⟩,⟨some 39,none,.pick (.t 33) (.c (.bool true)) (.t 38)⟩])
 (.cond (.t 39) (.ops [⟨some 40,none,.mv (.t 7)⟩,⟨some 41,none,.bin 0 .sub (.t 40) (.c (.int .u8 48))⟩,⟨some 42,none,.conv .i64 (.t 41)⟩,⟨some 10,none,.mv (.t 42)⟩]) (.skip)))
 (.seq (.ops [⟨some 43,none,.mv (.t 0)⟩,⟨some 44,none,.mv (.t 0)⟩,⟨some 45,none,.nilchk (.t 44)⟩,⟨some 46,none,.fadr 0 (.t 45)⟩,⟨some 47,none,.load none (.t 46)⟩,⟨some 48,none,.mv (.t 1)⟩,⟨some 49,none,.call 115 [(.t 47),(.t 48)]⟩,⟨some 50,none,.nilchk (.t 43)⟩,⟨some 51,none,.fadr 0 (.t 50)⟩,⟨none,none,.store 1 (.t 51) (.t 49)⟩])
 (.seq (.ops [⟨some 52,none,.mv (.t 10)⟩,⟨some 6,none,.mv (.t 52)⟩])
 (.ret)))))))⟩
theorem c62:compF Go.Proofs.Tryz.prog 62=some a62:=by kernel_rfl
def a63 : AFn := ⟨17,[.t 2],.seq (.ops [⟨some 2,none,.mv (.c (.bool false))⟩])
 (.seq (.ops [⟨some 3,none,.mv (.t 0)⟩,⟨some 4,none,.len true (.t 3)⟩,⟨some 5,none,.call 65 [(.t 4),(.c (.int .i64 1)),(.c (.int .i64 40))]⟩,⟨some 6,none,.mv (.t 5)⟩,⟨some 7,(some (6,true)),.mv (.t 0)⟩,⟨some 8,(some (6,true)),.call 113 [(.t 7),(.c (.str [97,98,99,100,101,102,103,104,105,106,107,108,109,110,111,112,113,114,115,116,117,118,119,120,121,122,48,49,50,51,52,53,54,55,56,57,45,95]))]⟩,⟨some 9,(some (6,true)),.bin 1 .eql (.t 8) (.c (.str []))⟩,⟨some 10,none,.pick (.t 6) (.t 9) (.c (.bool false))⟩,⟨some 11,none,.mv (.t 10)⟩,⟨some 12,(some (11,true)),.mv (.t 0)⟩,⟨some 13,(some (11,true)),.idxs (.t 12) (.c (.int .i64 0))⟩,⟨some 14,(some (11,true)),.call 116 [(.c (.str [97,98,99,100,101,102,103,104,105,106,107,108,109,110,111,112,113,114,115,116,117,118,119,120,121,122])),(.t 13)]⟩,⟨some 15,(some (11,true)),.bin 0 .geq (.t 14) (.c (.int .i64 0))⟩,⟨some 16,none,.pick (.t 11) (.t 15) (.c (.bool false))⟩,⟨some 2,none,.mv (.t 16)⟩])
 (.ret))⟩
theorem c63:compF Go.Proofs.Tryz.prog 63=some a63:=by kernel_rfl
def a64 : AFn := ⟨9,[.t 3],.seq (.ops [⟨some 2,none,.box 57 (.t 0)⟩,⟨some 3,none,.mv (.c (.bool false))⟩])
 (.seq (.ops [⟨some 4,none,.fadr 0 (.t 2)⟩,⟨some 5,none,.load none (.t 4)⟩,⟨some 6,none,.fadr 0 (.t 1)⟩,⟨some 7,none,.load none (.t 6)⟩,⟨some 8,none,.bin 1 .eql (.t 5) (.t 7)⟩,⟨some 3,none,.mv (.t 8)⟩])
 (.ret))⟩
theorem c64:compF Go.Proofs.Tryz.prog 64=some a64:=by kernel_rfl
def a65 : AFn := ⟨15,[.t 6],.seq (.ops [⟨some 6,none,.mv (.c (.bool false))⟩])
 (.seq (.ops [⟨some 7,none,.mv (.t 1)⟩,⟨some 8,none,.mv (.t 0)⟩,⟨some 9,none,.bin 0 .leq (.t 7) (.t 8)⟩,⟨some 10,none,.mv (.t 9)⟩,⟨some 11,(some (10,true)),.mv (.t 0)⟩,⟨some 12,(some (10,true)),.mv (.t 2)⟩,⟨some 13,(some (10,true)),.bin 0 .leq (.t 11) (.t 12)⟩,⟨some 14,none,.pick (.t 10) (.t 13) (.c (.bool false))⟩,⟨some 6,none,.mv (.t 14)⟩])
 (.ret))⟩
theorem c65:compF Go.Proofs.Tryz.prog 65=some a65:=by kernel_rfl
def a66 : AFn := ⟨66,[.t 2],.seq (.ops [⟨some 1,none,.box 57 (.t 0)⟩,⟨some 2,none,.mv (.c (.int .i64 0))⟩])
 (.seq (.seq (.ops [⟨some 7,none,.fadr 3 (.t 1)⟩,⟨some 8,none,.load none (.t 7)⟩,⟨some 9,none,.len false (.t 8)⟩,⟨some 10,none,.bin 0 .gtr (.t 9) (.c (.int .i64 10))⟩,⟨some 11,none,.mv (.t 10)⟩,⟨some 12,(some (11,false)),.fadr 4 (.t 1)⟩,⟨some 13,(some (11,false)),.load none (.t 12)⟩,⟨some 14,(some (11,false)),.len false (.t 13)⟩,⟨some 15,(some (11,false)),.bin 0 .gtr (.t 14) (.c (.int .i64 100))⟩,⟨some 16,none,.pick (.t 11) (.c (.bool true)) (.t 15)⟩])
 (.cond (.t 16) (.seq (.ops [⟨some 2,none,.mv (.c (.int .i64 2))⟩])
 (.ret)) (.skip)))
 (.seq (.seq (.ops [⟨some 17,none,.fadr 3 (.t 1)⟩,⟨some 18,none,.load none (.t 17)⟩,⟨some 19,none,.len false (.t 18)⟩,⟨some 20,none,.mv (.c (.int .i64 0))⟩])
 (.block 0 (.loop (.seq (.ops [⟨some 21,none,.bin 0 .lss (.t 20) (.t 19)⟩])
 (.seq (.cond (.t 21) (.skip) (.exit 0))
 (.seq (.block 1 (.seq (.ops [⟨some 22,none,.mv (.t 20)⟩,⟨some 23,none,.iadr 2 (.t 18) (.t 20)⟩,⟨some 24,none,.load (some 2) (.t 23)⟩,⟨some 4,none,.alloc 70 [(.str []),(.int .i64 0)]⟩,⟨some 3,none,.mv (.t 22)⟩,⟨none,none,.store 2 (.t 4) (.t 24)⟩])
 (.block 2 (.seq (.ops [⟨some 26,none,.fadr 0 (.t 4)⟩,⟨some 27,none,.load none (.t 26)⟩,⟨some 28,none,.call 63 [(.t 27)]⟩,⟨some 29,none,.un .not (.t 28)⟩,⟨some 25,none,.mv (.t 29)⟩])
 (.cond (.t 25) (.seq (.ops [⟨some 2,none,.mv (.c (.int .i64 5))⟩])
 (.ret)) (.seq (.ops [⟨some 31,none,.fadr 0 (.t 4)⟩,⟨some 32,none,.load none (.t 31)⟩,⟨some 33,none,.bin 1 .eql (.t 32) (.c (.str [98,121,112,97,115,115]))⟩,⟨some 34,none,.mv (.t 33)⟩,⟨some 35,(some (34,false)),.fadr 0 (.t 4)⟩,⟨some 36,(some (34,false)),.load none (.t 35)⟩,⟨some 37,(some (34,false)),.bin 1 .eql (.t 36) (.c (.str [105,100,99,111,100,101]))⟩,⟨some 38,none,.pick (.t 34) (.c (.bool true)) (.t 37)⟩,⟨some 39,none,.mv (.t 38)⟩,⟨some 40,(some (39,false)),.fadr 3 (.t 1)⟩,⟨some 41,(some (39,false)),.load none (.t 40)⟩,⟨some 42,(some (39,false)),.mv (.t 3)⟩,⟨some 43,(some (39,false)),.slc 2 (.t 41) none (some (.t 42))⟩,⟨some 44,(some (39,false)),.mkfn 118 [(.t 4)]⟩,⟨some 45,(some (39,false)),.call 117 [(.t 43),(.t 44)]⟩,⟨some 46,none,.pick (.t 39) (.c (.bool true)) (.t 45)⟩,⟨some 30,none,.mv (.t 46)⟩])
 (.cond (.t 30) (.seq (.ops [⟨some 2,none,.mv (.c (.int .i64 6))⟩])
 (.ret)) (.seq (.ops [⟨some 48,none,.fadr 1 (.t 4)⟩,⟨some 49,none,.load none (.t 48)⟩,⟨some 50,none,.call 65 [(.t 49),(.c (.int .i64 1)),(.c (.int .i64 1000))]⟩,⟨some 51,none,.un .not (.t 50)⟩,⟨some 47,none,.mv (.t 51)⟩])
 (.cond (.t 47) (.seq (.ops [⟨some 2,none,.mv (.c (.int .i64 1))⟩])
 (.ret)) (.skip))))))))))
 (.ops [⟨some 52,none,.bin 0 .add (.t 20) (.c (.int .i64 1))⟩,⟨some 20,none,.mv (.t 52)⟩])))))))
 (.seq (.seq (.ops [⟨some 53,none,.fadr 4 (.t 1)⟩,⟨some 54,none,.load none (.t 53)⟩,⟨some 55,none,.len false (.t 54)⟩,⟨some 56,none,.mv (.c (.int .i64 0))⟩])
 (.block 3 (.loop (.seq (.ops [⟨some 57,none,.bin 0 .lss (.t 56) (.t 55)⟩])
 (.seq (.cond (.t 57) (.skip) (.exit 3))
 (.seq (.block 4 (.seq (.ops [⟨some 58,none,.mv (.t 56)⟩,⟨some 5,none,.mv (.t 58)⟩])
 (.seq (.ops [⟨some 59,none,.load (some 5) (.t 1)⟩,⟨some 60,none,.mv (.t 5)⟩,⟨some 61,none,.call 119 [(.t 59),(.t 60)]⟩,⟨some 6,none,.mv (.t 61)⟩])
 (.seq (.ops [⟨some 62,none,.mv (.t 6)⟩,⟨some 63,none,.bin 0 .neq (.t 62) (.c (.int .i64 0))⟩])
 (.cond (.t 63) (.seq (.ops [⟨some 64,none,.mv (.t 6)⟩,⟨some 2,none,.mv (.t 64)⟩])
 (.ret)) (.skip))))))
 (.ops [⟨some 65,none,.bin 0 .add (.t 56) (.c (.int .i64 1))⟩,⟨some 56,none,.mv (.t 65)⟩])))))))
 (.seq (.ops [⟨some 2,none,.mv (.c (.int .i64 0))⟩])
 (.ret)))))⟩
theorem c66:compF Go.Proofs.Tryz.prog 66=some a66:=by kernel_rfl
def a67 : AFn := ⟨6,[.t 2],.seq (.ops [⟨some 2,none,.mv (.c (.int .i64 0))⟩])
 (.seq (.seq (.ops [⟨some 3,none,.mv (.t 0)⟩,⟨some 4,none,.call 113 [(.t 3),(.c (.str [48,49]))]⟩,⟨some 5,none,.bin 1 .neq (.t 4) (.c (.str []))⟩])
 (.cond (.t 5) (.seq (.ops [⟨some 2,none,.mv (.c (.int .i64 9))⟩])
 (.ret)) (.skip)))
 (.seq (.ops [⟨some 2,none,.mv (.c (.int .i64 0))⟩])
 (.ret)))⟩
theorem c67:compF Go.Proofs.Tryz.prog 67=some a67:=by kernel_rfl
def a69 : AFn := ⟨11,[.t 2],.seq (.ops [⟨some 2,none,.mv (.c (.int .i64 0))⟩])
 (.seq (.block 0 (.seq (.ops [⟨some 4,none,.mv (.t 0)⟩,⟨some 5,none,.len true (.t 4)⟩,⟨some 6,none,.bin 0 .gtr (.t 5) (.c (.int .i64 20000))⟩,⟨some 3,none,.mv (.t 6)⟩])
 (.cond (.t 3) (.seq (.ops [⟨some 2,none,.mv (.c (.int .i64 2))⟩])
 (.ret)) (.seq (.ops [⟨some 8,none,.mv (.t 0)⟩,⟨some 9,none,.call 61 [(.t 8)]⟩,⟨some 10,none,.un .not (.t 9)⟩,⟨some 7,none,.mv (.t 10)⟩])
 (.cond (.t 7) (.seq (.ops [⟨some 2,none,.mv (.c (.int .i64 9))⟩])
 (.ret)) (.skip))))))
 (.seq (.ops [⟨some 2,none,.mv (.c (.int .i64 0))⟩])
 (.ret)))⟩
theorem c69:compF Go.Proofs.Tryz.prog 69=some a69:=by kernel_rfl
def a70 : AFn := ⟨8,[.t 2],.seq (.ops [⟨some 2,none,.mv (.c (.int .i64 0))⟩])
 (.seq (.seq (.ops [⟨some 3,none,.mv (.t 0)⟩,⟨some 4,none,.len true (.t 3)⟩,⟨some 5,none,.bin 0 .gtr (.t 4) (.c (.int .i64 20000))⟩])
 (.cond (.t 5) (.seq (.ops [⟨some 2,none,.mv (.c (.int .i64 2))⟩])
 (.ret)) (.skip)))
 (.seq (.ops [⟨some 6,none,.mv (.t 0)⟩,⟨some 7,none,.call 67 [(.t 6)]⟩,⟨some 2,none,.mv (.t 7)⟩])
 (.ret)))⟩
theorem c70:compF Go.Proofs.Tryz.prog 70=some a70:=by kernel_rfl
def a72 : AFn := ⟨17,[.t 4,.t 5],.seq (.ops [⟨some 4,none,.mv (.c (.str []))⟩,⟨some 5,none,.mv (.c (.int .i64 0))⟩])
 (.seq (.seq (.ops [⟨some 6,none,.mv (.t 0)⟩,⟨some 7,none,.call 122 [(.t 6)]⟩,⟨some 8,none,.un .not (.t 7)⟩,⟨some 9,none,.mv (.t 8)⟩,⟨some 10,(some (9,false)),.mv (.t 1)⟩,⟨some 11,(some (9,false)),.call 122 [(.t 10)]⟩,⟨some 12,(some (9,false)),.un .not (.t 11)⟩,⟨some 13,none,.pick (.t 9) (.c (.bool true)) (.t 12)⟩])
 (.cond (.t 13) (.seq (.ops [⟨some 4,none,.mv (.c (.str []))⟩,⟨some 5,none,.mv (.c (.int .i64 1))⟩])
 (.ret)) (.skip)))
 (.seq (.ops [⟨some 14,none,.mv (.t 0)⟩,⟨some 15,none,.mv (.t 1)⟩,⟨some 16,none,.call 123 [(.t 14),(.t 15)]⟩,⟨some 4,none,.mv (.t 16)⟩,⟨some 5,none,.mv (.c (.int .i64 0))⟩])
 (.ret)))⟩
theorem c72:compF Go.Proofs.Tryz.prog 72=some a72:=by kernel_rfl
def a73 : AFn := ⟨8,[.t 2],.seq (.ops [⟨some 2,none,.mv (.c (.lit true 0 []))⟩])
 (.seq (.seq (.ops [⟨some 3,none,.mv (.t 0)⟩,⟨some 4,none,.bin 3 .eql (.t 3) (.c (.lit true 0 []))⟩])
 (.cond (.t 4) (.seq (.ops [⟨some 2,none,.mv (.c (.lit true 0 []))⟩])
 (.ret)) (.skip)))
 (.seq (.ops [⟨some 5,none,.bslice 70 2 0 [(.str []),(.int .i64 0)] []⟩,⟨some 6,none,.mv (.t 0)⟩,⟨some 7,none,.app 70 2 24 (.t 5) (.t 6)⟩,⟨some 2,none,.mv (.t 7)⟩])
 (.ret)))⟩
theorem c73:compF Go.Proofs.Tryz.prog 73=some a73:=by kernel_rfl
def a74 : AFn := ⟨8,[.t 2],.seq (.ops [⟨some 2,none,.mv (.c (.lit true 0 []))⟩])
 (.seq (.seq (.ops [⟨some 3,none,.mv (.t 0)⟩,⟨some 4,none,.bin 3 .eql (.t 3) (.c (.lit true 0 []))⟩])
 (.cond (.t 4) (.seq (.ops [⟨some 2,none,.mv (.c (.lit true 0 []))⟩])
 (.ret)) (.skip)))
 (.seq (.ops [⟨some 5,none,.bslice 68 2 0 [(.str []),(.str [])] []⟩,⟨some 6,none,.mv (.t 0)⟩,⟨some 7,none,.app 68 2 32 (.t 5) (.t 6)⟩,⟨some 2,none,.mv (.t 7)⟩])
 (.ret)))⟩
theorem c74:compF Go.Proofs.Tryz.prog 74=some a74:=by kernel_rfl
def a75 : AFn := ⟨15,[.t 6],.seq (.ops [⟨some 6,none,.mv (.c (.bool false))⟩])
 (.seq (.ops [⟨some 7,none,.mv (.t 0)⟩,⟨some 8,none,.mv (.t 1)⟩,⟨some 9,none,.bin 0 .lss (.t 7) (.t 8)⟩,⟨some 10,none,.mv (.t 9)⟩,⟨some 11,(some (10,false)),.mv (.t 0)⟩,⟨some 12,(some (10,false)),.mv (.t 2)⟩,⟨some 13,(some (10,false)),.bin 0 .gtr (.t 11) (.t 12)⟩,⟨some 14,none,.pick (.t 10) (.c (.bool true)) (.t 13)⟩,⟨some 6,none,.mv (.t 14)⟩])
 (.ret))⟩
theorem c75:compF Go.Proofs.Tryz.prog 75=some a75:=by kernel_rfl
def a76 : AFn := ⟨103,[],.seq (.ops [⟨some 8,none,.mv (.t 0)⟩,⟨some 9,none,.nilchk (.t 8)⟩,⟨some 10,none,.fadr 0 (.t 9)⟩,⟨some 11,none,.load none (.t 10)⟩,⟨some 12,none,.mv (.t 1)⟩,⟨some 13,none,.iadr 5 (.t 11) (.t 12)⟩,⟨some 14,none,.load (some 5) (.t 13)⟩,⟨some 4,none,.alloc 57 [(.str []),(.int .i64 0),(.int .i64 0),(.lit true 0 []),(.lit true 0 [])]⟩,⟨none,none,.store 5 (.t 4) (.t 14)⟩])
 (.seq (.ops [⟨some 15,none,.mv (.t 0)⟩,⟨some 16,none,.nilchk (.t 15)⟩,⟨some 17,none,.fadr 1 (.t 16)⟩,⟨some 18,none,.load none (.t 17)⟩])
 (.block 0 (.seq (.ops [⟨some 20,none,.bin 0 .eql (.t 18) (.c (.int .i64 0))⟩,⟨some 19,none,.mv (.t 20)⟩])
 (.cond (.t 19) (.ops [⟨some 21,none,.mv (.t 0)⟩,⟨some 22,none,.nilchk (.t 21)⟩,⟨some 23,none,.fadr 2 (.t 22)⟩,⟨some 24,none,.load none (.t 23)⟩,⟨some 25,none,.mv (.t 1)⟩,⟨some 26,none,.iadr 1 (.t 24) (.t 25)⟩,⟨none,none,.store 1 (.t 26) (.c (.str []))⟩]) (.seq (.ops [⟨some 28,none,.bin 0 .eql (.t 18) (.c (.int .i64 3))⟩,⟨some 27,none,.mv (.t 28)⟩])
 (.cond (.t 27) (.any [(⟨some 29,none,.mv (.t 0)⟩,[]),(⟨some 30,none,.nilchk (.t 29)⟩,[]),(⟨some 31,none,.fadr 3 (.t 30)⟩,[]),(⟨some 32,none,.load none (.t 31)⟩,[]),(⟨some 33,none,.mv (.t 1)⟩,[0,1,2,3]),(⟨some 34,none,.mv (.t 0)⟩,[0,1,2,3,4]),(⟨some 35,none,.mv (.t 1)⟩,[0,1,2,3,4,5]),(⟨some 36,none,.call 124 [(.t 34),(.t 35)]⟩,[0,1,2,3,4]),(⟨some 37,none,.iadr 1 (.t 32) (.t 33)⟩,[]),(⟨none,none,.store 1 (.t 37) (.t 36)⟩,[])]) (.seq (.ops [⟨some 39,none,.bin 0 .eql (.t 18) (.c (.int .i64 10))⟩,⟨some 38,none,.mv (.t 39)⟩])
 (.cond (.t 38) (.any [(⟨some 40,none,.mv (.t 0)⟩,[]),(⟨some 41,none,.nilchk (.t 40)⟩,[]),(⟨some 42,none,.fadr 3 (.t 41)⟩,[]),(⟨some 43,none,.load none (.t 42)⟩,[]),(⟨some 44,none,.mv (.t 1)⟩,[0,1,2,3]),(⟨some 45,none,.fadr 1 (.t 4)⟩,[0,1,2,3,4]),(⟨some 46,none,.load none (.t 45)⟩,[0,1,2,3,4]),(⟨some 47,none,.bin 0 .sub (.t 46) (.c (.int .i64 1))⟩,[0,1,2,3,4]),(⟨some 48,none,.call 41 [(.c (.str [48])),(.t 47)]⟩,[0,1,2,3,4]),(⟨some 49,none,.bin 1 .add (.c (.str [49])) (.t 48)⟩,[0,1,2,3,4]),(⟨some 50,none,.iadr 1 (.t 43) (.t 44)⟩,[]),(⟨none,none,.store 1 (.t 50) (.t 49)⟩,[])]) (.seq (.ops [⟨some 52,none,.bin 0 .eql (.t 18) (.c (.int .i64 15))⟩,⟨some 51,none,.mv (.t 52)⟩])
 (.cond (.t 51) (.any [(⟨some 53,none,.mv (.t 0)⟩,[]),(⟨some 54,none,.nilchk (.t 53)⟩,[]),(⟨some 55,none,.fadr 2 (.t 54)⟩,[]),(⟨some 56,none,.load none (.t 55)⟩,[]),(⟨some 57,none,.mv (.t 1)⟩,[0,1,2,3]),(⟨some 58,none,.mv (.t 0)⟩,[0,1,2,3,4]),(⟨some 59,none,.nilchk (.t 58)⟩,[0,1,2,3,4]),(⟨some 60,none,.fadr 3 (.t 59)⟩,[0,1,2,3,4]),(⟨some 61,none,.load none (.t 60)⟩,[0,1,2,3,4]),(⟨some 62,none,.mv (.t 1)⟩,[0,1,2,3,4,5,6,7,8]),(⟨some 63,none,.iadr 1 (.t 61) (.t 62)⟩,[0,1,2,3,4]),(⟨some 64,none,.load none (.t 63)⟩,[0,1,2,3,4]),(⟨some 65,none,.iadr 1 (.t 56) (.t 57)⟩,[]),(⟨none,none,.store 1 (.t 65) (.t 64)⟩,[])]) (.seq (.ops [⟨some 67,none,.bin 0 .eql (.t 18) (.c (.int .i64 8))⟩,⟨some 66,none,.mv (.t 67)⟩])
 (.cond (.t 66) (.seq (.any [(⟨some 68,none,.fadr 0 (.t 4)⟩,[]),(⟨some 69,none,.load none (.t 68)⟩,[]),(⟨some 70,none,.load (some 5) (.t 4)⟩,[0,1]),(⟨some 71,none,.mv (.t 0)⟩,[0,1,2]),(⟨some 72,none,.nilchk (.t 71)⟩,[0,1,2]),(⟨some 73,none,.fadr 2 (.t 72)⟩,[0,1,2]),(⟨some 74,none,.load none (.t 73)⟩,[0,1,2]),(⟨some 75,none,.mv (.t 1)⟩,[0,1,2,3,4,5,6]),(⟨some 76,none,.iadr 1 (.t 74) (.t 75)⟩,[0,1,2]),(⟨some 77,none,.load none (.t 76)⟩,[0,1,2]),(⟨some 78,none,.call 49 [(.t 70),(.t 77)]⟩,[0,1]),(⟨some 79,none,.fld 0 none (.t 78)⟩,[0,1]),(⟨some 80,none,.build [(.str []),(.str [])] [(0,1,(.t 69)),(1,1,(.t 79))]⟩,[]),(⟨some 5,none,.alloc 105 [(.str []),(.str [])]⟩,[0,1,2,3,4,5,6,7,8,9,10,11,12]),(⟨none,none,.store 2 (.t 5) (.t 80)⟩,[])])
 (.seq (.any [(⟨some 82,none,.mv (.t 0)⟩,[]),(⟨some 83,none,.nilchk (.t 82)⟩,[]),(⟨some 84,none,.fadr 5 (.t 83)⟩,[]),(⟨some 85,none,.load none (.t 84)⟩,[]),(⟨some 86,none,.load (some 2) (.t 5)⟩,[0,1,2,3]),(⟨some 87,none,.mlk true .q (.str []) (.t 85) (.t 86)⟩,[]),(⟨some 81,none,.mv (.t 87)⟩,[]),(⟨some 88,none,.ext (.t 81) 0⟩,[]),(⟨some 89,none,.ext (.t 81) 1⟩,[7]),(⟨some 6,none,.mv (.t 88)⟩,[8]),(⟨some 7,none,.mv (.t 89)⟩,[])])
 (.seq (.ops [⟨some 90,none,.mv (.t 7)⟩])
 (.cond (.t 90) (.any [(⟨some 91,none,.mv (.t 0)⟩,[]),(⟨some 92,none,.nilchk (.t 91)⟩,[]),(⟨some 93,none,.fadr 5 (.t 92)⟩,[]),(⟨some 94,none,.load none (.t 93)⟩,[]),(⟨some 95,none,.load (some 2) (.t 5)⟩,[0,1,2,3]),(⟨some 96,none,.mv (.t 0)⟩,[0,1,2,3,4]),(⟨some 97,none,.nilchk (.t 96)⟩,[0,1,2,3,4]),(⟨some 98,none,.fadr 3 (.t 97)⟩,[0,1,2,3,4]),(⟨some 99,none,.load none (.t 98)⟩,[0,1,2,3,4]),(⟨some 100,none,.mv (.t 1)⟩,[0,1,2,3,4,5,6,7,8]),(⟨some 101,none,.iadr 1 (.t 99) (.t 100)⟩,[0,1,2,3,4]),(⟨some 102,none,.load none (.t 101)⟩,[0,1,2,3,4]),(⟨none,none,.mup .q (.t 94) (.t 95) (.t 102)⟩,[])]) (.skip))))) (.skip)))))))))))))⟩
theorem c76:compF Go.Proofs.Tryz.prog 76=some a76:=by kernel_rfl
def a77 : AFn := ⟨26,[.t 4],.seq (.ops [⟨some 4,none,.mv (.c (.int .i64 0))⟩])
 (.seq (.ops [⟨some 5,none,.build [(.int .i64 0),(.int .i64 0)] [(0,1,(.c (.int .i64 1))),(1,1,(.c (.int .i64 0)))]⟩,⟨some 6,none,.build [(.int .i64 0),(.int .i64 0)] [(0,1,(.c (.int .i64 1))),(1,1,(.c (.int .i64 2)))]⟩,⟨some 7,none,.build [(.int .i64 0),(.int .i64 0)] [(0,1,(.c (.int .i64 3))),(1,1,(.c (.int .i64 9)))]⟩,⟨some 8,none,.build [(.int .i64 0),(.int .i64 0)] [(0,1,(.c (.int .i64 4))),(1,1,(.c (.int .i64 5)))]⟩,⟨some 9,none,.build [(.int .i64 0),(.int .i64 0)] [(0,1,(.c (.int .i64 4))),(1,1,(.c (.int .i64 5)))]⟩,⟨some 10,none,.build [(.int .i64 0),(.int .i64 0)] [(0,1,(.c (.int .i64 6))),(1,1,(.c (.int .i64 8)))]⟩,⟨some 11,none,.build [(.int .i64 0),(.int .i64 0)] [(0,1,(.c (.int .i64 6))),(1,1,(.c (.int .i64 7)))]⟩,⟨some 12,none,.build [(.int .i64 0),(.int .i64 0)] [(0,1,(.c (.int .i64 4))),(1,1,(.c (.int .i64 8)))]⟩,⟨some 13,none,.build [(.int .i64 0),(.int .i64 0)] [(0,1,(.c (.int .i64 1))),(1,1,(.c (.int .i64 2)))]⟩,⟨some 14,none,.build [(.int .i64 0),(.int .i64 0)] [(0,1,(.c (.int .i64 10))),(1,1,(.c (.int .i64 0)))]⟩,⟨some 15,none,.build [(.int .i64 0),(.int .i64 0)] [(0,1,(.c (.int .i64 11))),(1,1,(.c (.int .i64 12)))]⟩,⟨some 16,none,.build [(.int .i64 0),(.int .i64 0)] [(0,1,(.c (.int .i64 11))),(1,1,(.c (.int .i64 12)))]⟩,⟨some 17,none,.build [(.int .i64 0),(.int .i64 0)] [(0,1,(.c (.int .i64 13))),(1,1,(.c (.int .i64 15)))]⟩,⟨some 18,none,.build [(.int .i64 0),(.int .i64 0)] [(0,1,(.c (.int .i64 13))),(1,1,(.c (.int .i64 14)))]⟩,⟨some 19,none,.build [(.int .i64 0),(.int .i64 0)] [(0,1,(.c (.int .i64 11))),(1,1,(.c (.int .i64 15)))]⟩,⟨some 20,none,.build [(.int .i64 0),(.int .i64 0)] [(0,1,(.c (.int .i64 1))),(1,1,(.c (.int .i64 2)))]⟩,⟨some 21,none,.build [(.int .i64 0),(.int .i64 0),(.int .i64 0),(.int .i64 0),(.int .i64 0),(.int .i64 0),(.int .i64 0),(.int .i64 0),(.int .i64 0),(.int .i64 0),(.int .i64 0),(.int .i64 0),(.int .i64 0),(.int .i64 0),(.int .i64 0),(.int .i64 0),(.int .i64 0),(.int .i64 0),(.int .i64 0),(.int .i64 0),(.int .i64 0),(.int .i64 0),(.int .i64 0),(.int .i64 0),(.int .i64 0),(.int .i64 0),(.int .i64 0),(.int .i64 0),(.int .i64 0),(.int .i64 0),(.int .i64 0),(.int .i64 0)] [(0,2,(.t 5)),(2,2,(.t 6)),(4,2,(.t 7)),(6,2,(.t 8)),(8,2,(.t 9)),(10,2,(.t 10)),(12,2,(.t 11)),(14,2,(.t 12)),(16,2,(.t 13)),(18,2,(.t 14)),(20,2,(.t 15)),(22,2,(.t 16)),(24,2,(.t 17)),(26,2,(.t 18)),(28,2,(.t 19)),(30,2,(.t 20))]⟩,⟨some 22,none,.mv (.t 0)⟩,⟨some 23,none,.aidx 16 2 (some 2) (.t 21) (.t 22)⟩,⟨some 24,none,.mv (.t 1)⟩,⟨some 25,none,.aidx 2 1 none (.t 23) (.t 24)⟩,⟨some 4,none,.mv (.t 25)⟩])
 (.ret))⟩
theorem c77:compF Go.Proofs.Tryz.prog 77=some a77:=by kernel_rfl
def a78 : AFn := ⟨19,[.t 4,.t 5],.seq (.ops [⟨some 4,none,.mv (.c (.str []))⟩,⟨some 5,none,.mv (.c (.bool false))⟩])
 (.seq (.ops [⟨some 7,none,.mv (.t 0)⟩,⟨some 8,none,.mv (.t 1)⟩,⟨some 9,none,.call 125 [(.t 7),(.t 8)]⟩,⟨some 6,none,.mv (.t 9)⟩])
 (.seq (.seq (.ops [⟨some 10,none,.mv (.t 6)⟩,⟨some 11,none,.bin 0 .lss (.t 10) (.c (.int .i64 0))⟩])
 (.cond (.t 11) (.seq (.ops [⟨some 4,none,.mv (.c (.str []))⟩,⟨some 5,none,.mv (.c (.bool false))⟩])
 (.ret)) (.skip)))
 (.seq (.ops [⟨some 12,none,.mv (.t 0)⟩,⟨some 13,none,.nilchk (.t 12)⟩,⟨some 14,none,.fadr 2 (.t 13)⟩,⟨some 15,none,.load none (.t 14)⟩,⟨some 16,none,.mv (.t 6)⟩,⟨some 17,none,.iadr 1 (.t 15) (.t 16)⟩,⟨some 18,none,.load none (.t 17)⟩,⟨some 4,none,.mv (.t 18)⟩,⟨some 5,none,.mv (.c (.bool true))⟩])
 (.ret))))⟩
theorem c78:compF Go.Proofs.Tryz.prog 78=some a78:=by kernel_rfl
def a79 : AFn := ⟨4,[.t 2],.seq (.ops [⟨some 2,none,.mv (.c (.int .i64 0))⟩])
 (.seq (.seq (.ops [⟨some 3,none,.mv (.t 0)⟩])
 (.cond (.t 3) (.seq (.ops [⟨some 2,none,.mv (.c (.int .i64 8))⟩])
 (.ret)) (.skip)))
 (.seq (.ops [⟨some 2,none,.mv (.c (.int .i64 0))⟩])
 (.ret)))⟩
theorem c79:compF Go.Proofs.Tryz.prog 79=some a79:=by kernel_rfl
def a80 : AFn := ⟨28,[.t 6,.t 7],.seq (.ops [⟨some 6,none,.mv (.c (.str []))⟩,⟨some 7,none,.mv (.c (.int .i64 0))⟩])
 (.seq (.ops [⟨some 11,none,.mv (.t 0)⟩,⟨some 12,none,.mv (.t 1)⟩,⟨some 13,none,.call 86 [(.t 11),(.t 12)]⟩,⟨some 8,none,.mv (.t 13)⟩])
 (.seq (.seq (.ops [⟨some 14,none,.mv (.t 8)⟩,⟨some 15,none,.bin 4 .eql (.t 14) (.c .nilp)⟩])
 (.cond (.t 15) (.seq (.ops [⟨some 6,none,.mv (.c (.str []))⟩,⟨some 7,none,.mv (.c (.int .i64 8))⟩])
 (.ret)) (.skip)))
 (.seq (.ops [⟨some 17,none,.mv (.t 8)⟩,⟨some 18,none,.nilchk (.t 17)⟩,⟨some 19,none,.fadr 8 (.t 18)⟩,⟨some 20,none,.load none (.t 19)⟩,⟨some 21,none,.mv (.t 2)⟩,⟨some 22,none,.mlk true .s (.str []) (.t 20) (.t 21)⟩,⟨some 16,none,.mv (.t 22)⟩,⟨some 23,none,.ext (.t 16) 0⟩,⟨some 24,none,.ext (.t 16) 1⟩,⟨some 9,none,.mv (.t 23)⟩,⟨some 10,none,.mv (.t 24)⟩])
 (.seq (.seq (.ops [⟨some 25,none,.mv (.t 10)⟩,⟨some 26,none,.un .not (.t 25)⟩])
 (.cond (.t 26) (.seq (.ops [⟨some 6,none,.mv (.c (.str []))⟩,⟨some 7,none,.mv (.c (.int .i64 8))⟩])
 (.ret)) (.skip)))
 (.seq (.ops [⟨some 27,none,.mv (.t 9)⟩,⟨some 6,none,.mv (.t 27)⟩,⟨some 7,none,.mv (.c (.int .i64 0))⟩])
 (.ret))))))⟩
theorem c80:compF Go.Proofs.Tryz.prog 80=some a80:=by kernel_rfl
def a81 : AFn := ⟨23,[.t 6,.t 7],.seq (.ops [⟨some 6,none,.mv (.c (.str []))⟩,⟨some 7,none,.mv (.c (.bool false))⟩])
 (.seq (.ops [⟨some 11,none,.mv (.t 0)⟩,⟨some 12,none,.nilchk (.t 11)⟩,⟨some 13,none,.fadr 5 (.t 12)⟩,⟨some 14,none,.load none (.t 13)⟩,⟨some 15,none,.mv (.t 1)⟩,⟨some 16,none,.mv (.t 2)⟩,⟨some 17,none,.build [(.str []),(.str [])] [(0,1,(.t 15)),(1,1,(.t 16))]⟩,⟨some 18,none,.mlk true .q (.str []) (.t 14) (.t 17)⟩,⟨some 10,none,.mv (.t 18)⟩,⟨some 19,none,.ext (.t 10) 0⟩,⟨some 20,none,.ext (.t 10) 1⟩,⟨some 8,none,.mv (.t 19)⟩,⟨some 9,none,.mv (.t 20)⟩])
 (.seq (.ops [⟨some 21,none,.mv (.t 8)⟩,⟨some 22,none,.mv (.t 9)⟩,⟨some 6,none,.mv (.t 21)⟩,⟨some 7,none,.mv (.t 22)⟩])
 (.ret)))⟩
theorem c81:compF Go.Proofs.Tryz.prog 81=some a81:=by kernel_rfl
def a82 : AFn := ⟨45,[.t 8],.seq (.ops [⟨some 8,none,.mv (.c (.int .i64 0))⟩])
 (.seq (.ops [⟨some 12,none,.mv (.t 0)⟩,⟨some 13,none,.mv (.t 1)⟩,⟨some 14,none,.call 86 [(.t 12),(.t 13)]⟩,⟨some 9,none,.mv (.t 14)⟩])
 (.seq (.seq (.ops [⟨some 15,none,.mv (.t 9)⟩,⟨some 16,none,.bin 4 .eql (.t 15) (.c .nilp)⟩])
 (.cond (.t 16) (.seq (.ops [⟨some 8,none,.mv (.c (.int .i64 8))⟩])
 (.ret)) (.skip)))
 (.seq (.ops [⟨some 18,none,.mv (.t 9)⟩,⟨some 19,none,.nilchk (.t 18)⟩,⟨some 20,none,.fadr 7 (.t 19)⟩,⟨some 21,none,.load none (.t 20)⟩,⟨some 22,none,.mv (.t 2)⟩,⟨some 23,none,.mlk true .s (.str []) (.t 21) (.t 22)⟩,⟨some 17,none,.mv (.t 23)⟩,⟨some 24,none,.ext (.t 17) 0⟩,⟨some 25,none,.ext (.t 17) 1⟩,⟨some 10,none,.mv (.t 24)⟩,⟨some 11,none,.mv (.t 25)⟩])
 (.seq (.block 0 (.seq (.ops [⟨some 27,none,.mv (.t 11)⟩,⟨some 28,none,.un .not (.t 27)⟩,⟨some 26,none,.mv (.t 28)⟩])
 (.cond (.t 26) (.seq (.ops [⟨some 8,none,.mv (.c (.int .i64 8))⟩])
 (.ret)) (.seq (.ops [⟨some 30,none,.mv (.t 3)⟩,⟨some 31,none,.len true (.t 30)⟩,⟨some 32,none,.mv (.t 10)⟩,⟨some 33,none,.len true (.t 32)⟩,⟨some 34,none,.bin 0 .neq (.t 31) (.t 33)⟩,⟨some 29,none,.mv (.t 34)⟩])
 (.cond (.t 29) (.seq (.ops [⟨some 8,none,.mv (.c (.int .i64 3))⟩])
 (.ret)) (.seq (.ops [⟨some 36,none,.mv (.t 3)⟩,⟨some 37,none,.call 61 [(.t 36)]⟩,⟨some 38,none,.un .not (.t 37)⟩,⟨some 35,none,.mv (.t 38)⟩])
 (.cond (.t 35) (.seq (.ops [⟨some 8,none,.mv (.c (.int .i64 9))⟩])
 (.ret)) (.skip))))))))
 (.seq (.ops [⟨some 39,none,.mv (.t 9)⟩,⟨some 40,none,.nilchk (.t 39)⟩,⟨some 41,none,.fadr 7 (.t 40)⟩,⟨some 42,none,.load none (.t 41)⟩,⟨some 43,none,.mv (.t 2)⟩,⟨some 44,none,.mv (.t 3)⟩,⟨none,none,.mup .s (.t 42) (.t 43) (.t 44)⟩])
 (.seq (.ops [⟨some 8,none,.mv (.c (.int .i64 0))⟩])
 (.ret)))))))⟩
theorem c82:compF Go.Proofs.Tryz.prog 82=some a82:=by kernel_rfl
def a83 : AFn := ⟨43,[.t 8],.seq (.ops [⟨some 8,none,.mv (.c (.int .i64 0))⟩])
 (.seq (.ops [⟨some 12,none,.mv (.t 1)⟩,⟨some 13,none,.mv (.t 2)⟩,⟨some 14,none,.build [(.str []),(.str [])] [(0,1,(.t 12)),(1,1,(.t 13))]⟩,⟨some 9,none,.alloc 105 [(.str []),(.str [])]⟩,⟨none,none,.store 2 (.t 9) (.t 14)⟩])
 (.seq (.any [(⟨some 16,none,.mv (.t 0)⟩,[]),(⟨some 17,none,.nilchk (.t 16)⟩,[]),(⟨some 18,none,.fadr 4 (.t 17)⟩,[]),(⟨some 19,none,.load none (.t 18)⟩,[]),(⟨some 20,none,.load (some 2) (.t 9)⟩,[0,1,2,3]),(⟨some 21,none,.mlk true .q (.str []) (.t 19) (.t 20)⟩,[]),(⟨some 15,none,.mv (.t 21)⟩,[]),(⟨some 22,none,.ext (.t 15) 0⟩,[]),(⟨some 23,none,.ext (.t 15) 1⟩,[7]),(⟨some 10,none,.mv (.t 22)⟩,[8]),(⟨some 11,none,.mv (.t 23)⟩,[])])
 (.seq (.block 0 (.seq (.ops [⟨some 25,none,.mv (.t 11)⟩,⟨some 26,none,.un .not (.t 25)⟩,⟨some 24,none,.mv (.t 26)⟩])
 (.cond (.t 24) (.seq (.ops [⟨some 8,none,.mv (.c (.int .i64 8))⟩])
 (.ret)) (.seq (.ops [⟨some 28,none,.mv (.t 3)⟩,⟨some 29,none,.len true (.t 28)⟩,⟨some 30,none,.mv (.t 10)⟩,⟨some 31,none,.len true (.t 30)⟩,⟨some 32,none,.bin 0 .neq (.t 29) (.t 31)⟩,⟨some 27,none,.mv (.t 32)⟩])
 (.cond (.t 27) (.seq (.ops [⟨some 8,none,.mv (.c (.int .i64 3))⟩])
 (.ret)) (.seq (.ops [⟨some 34,none,.mv (.t 3)⟩,⟨some 35,none,.call 67 [(.t 34)]⟩,⟨some 36,none,.bin 0 .neq (.t 35) (.c (.int .i64 0))⟩,⟨some 33,none,.mv (.t 36)⟩])
 (.cond (.t 33) (.seq (.ops [⟨some 8,none,.mv (.c (.int .i64 9))⟩])
 (.ret)) (.skip))))))))
 (.seq (.any [(⟨some 37,none,.mv (.t 0)⟩,[]),(⟨some 38,none,.nilchk (.t 37)⟩,[]),(⟨some 39,none,.fadr 4 (.t 38)⟩,[]),(⟨some 40,none,.load none (.t 39)⟩,[]),(⟨some 41,none,.load (some 2) (.t 9)⟩,[0,1,2,3]),(⟨some 42,none,.mv (.t 3)⟩,[0,1,2,3,4]),(⟨none,none,.mup .q (.t 40) (.t 41) (.t 42)⟩,[])])
 (.seq (.ops [⟨some 8,none,.mv (.c (.int .i64 0))⟩])
 (.ret))))))⟩
theorem c83:compF Go.Proofs.Tryz.prog 83=some a83:=by kernel_rfl
def a84 : AFn := ⟨12,[.t 6],.seq (.ops [⟨some 6,none,.mv (.c (.int .i64 0))⟩])
 (.seq (.seq (.ops [⟨some 7,none,.mv (.t 0)⟩,⟨some 8,none,.mv (.t 1)⟩,⟨some 9,none,.mv (.t 2)⟩,⟨some 10,none,.call 65 [(.t 7),(.t 8),(.t 9)]⟩,⟨some 11,none,.un .not (.t 10)⟩])
 (.cond (.t 11) (.seq (.ops [⟨some 6,none,.mv (.c (.int .i64 1))⟩])
 (.ret)) (.skip)))
 (.seq (.ops [⟨some 6,none,.mv (.c (.int .i64 0))⟩])
 (.ret)))⟩
theorem c84:compF Go.Proofs.Tryz.prog 84=some a84:=by kernel_rfl
def a85 : AFn := ⟨69,[.t 6,.t 7],.seq (.ops [⟨some 6,none,.mv (.c (.str []))⟩,⟨some 7,none,.mv (.c (.int .i64 0))⟩])
 (.seq (.block 0 (.seq (.ops [⟨some 13,none,.mv (.t 0)⟩,⟨some 14,none,.nilchk (.t 13)⟩,⟨some 15,none,.fadr 0 (.t 14)⟩,⟨some 16,none,.load none (.t 15)⟩,⟨some 17,none,.bin 0 .neq (.t 16) (.c (.int .i64 1))⟩,⟨some 18,none,.mv (.t 17)⟩,⟨some 19,(some (18,true)),.mv (.t 0)⟩,⟨some 20,(some (18,true)),.nilchk (.t 19)⟩,⟨some 21,(some (18,true)),.fadr 0 (.t 20)⟩,⟨some 22,(some (18,true)),.load none (.t 21)⟩,⟨some 23,(some (18,true)),.bin 0 .neq (.t 22) (.c (.int .i64 0))⟩,⟨some 24,none,.pick (.t 18) (.t 23) (.c (.bool false))⟩,⟨some 12,none,.mv (.t 24)⟩])
 (.cond (.t 12) (.seq (.ops [⟨some 6,none,.mv (.c (.str []))⟩,⟨some 7,none,.mv (.c (.int .i64 11))⟩])
 (.ret)) (.seq (.ops [⟨some 26,none,.mv (.t 2)⟩,⟨some 27,none,.bin 1 .eql (.t 26) (.c (.str []))⟩,⟨some 25,none,.mv (.t 27)⟩])
 (.cond (.t 25) (.seq (.ops [⟨some 6,none,.mv (.c (.str []))⟩,⟨some 7,none,.mv (.c (.int .i64 8))⟩])
 (.ret)) (.skip))))))
 (.seq (.seq (.ops [⟨some 28,none,.mv (.t 2)⟩,⟨some 29,none,.call 69 [(.t 28)]⟩,⟨some 8,none,.mv (.t 29)⟩])
 (.seq (.ops [⟨some 30,none,.mv (.t 8)⟩,⟨some 31,none,.bin 0 .neq (.t 30) (.c (.int .i64 0))⟩])
 (.cond (.t 31) (.seq (.ops [⟨some 32,none,.mv (.t 8)⟩,⟨some 6,none,.mv (.c (.str []))⟩,⟨some 7,none,.mv (.t 32)⟩])
 (.ret)) (.skip))))
 (.seq (.ops [⟨some 33,none,.mv (.t 0)⟩,⟨some 34,none,.mv (.t 0)⟩,⟨some 35,none,.nilchk (.t 34)⟩,⟨some 36,none,.fadr 0 (.t 35)⟩,⟨some 37,none,.load none (.t 36)⟩,⟨some 38,none,.mv (.t 1)⟩,⟨some 39,none,.call 123 [(.t 37),(.t 38)]⟩,⟨some 40,none,.call 126 [(.t 33),(.t 39)]⟩])
 (.seq (.ops [⟨some 9,none,.mv (.c (.lit true 0 []))⟩])
 (.seq (.seq (.ops [⟨some 41,none,.mv (.t 2)⟩,⟨some 42,none,.len true (.t 41)⟩,⟨some 43,none,.mv (.c (.int .i64 0))⟩])
 (.block 1 (.loop (.seq (.ops [⟨some 44,none,.bin 0 .lss (.t 43) (.t 42)⟩])
 (.seq (.cond (.t 44) (.skip) (.exit 1))
 (.seq (.block 2 (.seq (.ops [⟨some 45,none,.mv (.t 43)⟩,⟨some 10,none,.mv (.t 45)⟩])
 (.seq (.ops [⟨some 11,none,.mv (.c (.int .i64 0))⟩])
 (.seq (.seq (.ops [⟨some 46,none,.mv (.t 10)⟩,⟨some 47,none,.mv (.t 2)⟩,⟨some 48,none,.len true (.t 47)⟩,⟨some 49,none,.bin 0 .sub (.t 48) (.c (.int .i64 1))⟩,⟨some 50,none,.bin 0 .eql (.t 46) (.t 49)⟩])
 (.cond (.t 50) (.ops [⟨some 11,none,.mv (.c (.int .i64 1))⟩]) (.skip)))
 (.ops [⟨some 51,none,.mv (.t 9)⟩,⟨some 52,none,.mv (.t 0)⟩,⟨some 53,none,.mv (.t 11)⟩,⟨some 54,none,.mv (.t 2)⟩,⟨some 55,none,.mv (.t 10)⟩,⟨some 56,none,.idxs (.t 54) (.t 55)⟩,⟨some 57,none,.bin 0 .sub (.t 56) (.c (.int .u8 48))⟩,⟨some 58,none,.conv .i64 (.t 57)⟩,⟨some 59,none,.call 62 [(.t 52),(.t 53),(.t 58)]⟩,⟨some 60,none,.bin 0 .add (.c (.int .i64 48)) (.t 59)⟩,⟨some 61,none,.conv .u8 (.t 60)⟩,⟨some 62,none,.bslice 5 1 1 [(.int .u8 0)] [(0,1,(.t 61))]⟩,⟨some 63,none,.app 5 1 1 (.t 51) (.t 62)⟩,⟨some 9,none,.mv (.t 63)⟩])))))
 (.ops [⟨some 64,none,.bin 0 .add (.t 43) (.c (.int .i64 1))⟩,⟨some 43,none,.mv (.t 64)⟩])))))))
 (.seq (.ops [⟨some 65,none,.mv (.t 0)⟩,⟨some 66,none,.call 126 [(.t 65),(.c (.str [49,48]))]⟩])
 (.seq (.ops [⟨some 67,none,.mv (.t 9)⟩,⟨some 68,none,.b2s (.t 67)⟩,⟨some 6,none,.mv (.t 68)⟩,⟨some 7,none,.mv (.c (.int .i64 0))⟩])
 (.ret))))))))⟩
theorem c85:compF Go.Proofs.Tryz.prog 85=some a85:=by kernel_rfl
def a86 : AFn := ⟨25,[.t 4],.seq (.ops [⟨some 4,none,.mv (.c .nilp)⟩])
 (.seq (.seq (.ops [⟨some 7,none,.mv (.t 0)⟩,⟨some 8,none,.nilchk (.t 7)⟩,⟨some 9,none,.fadr 1 (.t 8)⟩,⟨some 10,none,.load none (.t 9)⟩,⟨some 11,none,.len false (.t 10)⟩,⟨some 12,none,.mv (.c (.int .i64 0))⟩])
 (.block 0 (.loop (.seq (.ops [⟨some 13,none,.bin 0 .lss (.t 12) (.t 11)⟩])
 (.seq (.cond (.t 13) (.skip) (.exit 0))
 (.seq (.block 1 (.seq (.ops [⟨some 14,none,.iadr 1 (.t 10) (.t 12)⟩,⟨some 15,none,.load none (.t 14)⟩,⟨some 6,none,.mv (.t 15)⟩])
 (.seq (.ops [⟨some 16,none,.mv (.t 6)⟩,⟨some 17,none,.nilchk (.t 16)⟩,⟨some 18,none,.fadr 0 (.t 17)⟩,⟨some 19,none,.fadr 0 (.t 18)⟩,⟨some 20,none,.load none (.t 19)⟩,⟨some 21,none,.mv (.t 1)⟩,⟨some 22,none,.bin 1 .eql (.t 20) (.t 21)⟩])
 (.cond (.t 22) (.seq (.ops [⟨some 23,none,.mv (.t 6)⟩,⟨some 4,none,.mv (.t 23)⟩])
 (.ret)) (.skip)))))
 (.ops [⟨some 24,none,.bin 0 .add (.t 12) (.c (.int .i64 1))⟩,⟨some 12,none,.mv (.t 24)⟩])))))))
 (.seq (.ops [⟨some 4,none,.mv (.c .nilp)⟩])
 (.ret)))⟩
theorem c86:compF Go.Proofs.Tryz.prog 86=some a86:=by kernel_rfl
def a95 : AFn := ⟨19,[.t 4],.seq (.ops [⟨some 4,none,.mv (.c (.int .i64 0))⟩])
 (.seq (.seq (.ops [⟨some 6,none,.mv (.t 0)⟩,⟨some 7,none,.len false (.t 6)⟩,⟨some 8,none,.mv (.c (.int .i64 0))⟩])
 (.block 0 (.loop (.seq (.ops [⟨some 9,none,.bin 0 .lss (.t 8) (.t 7)⟩])
 (.seq (.cond (.t 9) (.skip) (.exit 0))
 (.seq (.block 1 (.seq (.ops [⟨some 10,none,.mv (.t 8)⟩,⟨some 5,none,.mv (.t 10)⟩])
 (.seq (.ops [⟨some 11,none,.mv (.t 1)⟩,⟨some 12,none,.mv (.t 0)⟩,⟨some 13,none,.mv (.t 5)⟩,⟨some 14,none,.iadr 5 (.t 12) (.t 13)⟩,⟨some 15,none,.load (some 5) (.t 14)⟩,⟨some 16,none,.callv (.t 11) [(.t 15)]⟩])
 (.cond (.t 16) (.seq (.ops [⟨some 17,none,.mv (.t 5)⟩,⟨some 4,none,.mv (.t 17)⟩])
 (.ret)) (.skip)))))
 (.ops [⟨some 18,none,.bin 0 .add (.t 8) (.c (.int .i64 1))⟩,⟨some 8,none,.mv (.t 18)⟩])))))))
 (.seq (.ops [⟨some 4,none,.mv (.c (.int .i64 (-1)))⟩])
 (.ret)))⟩
theorem c95:compF Go.Proofs.Tryz.prog 95=some a95:=by kernel_rfl
def a96 : AFn := ⟨50,[.t 4],.seq (.ops [⟨some 2,none,.box 57 (.t 0)⟩,⟨some 4,none,.mv (.c (.int .i64 0))⟩])
 (.seq (.block 0 (.seq (.ops [⟨some 6,none,.fadr 0 (.t 2)⟩,⟨some 7,none,.load none (.t 6)⟩,⟨some 8,none,.call 141 [(.t 7)]⟩,⟨some 9,none,.un .not (.t 8)⟩,⟨some 5,none,.mv (.t 9)⟩])
 (.cond (.t 5) (.seq (.ops [⟨some 4,none,.mv (.c (.int .i64 5))⟩])
 (.ret)) (.seq (.ops [⟨some 11,none,.mv (.t 1)⟩,⟨some 12,none,.mkfn 142 [(.t 2)]⟩,⟨some 13,none,.call 42 [(.t 11),(.t 12)]⟩,⟨some 10,none,.mv (.t 13)⟩])
 (.cond (.t 10) (.seq (.ops [⟨some 4,none,.mv (.c (.int .i64 6))⟩])
 (.ret)) (.seq (.ops [⟨some 15,none,.fadr 1 (.t 2)⟩,⟨some 16,none,.load none (.t 15)⟩,⟨some 17,none,.call 75 [(.t 16),(.c (.int .i64 2)),(.c (.int .i64 32))]⟩,⟨some 18,none,.mv (.t 17)⟩,⟨some 19,(some (18,false)),.fadr 2 (.t 2)⟩,⟨some 20,(some (18,false)),.load none (.t 19)⟩,⟨some 21,(some (18,false)),.call 75 [(.t 20),(.c (.int .i64 0)),(.c (.int .i64 4294967295))]⟩,⟨some 22,none,.pick (.t 18) (.c (.bool true)) (.t 21)⟩,⟨some 14,none,.mv (.t 22)⟩])
 (.cond (.t 14) (.seq (.ops [⟨some 4,none,.mv (.c (.int .i64 1))⟩])
 (.ret)) (.seq (.ops [⟨some 24,none,.fadr 2 (.t 2)⟩,⟨some 25,none,.load none (.t 24)⟩,⟨some 26,none,.bin 0 .neq (.t 25) (.c (.int .i64 0))⟩,⟨some 27,none,.mv (.t 26)⟩,⟨some 28,(some (27,true)),.fadr 2 (.t 2)⟩,⟨some 29,(some (27,true)),.load none (.t 28)⟩,⟨some 30,(some (27,true)),.bin 0 .rem (.t 29) (.c (.int .i64 2))⟩,⟨some 31,(some (27,true)),.bin 0 .eql (.t 30) (.c (.int .i64 0))⟩,⟨some 32,none,.pick (.t 27) (.t 31) (.c (.bool false))⟩,⟨some 23,none,.mv (.t 32)⟩])
 (.cond (.t 23) (.seq (.ops [⟨some 4,none,.mv (.c (.int .i64 3))⟩])
 (.ret)) (.seq (.ops [⟨some 34,none,.fadr 3 (.t 2)⟩,⟨some 35,none,.load none (.t 34)⟩,⟨some 36,none,.len false (.t 35)⟩,⟨some 37,none,.bin 0 .gtr (.t 36) (.c (.int .i64 10))⟩,⟨some 38,none,.mv (.t 37)⟩,⟨some 39,(some (38,false)),.fadr 4 (.t 2)⟩,⟨some 40,(some (38,false)),.load none (.t 39)⟩,⟨some 41,(some (38,false)),.len false (.t 40)⟩,⟨some 42,(some (38,false)),.bin 0 .gtr (.t 41) (.c (.int .i64 100))⟩,⟨some 43,none,.pick (.t 38) (.c (.bool true)) (.t 42)⟩,⟨some 33,none,.mv (.t 43)⟩])
 (.cond (.t 33) (.seq (.ops [⟨some 4,none,.mv (.c (.int .i64 2))⟩])
 (.ret)) (.skip))))))))))))
 (.seq (.any [(⟨some 44,none,.load (some 5) (.t 2)⟩,[]),(⟨some 45,none,.call 144 [(.t 44)]⟩,[]),(⟨some 46,none,.load (some 5) (.t 2)⟩,[0,1]),(⟨some 47,none,.call 145 [(.t 46)]⟩,[]),(⟨some 48,none,.bslice 30 1 2 [(.int .i64 0)] [(0,1,(.t 45)),(1,1,(.t 47))]⟩,[]),(⟨some 49,none,.call 143 [(.t 48)]⟩,[]),(⟨some 4,none,.mv (.t 49)⟩,[])])
 (.ret)))⟩
theorem c96:compF Go.Proofs.Tryz.prog 96=some a96:=by kernel_rfl
def a97 : AFn := ⟨16,[.t 4],.seq (.ops [⟨some 4,none,.mv (.c (.int .i64 0))⟩])
 (.seq (.seq (.ops [⟨some 5,none,.mv (.t 1)⟩,⟨some 6,none,.bin 0 .lss (.t 5) (.c (.int .i64 1))⟩])
 (.cond (.t 6) (.seq (.ops [⟨some 4,none,.mv (.c (.int .i64 0))⟩])
 (.ret)) (.skip)))
 (.seq (.ops [⟨some 7,none,.mv (.t 0)⟩,⟨some 8,none,.mv (.t 1)⟩,⟨some 9,none,.bin 0 .rem (.t 7) (.t 8)⟩,⟨some 0,none,.mv (.t 9)⟩])
 (.seq (.seq (.ops [⟨some 10,none,.mv (.t 0)⟩,⟨some 11,none,.bin 0 .lss (.t 10) (.c (.int .i64 0))⟩])
 (.cond (.t 11) (.ops [⟨some 12,none,.mv (.t 0)⟩,⟨some 13,none,.mv (.t 1)⟩,⟨some 14,none,.bin 0 .add (.t 12) (.t 13)⟩,⟨some 0,none,.mv (.t 14)⟩]) (.skip)))
 (.seq (.ops [⟨some 15,none,.mv (.t 0)⟩,⟨some 4,none,.mv (.t 15)⟩])
 (.ret)))))⟩
theorem c97:compF Go.Proofs.Tryz.prog 97=some a97:=by kernel_rfl
def a98 : AFn := ⟨31,[.c 4 (some 2)],.seq (.ops [⟨some 2,none,.box 57 (.t 0)⟩,⟨some 4,none,.alloc 70 [(.str []),(.int .i64 0)]⟩])
 (.seq (.ops [⟨some 5,none,.mv (.c (.str [98,121,112,97,115,115]))⟩])
 (.seq (.seq (.ops [⟨some 10,none,.fadr 4 (.t 2)⟩,⟨some 11,none,.load none (.t 10)⟩,⟨some 12,none,.len false (.t 11)⟩,⟨some 13,none,.mv (.c (.int .i64 0))⟩])
 (.block 0 (.loop (.seq (.ops [⟨some 14,none,.bin 0 .lss (.t 13) (.t 12)⟩])
 (.seq (.cond (.t 14) (.skip) (.exit 0))
 (.seq (.block 1 (.seq (.ops [⟨some 15,none,.iadr 2 (.t 11) (.t 13)⟩,⟨some 16,none,.load (some 2) (.t 15)⟩,⟨some 7,none,.alloc 68 [(.str []),(.str [])]⟩,⟨none,none,.store 2 (.t 7) (.t 16)⟩])
 (.seq (.ops [⟨some 17,none,.fadr 0 (.t 7)⟩,⟨some 18,none,.load none (.t 17)⟩,⟨some 19,none,.mv (.t 1)⟩,⟨some 20,none,.bin 1 .eql (.t 18) (.t 19)⟩])
 (.cond (.t 20) (.ops [⟨some 21,none,.fadr 1 (.t 7)⟩,⟨some 22,none,.load none (.t 21)⟩,⟨some 5,none,.mv (.t 22)⟩]) (.skip)))))
 (.ops [⟨some 23,none,.bin 0 .add (.t 13) (.c (.int .i64 1))⟩,⟨some 13,none,.mv (.t 23)⟩])))))))
 (.seq (.ops [⟨some 25,none,.load (some 5) (.t 2)⟩,⟨some 26,none,.mv (.t 5)⟩,⟨some 27,none,.call 146 [(.t 25),(.t 26)]⟩,⟨some 24,none,.mv (.t 27)⟩,⟨some 28,none,.ext (.t 24) 0⟩,⟨some 29,none,.ext (.t 24) 1⟩,⟨some 8,none,.alloc 70 [(.str []),(.int .i64 0)]⟩,⟨none,none,.store 2 (.t 8) (.t 28)⟩,⟨some 9,none,.mv (.t 29)⟩])
 (.seq (.ops [⟨some 30,none,.load (some 2) (.t 8)⟩,⟨none,none,.store 2 (.t 4) (.t 30)⟩])
 (.ret)))))⟩
theorem c98:compF Go.Proofs.Tryz.prog 98=some a98:=by kernel_rfl
def a109 : AFn := ⟨44,[.t 4],.seq (.ops [⟨some 4,none,.mv (.c (.str []))⟩])
 (.seq (.ops [⟨some 11,none,.bslice 9 1 1 [(.str [])] [(0,1,(.c (.str [])))]⟩,⟨some 5,none,.mv (.t 11)⟩])
 (.block 0 (.loop (.block 1 (.seq (.ops [⟨some 6,none,.mv (.c (.lit true 0 []))⟩])
 (.seq (.seq (.ops [⟨some 12,none,.mv (.t 5)⟩,⟨some 13,none,.len false (.t 12)⟩,⟨some 14,none,.mv (.c (.int .i64 0))⟩])
 (.block 2 (.loop (.seq (.ops [⟨some 15,none,.bin 0 .lss (.t 14) (.t 13)⟩])
 (.seq (.cond (.t 15) (.skip) (.exit 2))
 (.seq (.block 3 (.seq (.ops [⟨some 16,none,.iadr 1 (.t 12) (.t 14)⟩,⟨some 17,none,.load none (.t 16)⟩,⟨some 8,none,.mv (.t 17)⟩])
 (.seq (.ops [⟨some 18,none,.mv (.t 0)⟩,⟨some 9,none,.mv (.t 18)⟩])
 (.seq (.seq (.ops [⟨some 19,none,.mv (.t 0)⟩,⟨some 20,none,.mv (.t 8)⟩,⟨some 21,none,.call 155 [(.t 19),(.t 20)]⟩,⟨some 10,none,.mv (.t 21)⟩])
 (.seq (.ops [⟨some 22,none,.mv (.t 10)⟩,⟨some 23,none,.len false (.t 22)⟩,⟨some 24,none,.bin 0 .gtr (.t 23) (.c (.int .i64 0))⟩])
 (.cond (.t 24) (.ops [⟨some 25,none,.mv (.t 10)⟩,⟨some 26,none,.mv (.t 10)⟩,⟨some 27,none,.len false (.t 26)⟩,⟨some 28,none,.bin 0 .sub (.t 27) (.c (.int .i64 1))⟩,⟨some 29,none,.iadr 1 (.t 25) (.t 28)⟩,⟨some 30,none,.load none (.t 29)⟩,⟨some 9,none,.mv (.t 30)⟩]) (.skip))))
 (.seq (.seq (.ops [⟨some 31,none,.mv (.t 9)⟩,⟨some 32,none,.mv (.t 1)⟩,⟨some 33,none,.bin 0 .eql (.t 31) (.t 32)⟩])
 (.cond (.t 33) (.seq (.ops [⟨some 34,none,.mv (.t 8)⟩,⟨some 4,none,.mv (.t 34)⟩])
 (.ret)) (.skip)))
 (.ops [⟨some 35,none,.mv (.t 6)⟩,⟨some 36,none,.mv (.t 8)⟩,⟨some 37,none,.bin 1 .add (.t 36) (.c (.str [48]))⟩,⟨some 38,none,.mv (.t 8)⟩,⟨some 39,none,.bin 1 .add (.t 38) (.c (.str [49]))⟩,⟨some 40,none,.bslice 9 1 2 [(.str [])] [(0,1,(.t 37)),(1,1,(.t 39))]⟩,⟨some 41,none,.app 9 1 16 (.t 35) (.t 40)⟩,⟨some 6,none,.mv (.t 41)⟩]))))))
 (.ops [⟨some 42,none,.bin 0 .add (.t 14) (.c (.int .i64 1))⟩,⟨some 14,none,.mv (.t 42)⟩])))))))
 (.ops [⟨some 43,none,.mv (.t 6)⟩,⟨some 5,none,.mv (.t 43)⟩])))))))⟩
theorem c109:compF Go.Proofs.Tryz.prog 109=some a109:=by kernel_rfl
def a110 : AFn := ⟨4,[.t 2],.seq (.ops [⟨some 2,none,.mv (.c (.int .i64 0))⟩])
 (.seq (.seq (.ops [⟨some 3,none,.mv (.t 0)⟩])
 (.cond (.t 3) (.seq (.ops [⟨some 2,none,.mv (.c (.int .i64 1))⟩])
 (.ret)) (.skip)))
 (.seq (.ops [⟨some 2,none,.mv (.c (.int .i64 0))⟩])
 (.ret)))⟩
theorem c110:compF Go.Proofs.Tryz.prog 110=some a110:=by kernel_rfl
def a111 : AFn := ⟨54,[.t 4],.seq (.ops [⟨some 4,none,.mv (.c (.str []))⟩])
 (.seq (.seq (.ops [⟨some 10,none,.mv (.t 1)⟩,⟨some 11,none,.bin 0 .eql (.t 10) (.c (.int .i64 10))⟩])
 (.cond (.t 11) (.seq (.seq (.ops [⟨some 12,none,.mv (.t 0)⟩,⟨some 13,none,.bin 0 .leq (.c (.int .i64 0)) (.t 12)⟩,⟨some 14,none,.mv (.t 13)⟩,⟨some 15,(some (14,true)),.mv (.t 0)⟩,⟨some 16,(some (14,true)),.bin 0 .lss (.t 15) (.c (.int .i64 100))⟩,⟨some 17,none,.pick (.t 14) (.t 16) (.c (.bool false))⟩])
 (.cond (.t 17) (.seq (.ops [⟨some 18,none,.mv (.t 0)⟩,⟨some 19,none,.call 156 [(.t 18)]⟩,⟨some 4,none,.mv (.t 19)⟩])
 (.ret)) (.skip)))
 (.seq (.ops [⟨some 5,none,.allocb 187 24⟩])
 (.seq (.ops [⟨some 20,none,.mv (.t 0)⟩,⟨some 21,none,.conv .u64 (.t 20)⟩,⟨some 6,none,.mv (.t 21)⟩])
 (.seq (.seq (.ops [⟨some 22,none,.mv (.t 0)⟩,⟨some 23,none,.bin 0 .lss (.t 22) (.c (.int .i64 0))⟩])
 (.cond (.t 23) (.ops [⟨some 24,none,.mv (.t 6)⟩,⟨some 25,none,.un .neg (.t 24)⟩,⟨some 6,none,.mv (.t 25)⟩]) (.skip)))
 (.seq (.ops [⟨some 26,none,.mv (.t 6)⟩,⟨some 27,none,.call 157 [(.t 26)]⟩,⟨some 7,none,.mv (.t 27)⟩])
 (.seq (.ops [⟨some 28,none,.mv (.t 7)⟩,⟨some 29,none,.bin 0 .add (.c (.int .i64 1)) (.t 28)⟩,⟨some 30,none,.slcb 24 (.t 5) (some (.c (.int .i64 1))) (some (.t 29))⟩,⟨some 31,none,.mv (.t 6)⟩,⟨some 32,none,.call 158 [(.t 30),(.t 31)]⟩])
 (.seq (.seq (.ops [⟨some 33,none,.mv (.t 0)⟩,⟨some 34,none,.bin 0 .lss (.t 33) (.c (.int .i64 0))⟩])
 (.cond (.t 34) (.seq (.ops [⟨some 35,none,.aadrb 24 (.t 5) (.c (.int .i64 0))⟩,⟨none,none,.store 1 (.t 35) (.c (.int .u8 45))⟩])
 (.seq (.ops [⟨some 36,none,.mv (.t 7)⟩,⟨some 37,none,.bin 0 .add (.c (.int .i64 1)) (.t 36)⟩,⟨some 38,none,.slcb 24 (.t 5) none (some (.t 37))⟩,⟨some 39,none,.b2s (.t 38)⟩,⟨some 4,none,.mv (.t 39)⟩])
 (.ret))) (.skip)))
 (.seq (.ops [⟨some 40,none,.mv (.t 7)⟩,⟨some 41,none,.bin 0 .add (.c (.int .i64 1)) (.t 40)⟩,⟨some 42,none,.slcb 24 (.t 5) (some (.c (.int .i64 1))) (some (.t 41))⟩,⟨some 43,none,.b2s (.t 42)⟩,⟨some 4,none,.mv (.t 43)⟩])
 (.ret))))))))) (.skip)))
 (.seq (.ops [⟨some 45,none,.mv (.t 0)⟩,⟨some 46,none,.conv .u64 (.t 45)⟩,⟨some 47,none,.mv (.t 1)⟩,⟨some 48,none,.mv (.t 0)⟩,⟨some 49,none,.bin 0 .lss (.t 48) (.c (.int .i64 0))⟩,⟨some 50,none,.call 159 [(.c (.lit true 0 [])),(.t 46),(.t 47),(.t 49),(.c (.bool false))]⟩,⟨some 44,none,.mv (.t 50)⟩,⟨some 51,none,.ext (.t 44) 0⟩,⟨some 52,none,.ext (.t 44) 1⟩,⟨some 8,none,.mv (.t 51)⟩,⟨some 9,none,.mv (.t 52)⟩])
 (.seq (.ops [⟨some 53,none,.mv (.t 9)⟩,⟨some 4,none,.mv (.t 53)⟩])
 (.ret))))⟩
theorem c111:compF Go.Proofs.Tryz.prog 111=some a111:=by kernel_rfl
def a112 : AFn := ⟨22,[.t 6],.seq (.ops [⟨some 6,none,.mv (.c (.int .i64 0))⟩])
 (.seq (.seq (.ops [⟨some 7,none,.mv (.t 0)⟩,⟨some 8,none,.call 14 [(.t 7),(.c (.int .i64 12))]⟩])
 (.cond (.t 8) (.seq (.ops [⟨some 9,none,.mv (.t 0)⟩,⟨some 10,none,.mv (.t 1)⟩,⟨some 11,none,.bin 0 .sub (.t 10) (.c (.int .i64 1))⟩,⟨some 12,none,.mv (.t 2)⟩,⟨some 13,none,.bin 0 .add (.t 12) (.c (.int .i64 1))⟩,⟨some 14,none,.mv (.t 1)⟩,⟨some 15,none,.mv (.t 2)⟩,⟨some 16,none,.bslice 3 1 6 [(.int .i64 0)] [(0,1,(.t 11)),(1,1,(.t 13)),(2,1,(.t 14)),(3,1,(.t 15)),(4,1,(.c (.int .i64 (-1099511627776)))),(5,1,(.c (.int .i64 1099511627776)))]⟩,⟨some 17,none,.call 46 [(.t 9),(.t 16)]⟩,⟨some 6,none,.mv (.t 17)⟩])
 (.ret)) (.skip)))
 (.seq (.ops [⟨some 18,none,.mv (.t 0)⟩,⟨some 19,none,.mv (.t 1)⟩,⟨some 20,none,.mv (.t 2)⟩,⟨some 21,none,.call 27 [(.t 18),(.t 19),(.t 20)]⟩,⟨some 6,none,.mv (.t 21)⟩])
 (.ret)))⟩
theorem c112:compF Go.Proofs.Tryz.prog 112=some a112:=by kernel_rfl
def a114 : AFn := ⟨89,[.t 6],.seq (.ops [⟨some 6,none,.mv (.c (.int .u8 0))⟩])
 (.seq (.seq (.ops [⟨some 9,none,.mv (.t 0)⟩,⟨some 10,none,.nilchk (.t 9)⟩,⟨some 11,none,.fadr 0 (.t 10)⟩,⟨some 12,none,.load none (.t 11)⟩])
 (.block 0 (.seq (.ops [⟨some 14,none,.bin 0 .eql (.t 12) (.c (.int .i64 0))⟩,⟨some 13,none,.mv (.t 14)⟩])
 (.cond (.t 13) (.ops [⟨some 15,none,.mv (.t 1)⟩,⟨some 16,none,.nilchk (.t 15)⟩,⟨some 17,none,.fadr 5 (.t 16)⟩,⟨none,none,.store 1 (.t 17) (.c (.str []))⟩]) (.seq (.ops [⟨some 19,none,.bin 0 .eql (.t 12) (.c (.int .i64 3))⟩,⟨some 18,none,.mv (.t 19)⟩])
 (.cond (.t 18) (.ops [⟨some 20,none,.mv (.t 1)⟩,⟨some 21,none,.mv (.t 1)⟩,⟨some 22,none,.call 167 [(.t 21)]⟩,⟨some 23,none,.nilchk (.t 20)⟩,⟨some 24,none,.fadr 6 (.t 23)⟩,⟨none,none,.store 1 (.t 24) (.t 22)⟩]) (.seq (.seq (.ops [⟨some 26,none,.bin 0 .eql (.t 12) (.c (.int .i64 4))⟩,⟨some 25,none,.mv (.t 26)⟩])
 (.cond (.t 25) (.skip) (.ops [⟨some 27,none,.bin 0 .eql (.t 12) (.c (.int .i64 11))⟩,⟨some 25,none,.mv (.t 27)⟩])))
 (.cond (.t 25) (.seq (.ops [⟨some 28,none,.mv (.t 1)⟩,⟨some 29,none,.nilchk (.t 28)⟩,⟨some 30,none,.fadr 6 (.t 29)⟩,⟨some 31,none,.load none (.t 30)⟩,⟨some 32,none,.idxs (.t 31) (.c (.int .i64 0))⟩,⟨some 7,none,.mv (.t 32)⟩])
 (.seq (.ops [⟨some 33,none,.mv (.t 1)⟩,⟨some 34,none,.mv (.t 1)⟩,⟨some 35,none,.nilchk (.t 34)⟩,⟨some 36,none,.fadr 6 (.t 35)⟩,⟨some 37,none,.load none (.t 36)⟩,⟨some 38,none,.sls (.t 37) (some (.c (.int .i64 1))) none⟩,⟨some 39,none,.mv (.t 2)⟩,⟨some 40,none,.conv .i32 (.t 39)⟩,⟨some 41,none,.i2s (.t 40)⟩,⟨some 42,none,.bin 1 .add (.t 38) (.t 41)⟩,⟨some 43,none,.nilchk (.t 33)⟩,⟨some 44,none,.fadr 6 (.t 43)⟩,⟨none,none,.store 1 (.t 44) (.t 42)⟩])
 (.seq (.ops [⟨some 45,none,.mv (.t 7)⟩,⟨some 6,none,.mv (.t 45)⟩])
 (.ret)))) (.seq (.ops [⟨some 47,none,.bin 0 .eql (.t 12) (.c (.int .i64 8))⟩,⟨some 46,none,.mv (.t 47)⟩])
 (.cond (.t 46) (.seq (.ops [⟨some 48,none,.mv (.t 1)⟩,⟨some 49,none,.call 168 [(.t 48)]⟩,⟨some 50,none,.fld 0 none (.t 49)⟩,⟨some 8,none,.mv (.t 50)⟩])
 (.seq (.ops [⟨some 51,none,.mv (.t 8)⟩,⟨some 52,none,.bin 1 .neq (.t 51) (.c (.str [98,121,112,97,115,115]))⟩,⟨some 53,none,.mv (.t 52)⟩,⟨some 54,(some (53,true)),.mv (.t 8)⟩,⟨some 55,(some (53,true)),.bin 1 .neq (.t 54) (.c (.str [105,100,99,111,100,101]))⟩,⟨some 56,none,.pick (.t 53) (.t 55) (.c (.bool false))⟩])
 (.cond (.t 56) (.any [(⟨some 57,none,.mv (.t 1)⟩,[]),(⟨some 58,none,.nilchk (.t 57)⟩,[]),(⟨some 59,none,.fadr 8 (.t 58)⟩,[]),(⟨some 60,none,.load none (.t 59)⟩,[]),(⟨some 61,none,.mv (.t 8)⟩,[0,1,2,3]),(⟨some 62,none,.mv (.t 1)⟩,[0,1,2,3,4]),(⟨some 63,none,.nilchk (.t 62)⟩,[0,1,2,3,4]),(⟨some 64,none,.fadr 6 (.t 63)⟩,[0,1,2,3,4]),(⟨some 65,none,.load none (.t 64)⟩,[0,1,2,3,4]),(⟨none,none,.mup .s (.t 60) (.t 61) (.t 65)⟩,[])]) (.skip)))) (.seq (.ops [⟨some 67,none,.bin 0 .eql (.t 12) (.c (.int .i64 10))⟩,⟨some 66,none,.mv (.t 67)⟩])
 (.cond (.t 66) (.ops [⟨some 68,none,.mv (.t 1)⟩,⟨some 69,none,.mv (.t 1)⟩,⟨some 70,none,.nilchk (.t 69)⟩,⟨some 71,none,.fadr 0 (.t 70)⟩,⟨some 72,none,.fadr 1 (.t 71)⟩,⟨some 73,none,.load none (.t 72)⟩,⟨some 74,none,.bin 0 .sub (.t 73) (.c (.int .i64 1))⟩,⟨some 75,none,.call 41 [(.c (.str [48])),(.t 74)]⟩,⟨some 76,none,.bin 1 .add (.c (.str [49])) (.t 75)⟩,⟨some 77,none,.nilchk (.t 68)⟩,⟨some 78,none,.fadr 6 (.t 77)⟩,⟨none,none,.store 1 (.t 78) (.t 76)⟩]) (.seq (.ops [⟨some 80,none,.bin 0 .eql (.t 12) (.c (.int .i64 15))⟩,⟨some 79,none,.mv (.t 80)⟩])
 (.cond (.t 79) (.ops [⟨some 81,none,.mv (.t 1)⟩,⟨some 82,none,.mv (.t 1)⟩,⟨some 83,none,.nilchk (.t 82)⟩,⟨some 84,none,.fadr 6 (.t 83)⟩,⟨some 85,none,.load none (.t 84)⟩,⟨some 86,none,.nilchk (.t 81)⟩,⟨some 87,none,.fadr 5 (.t 86)⟩,⟨none,none,.store 1 (.t 87) (.t 85)⟩]) (.skip)))))))))))))))
 (.seq (.ops [⟨some 88,none,.mv (.t 2)⟩,⟨some 6,none,.mv (.t 88)⟩])
 (.ret)))⟩
theorem c114:compF Go.Proofs.Tryz.prog 114=some a114:=by kernel_rfl
def a115 : AFn := ⟨28,[.t 4],.seq (.ops [⟨some 4,none,.mv (.c (.int .i64 0))⟩])
 (.seq (.ops [⟨some 6,none,.build [(.int .i64 0),(.int .i64 0)] [(0,1,(.c (.int .i64 1))),(1,1,(.c (.int .i64 0)))]⟩,⟨some 7,none,.build [(.int .i64 0),(.int .i64 0)] [(0,1,(.c (.int .i64 1))),(1,1,(.c (.int .i64 2)))]⟩,⟨some 8,none,.build [(.int .i64 0),(.int .i64 0)] [(0,1,(.c (.int .i64 3))),(1,1,(.c (.int .i64 9)))]⟩,⟨some 9,none,.build [(.int .i64 0),(.int .i64 0)] [(0,1,(.c (.int .i64 4))),(1,1,(.c (.int .i64 5)))]⟩,⟨some 10,none,.build [(.int .i64 0),(.int .i64 0)] [(0,1,(.c (.int .i64 4))),(1,1,(.c (.int .i64 5)))]⟩,⟨some 11,none,.build [(.int .i64 0),(.int .i64 0)] [(0,1,(.c (.int .i64 6))),(1,1,(.c (.int .i64 8)))]⟩,⟨some 12,none,.build [(.int .i64 0),(.int .i64 0)] [(0,1,(.c (.int .i64 6))),(1,1,(.c (.int .i64 7)))]⟩,⟨some 13,none,.build [(.int .i64 0),(.int .i64 0)] [(0,1,(.c (.int .i64 4))),(1,1,(.c (.int .i64 8)))]⟩,⟨some 14,none,.build [(.int .i64 0),(.int .i64 0)] [(0,1,(.c (.int .i64 1))),(1,1,(.c (.int .i64 2)))]⟩,⟨some 15,none,.build [(.int .i64 0),(.int .i64 0)] [(0,1,(.c (.int .i64 10))),(1,1,(.c (.int .i64 0)))]⟩,⟨some 16,none,.build [(.int .i64 0),(.int .i64 0)] [(0,1,(.c (.int .i64 11))),(1,1,(.c (.int .i64 12)))]⟩,⟨some 17,none,.build [(.int .i64 0),(.int .i64 0)] [(0,1,(.c (.int .i64 11))),(1,1,(.c (.int .i64 12)))]⟩,⟨some 18,none,.build [(.int .i64 0),(.int .i64 0)] [(0,1,(.c (.int .i64 13))),(1,1,(.c (.int .i64 15)))]⟩,⟨some 19,none,.build [(.int .i64 0),(.int .i64 0)] [(0,1,(.c (.int .i64 13))),(1,1,(.c (.int .i64 14)))]⟩,⟨some 20,none,.build [(.int .i64 0),(.int .i64 0)] [(0,1,(.c (.int .i64 11))),(1,1,(.c (.int .i64 15)))]⟩,⟨some 21,none,.build [(.int .i64 0),(.int .i64 0)] [(0,1,(.c (.int .i64 1))),(1,1,(.c (.int .i64 2)))]⟩,⟨some 22,none,.build [(.int .i64 0),(.int .i64 0),(.int .i64 0),(.int .i64 0),(.int .i64 0),(.int .i64 0),(.int .i64 0),(.int .i64 0),(.int .i64 0),(.int .i64 0),(.int .i64 0),(.int .i64 0),(.int .i64 0),(.int .i64 0),(.int .i64 0),(.int .i64 0),(.int .i64 0),(.int .i64 0),(.int .i64 0),(.int .i64 0),(.int .i64 0),(.int .i64 0),(.int .i64 0),(.int .i64 0),(.int .i64 0),(.int .i64 0),(.int .i64 0),(.int .i64 0),(.int .i64 0),(.int .i64 0),(.int .i64 0),(.int .i64 0)] [(0,2,(.t 6)),(2,2,(.t 7)),(4,2,(.t 8)),(6,2,(.t 9)),(8,2,(.t 10)),(10,2,(.t 11)),(12,2,(.t 12)),(14,2,(.t 13)),(16,2,(.t 14)),(18,2,(.t 15)),(20,2,(.t 16)),(22,2,(.t 17)),(24,2,(.t 18)),(26,2,(.t 19)),(28,2,(.t 20)),(30,2,(.t 21))]⟩,⟨some 5,none,.alloc 156 [(.int .i64 0),(.int .i64 0),(.int .i64 0),(.int .i64 0),(.int .i64 0),(.int .i64 0),(.int .i64 0),(.int .i64 0),(.int .i64 0),(.int .i64 0),(.int .i64 0),(.int .i64 0),(.int .i64 0),(.int .i64 0),(.int .i64 0),(.int .i64 0),(.int .i64 0),(.int .i64 0),(.int .i64 0),(.int .i64 0),(.int .i64 0),(.int .i64 0),(.int .i64 0),(.int .i64 0),(.int .i64 0),(.int .i64 0),(.int .i64 0),(.int .i64 0),(.int .i64 0),(.int .i64 0),(.int .i64 0),(.int .i64 0)]⟩,⟨none,none,.store 32 (.t 5) (.t 22)⟩])
 (.seq (.ops [⟨some 23,none,.mv (.t 0)⟩,⟨some 24,none,.mv (.t 1)⟩,⟨some 25,none,.aadr 16 2 (.t 5) (.t 23)⟩,⟨some 26,none,.aadr 2 1 (.t 25) (.t 24)⟩,⟨some 27,none,.load none (.t 26)⟩,⟨some 4,none,.mv (.t 27)⟩])
 (.ret)))⟩
theorem c115:compF Go.Proofs.Tryz.prog 115=some a115:=by kernel_rfl
def a116 : AFn := ⟨8,[.t 4],.seq (.ops [⟨some 4,none,.mv (.c (.int .i64 0))⟩])
 (.seq (.ops [⟨some 5,none,.mv (.t 0)⟩,⟨some 6,none,.mv (.t 1)⟩,⟨some 7,none,.call 169 [(.t 5),(.t 6)]⟩,⟨some 4,none,.mv (.t 7)⟩])
 (.ret))⟩
theorem c116:compF Go.Proofs.Tryz.prog 116=some a116:=by kernel_rfl
def a117 : AFn := ⟨9,[.t 4],.seq (.ops [⟨some 4,none,.mv (.c (.bool false))⟩])
 (.seq (.ops [⟨some 5,none,.mv (.t 0)⟩,⟨some 6,none,.mv (.t 1)⟩,⟨some 7,none,.call 170 [(.t 5),(.t 6)]⟩,⟨some 8,none,.bin 0 .geq (.t 7) (.c (.int .i64 0))⟩,⟨some 4,none,.mv (.t 8)⟩])
 (.ret))⟩
theorem c117:compF Go.Proofs.Tryz.prog 117=some a117:=by kernel_rfl
def a118 : AFn := ⟨9,[.t 3],.seq (.ops [⟨some 2,none,.box 70 (.t 0)⟩,⟨some 3,none,.mv (.c (.bool false))⟩])
 (.seq (.ops [⟨some 4,none,.fadr 0 (.t 2)⟩,⟨some 5,none,.load none (.t 4)⟩,⟨some 6,none,.fadr 0 (.t 1)⟩,⟨some 7,none,.load none (.t 6)⟩,⟨some 8,none,.bin 1 .eql (.t 5) (.t 7)⟩,⟨some 3,none,.mv (.t 8)⟩])
 (.ret))⟩
theorem c118:compF Go.Proofs.Tryz.prog 118=some a118:=by kernel_rfl
def a119 : AFn := ⟨57,[.t 4],.seq (.ops [⟨some 2,none,.box 57 (.t 0)⟩,⟨some 4,none,.mv (.c (.int .i64 0))⟩])
 (.seq (.ops [⟨some 7,none,.fadr 4 (.t 2)⟩,⟨some 8,none,.load none (.t 7)⟩,⟨some 9,none,.mv (.t 1)⟩,⟨some 10,none,.iadr 2 (.t 8) (.t 9)⟩,⟨some 11,none,.load (some 2) (.t 10)⟩,⟨some 5,none,.alloc 68 [(.str []),(.str [])]⟩,⟨none,none,.store 2 (.t 5) (.t 11)⟩])
 (.seq (.ops [⟨some 12,none,.fadr 3 (.t 2)⟩,⟨some 13,none,.load none (.t 12)⟩,⟨some 14,none,.mkfn 171 [(.t 5)]⟩,⟨some 15,none,.call 117 [(.t 13),(.t 14)]⟩,⟨some 6,none,.mv (.t 15)⟩])
 (.seq (.block 0 (.seq (.ops [⟨some 17,none,.fadr 0 (.t 5)⟩,⟨some 18,none,.load none (.t 17)⟩,⟨some 19,none,.len true (.t 18)⟩,⟨some 20,none,.fadr 1 (.t 2)⟩,⟨some 21,none,.load none (.t 20)⟩,⟨some 22,none,.bin 0 .neq (.t 19) (.t 21)⟩,⟨some 16,none,.mv (.t 22)⟩])
 (.cond (.t 16) (.seq (.ops [⟨some 4,none,.mv (.c (.int .i64 3))⟩])
 (.ret)) (.seq (.ops [⟨some 24,none,.fadr 0 (.t 5)⟩,⟨some 25,none,.load none (.t 24)⟩,⟨some 26,none,.call 67 [(.t 25)]⟩,⟨some 27,none,.bin 0 .neq (.t 26) (.c (.int .i64 0))⟩,⟨some 23,none,.mv (.t 27)⟩])
 (.cond (.t 23) (.seq (.ops [⟨some 4,none,.mv (.c (.int .i64 9))⟩])
 (.ret)) (.seq (.ops [⟨some 29,none,.fadr 0 (.t 5)⟩,⟨some 30,none,.load none (.t 29)⟩,⟨some 31,none,.call 37 [(.t 30),(.c (.str [48]))]⟩,⟨some 32,none,.un .not (.t 31)⟩,⟨some 28,none,.mv (.t 32)⟩])
 (.cond (.t 28) (.seq (.ops [⟨some 4,none,.mv (.c (.int .i64 16))⟩])
 (.ret)) (.seq (.ops [⟨some 34,none,.fadr 4 (.t 2)⟩,⟨some 35,none,.load none (.t 34)⟩,⟨some 36,none,.mv (.t 1)⟩,⟨some 37,none,.slc 2 (.t 35) none (some (.t 36))⟩,⟨some 38,none,.mkfn 173 [(.t 5)]⟩,⟨some 39,none,.call 172 [(.t 37),(.t 38)]⟩,⟨some 33,none,.mv (.t 39)⟩])
 (.cond (.t 33) (.seq (.ops [⟨some 4,none,.mv (.c (.int .i64 6))⟩])
 (.ret)) (.seq (.ops [⟨some 41,none,.fadr 1 (.t 5)⟩,⟨some 42,none,.load none (.t 41)⟩,⟨some 43,none,.bin 1 .eql (.t 42) (.c (.str [98,121,112,97,115,115]))⟩,⟨some 44,none,.mv (.t 43)⟩,⟨some 45,(some (44,false)),.fadr 1 (.t 5)⟩,⟨some 46,(some (44,false)),.load none (.t 45)⟩,⟨some 47,(some (44,false)),.bin 1 .eql (.t 46) (.c (.str [105,100,99,111,100,101]))⟩,⟨some 48,(some (44,false)),.mv (.t 47)⟩,⟨some 49,(some (48,true)),.fadr 2 (.t 2)⟩,⟨some 50,(some (48,true)),.load none (.t 49)⟩,⟨some 51,(some (48,true)),.bin 0 .neq (.t 50) (.c (.int .i64 0))⟩,⟨some 52,(some (44,false)),.pick (.t 48) (.t 51) (.c (.bool false))⟩,⟨some 53,none,.pick (.t 44) (.c (.bool true)) (.t 52)⟩,⟨some 54,none,.mv (.t 53)⟩,⟨some 55,(some (54,false)),.mv (.t 6)⟩,⟨some 56,none,.pick (.t 54) (.c (.bool true)) (.t 55)⟩,⟨some 40,none,.mv (.t 56)⟩])
 (.cond (.t 40) (.seq (.ops [⟨some 4,none,.mv (.c (.int .i64 0))⟩])
 (.ret)) (.skip))))))))))))
 (.seq (.ops [⟨some 4,none,.mv (.c (.int .i64 8))⟩])
 (.ret)))))⟩
theorem c119:compF Go.Proofs.Tryz.prog 119=some a119:=by kernel_rfl
def a122 : AFn := ⟨6,[.t 2],.seq (.ops [⟨some 2,none,.mv (.c (.bool false))⟩])
 (.seq (.ops [⟨some 3,none,.mv (.t 0)⟩,⟨some 4,none,.call 75 [(.t 3),(.c (.int .i64 0)),(.c (.int .i64 15))]⟩,⟨some 5,none,.un .not (.t 4)⟩,⟨some 2,none,.mv (.t 5)⟩])
 (.ret))⟩
theorem c122:compF Go.Proofs.Tryz.prog 122=some a122:=by kernel_rfl
def a123 : AFn := ⟨57,[.t 4],.seq (.ops [⟨some 4,none,.mv (.c (.str []))⟩])
 (.seq (.ops [⟨some 12,none,.mmk (.i .i64) (.str [])⟩,⟨some 13,none,.mv (.t 0)⟩,⟨none,none,.mup (.i .i64) (.t 12) (.t 13) (.c (.str []))⟩,⟨some 14,none,.mv (.t 12)⟩,⟨some 5,none,.mv (.t 14)⟩])
 (.seq (.ops [⟨some 15,none,.mv (.t 0)⟩,⟨some 16,none,.bslice 3 1 1 [(.int .i64 0)] [(0,1,(.t 15))]⟩,⟨some 6,none,.mv (.t 16)⟩])
 (.seq (.block 0 (.loop (.seq (.seq (.ops [⟨some 17,none,.mv (.t 6)⟩,⟨some 18,none,.len false (.t 17)⟩,⟨some 19,none,.bin 0 .gtr (.t 18) (.c (.int .i64 0))⟩])
 (.cond (.t 19) (.skip) (.exit 0)))
 (.block 1 (.seq (.ops [⟨some 20,none,.mv (.t 6)⟩,⟨some 21,none,.iadr 1 (.t 20) (.c (.int .i64 0))⟩,⟨some 22,none,.load none (.t 21)⟩,⟨some 7,none,.mv (.t 22)⟩])
 (.seq (.ops [⟨some 23,none,.mv (.t 6)⟩,⟨some 24,none,.slc 1 (.t 23) (some (.c (.int .i64 1))) none⟩,⟨some 6,none,.mv (.t 24)⟩])
 (.seq (.ops [⟨some 25,none,.mv (.c (.int .i64 0))⟩])
 (.block 2 (.loop (.seq (.ops [⟨some 26,none,.bin 0 .lss (.t 25) (.c (.int .i64 2))⟩])
 (.seq (.cond (.t 26) (.skip) (.exit 2))
 (.seq (.block 3 (.seq (.ops [⟨some 27,none,.mv (.t 25)⟩,⟨some 8,none,.mv (.t 27)⟩])
 (.seq (.ops [⟨some 28,none,.mv (.t 7)⟩,⟨some 29,none,.mv (.t 8)⟩,⟨some 30,none,.call 115 [(.t 28),(.t 29)]⟩,⟨some 9,none,.mv (.t 30)⟩])
 (.seq (.ops [⟨some 32,none,.mv (.t 5)⟩,⟨some 33,none,.mv (.t 9)⟩,⟨some 34,none,.mlk true (.i .i64) (.str []) (.t 32) (.t 33)⟩,⟨some 31,none,.mv (.t 34)⟩,⟨some 35,none,.ext (.t 31) 0⟩,⟨some 36,none,.ext (.t 31) 1⟩,⟨some 10,none,.mv (.t 35)⟩,⟨some 11,none,.mv (.t 36)⟩])
 (.seq (.ops [⟨some 37,none,.mv (.t 11)⟩,⟨some 38,none,.un .not (.t 37)⟩])
 (.cond (.t 38) (.seq (.ops [⟨some 39,none,.mv (.t 5)⟩,⟨some 40,none,.mv (.t 9)⟩,⟨some 41,none,.mv (.t 5)⟩,⟨some 42,none,.mv (.t 7)⟩,⟨some 43,none,.mlk false (.i .i64) (.str []) (.t 41) (.t 42)⟩,⟨some 44,none,.mv (.t 8)⟩,⟨some 45,none,.bin 0 .add (.c (.int .i64 48)) (.t 44)⟩,⟨some 46,none,.conv .i32 (.t 45)⟩,⟨some 47,none,.i2s (.t 46)⟩,⟨some 48,none,.bin 1 .add (.t 43) (.t 47)⟩,⟨none,none,.mup (.i .i64) (.t 39) (.t 40) (.t 48)⟩])
 (.ops [⟨some 49,none,.mv (.t 6)⟩,⟨some 50,none,.mv (.t 9)⟩,⟨some 51,none,.bslice 3 1 1 [(.int .i64 0)] [(0,1,(.t 50))]⟩,⟨some 52,none,.app 3 1 8 (.t 49) (.t 51)⟩,⟨some 6,none,.mv (.t 52)⟩])) (.skip)))))))
 (.ops [⟨some 53,none,.bin 0 .add (.t 25) (.c (.int .i64 1))⟩,⟨some 25,none,.mv (.t 53)⟩])))))))))))))
 (.seq (.ops [⟨some 54,none,.mv (.t 5)⟩,⟨some 55,none,.mv (.t 1)⟩,⟨some 56,none,.mlk false (.i .i64) (.str []) (.t 54) (.t 55)⟩,⟨some 4,none,.mv (.t 56)⟩])
 (.ret)))))⟩
theorem c123:compF Go.Proofs.Tryz.prog 123=some a123:=by kernel_rfl
def a124 : AFn := ⟨64,[.t 4],.seq (.ops [⟨some 4,none,.mv (.c (.str []))⟩])
 (.seq (.any [(⟨some 8,none,.mv (.t 0)⟩,[]),(⟨some 9,none,.nilchk (.t 8)⟩,[]),(⟨some 10,none,.fadr 0 (.t 9)⟩,[]),(⟨some 11,none,.load none (.t 10)⟩,[]),(⟨some 12,none,.mv (.t 1)⟩,[0,1,2,3]),(⟨some 13,none,.iadr 5 (.t 11) (.t 12)⟩,[]),(⟨some 14,none,.load (some 5) (.t 13)⟩,[]),(⟨some 15,none,.mv (.t 0)⟩,[0,1,2,3,4,5,6]),(⟨some 16,none,.nilchk (.t 15)⟩,[0,1,2,3,4,5,6]),(⟨some 17,none,.fadr 2 (.t 16)⟩,[0,1,2,3,4,5,6]),(⟨some 18,none,.load none (.t 17)⟩,[0,1,2,3,4,5,6]),(⟨some 19,none,.mv (.t 1)⟩,[0,1,2,3,4,5,6,7,8,9,10]),(⟨some 20,none,.iadr 1 (.t 18) (.t 19)⟩,[0,1,2,3,4,5,6]),(⟨some 21,none,.load none (.t 20)⟩,[0,1,2,3,4,5,6]),(⟨some 22,none,.call 49 [(.t 14),(.t 21)]⟩,[]),(⟨some 5,none,.alloc 70 [(.str []),(.int .i64 0)]⟩,[0,1,2,3,4,5,6,7,8,9,10,11,12,13,14]),(⟨none,none,.store 2 (.t 5) (.t 22)⟩,[])])
 (.seq (.seq (.ops [⟨some 23,none,.fadr 0 (.t 5)⟩,⟨some 24,none,.load none (.t 23)⟩])
 (.block 0 (.seq (.ops [⟨some 26,none,.bin 1 .eql (.t 24) (.c (.str [98,121,112,97,115,115]))⟩,⟨some 25,none,.mv (.t 26)⟩])
 (.cond (.t 25) (.seq (.ops [⟨some 4,none,.mv (.c (.str [48]))⟩])
 (.ret)) (.seq (.ops [⟨some 28,none,.bin 1 .eql (.t 24) (.c (.str [105,100,99,111,100,101]))⟩,⟨some 27,none,.mv (.t 28)⟩])
 (.cond (.t 27) (.seq (.ops [⟨some 6,none,.mv (.c (.str []))⟩])
 (.seq (.seq (.ops [⟨some 29,none,.mv (.c (.int .i64 0))⟩])
 (.block 1 (.loop (.seq (.ops [⟨some 30,none,.bin 0 .lss (.t 29) (.c (.int .i64 32))⟩])
 (.seq (.cond (.t 30) (.skip) (.exit 1))
 (.seq (.block 2 (.seq (.ops [⟨some 31,none,.mv (.t 29)⟩,⟨some 7,none,.mv (.t 31)⟩])
 (.ops [⟨some 32,none,.mv (.t 6)⟩,⟨some 33,none,.mv (.t 0)⟩,⟨some 34,none,.nilchk (.t 33)⟩,⟨some 35,none,.fadr 0 (.t 34)⟩,⟨some 36,none,.load none (.t 35)⟩,⟨some 37,none,.mv (.t 1)⟩,⟨some 38,none,.iadr 5 (.t 36) (.t 37)⟩,⟨some 39,none,.fadr 2 (.t 38)⟩,⟨some 40,none,.load none (.t 39)⟩,⟨some 41,none,.mv (.t 7)⟩,⟨some 42,none,.bin 0 .shr (.t 40) (.t 41)⟩,⟨some 43,none,.bin 0 .and (.t 42) (.c (.int .i64 1))⟩,⟨some 44,none,.call 68 [(.t 43)]⟩,⟨some 45,none,.bin 1 .add (.t 32) (.t 44)⟩,⟨some 6,none,.mv (.t 45)⟩])))
 (.ops [⟨some 46,none,.bin 0 .add (.t 29) (.c (.int .i64 1))⟩,⟨some 29,none,.mv (.t 46)⟩])))))))
 (.seq (.ops [⟨some 47,none,.mv (.t 6)⟩,⟨some 4,none,.mv (.t 47)⟩])
 (.ret)))) (.skip)))))))
 (.seq (.any [(⟨some 48,none,.mv (.t 0)⟩,[]),(⟨some 49,none,.nilchk (.t 48)⟩,[]),(⟨some 50,none,.fadr 4 (.t 49)⟩,[]),(⟨some 51,none,.load none (.t 50)⟩,[]),(⟨some 52,none,.mv (.t 0)⟩,[0,1,2,3]),(⟨some 53,none,.nilchk (.t 52)⟩,[0,1,2,3]),(⟨some 54,none,.fadr 0 (.t 53)⟩,[0,1,2,3]),(⟨some 55,none,.load none (.t 54)⟩,[0,1,2,3]),(⟨some 56,none,.mv (.t 1)⟩,[0,1,2,3,4,5,6,7]),(⟨some 57,none,.iadr 5 (.t 55) (.t 56)⟩,[0,1,2,3]),(⟨some 58,none,.fadr 0 (.t 57)⟩,[0,1,2,3]),(⟨some 59,none,.load none (.t 58)⟩,[0,1,2,3]),(⟨some 60,none,.fadr 0 (.t 5)⟩,[0,1,2,3,4,5,6,7,8,9,10,11]),(⟨some 61,none,.load none (.t 60)⟩,[0,1,2,3,4,5,6,7,8,9,10,11]),(⟨some 62,none,.build [(.str []),(.str [])] [(0,1,(.t 59)),(1,1,(.t 61))]⟩,[0,1,2,3]),(⟨some 63,none,.mlk false .q (.str []) (.t 51) (.t 62)⟩,[]),(⟨some 4,none,.mv (.t 63)⟩,[])])
 (.ret))))⟩
theorem c124:compF Go.Proofs.Tryz.prog 124=some a124:=by kernel_rfl
def a125 : AFn := ⟨11,[.t 4],.seq (.ops [⟨some 3,none,.box 9 (.t 1)⟩,⟨some 4,none,.mv (.c (.int .i64 0))⟩])
 (.seq (.ops [⟨some 5,none,.mv (.t 0)⟩,⟨some 6,none,.nilchk (.t 5)⟩,⟨some 7,none,.fadr 0 (.t 6)⟩,⟨some 8,none,.load none (.t 7)⟩,⟨some 9,none,.mkfn 174 [(.t 3)]⟩,⟨some 10,none,.call 95 [(.t 8),(.t 9)]⟩,⟨some 4,none,.mv (.t 10)⟩])
 (.ret))⟩
theorem c125:compF Go.Proofs.Tryz.prog 125=some a125:=by kernel_rfl
def a126 : AFn := ⟨18,[],.seq (.ops [⟨some 5,none,.mv (.t 1)⟩,⟨some 6,none,.len true (.t 5)⟩,⟨some 7,none,.mv (.c (.int .i64 0))⟩])
 (.block 0 (.loop (.seq (.ops [⟨some 8,none,.bin 0 .lss (.t 7) (.t 6)⟩])
 (.seq (.cond (.t 8) (.skip) (.exit 0))
 (.seq (.block 1 (.seq (.ops [⟨some 9,none,.mv (.t 7)⟩,⟨some 4,none,.mv (.t 9)⟩])
 (.ops [⟨some 10,none,.mv (.t 0)⟩,⟨some 11,none,.mv (.t 1)⟩,⟨some 12,none,.mv (.t 4)⟩,⟨some 13,none,.idxs (.t 11) (.t 12)⟩,⟨some 14,none,.bin 0 .sub (.t 13) (.c (.int .u8 48))⟩,⟨some 15,none,.conv .i64 (.t 14)⟩,⟨some 16,none,.call 62 [(.t 10),(.t 15),(.c (.int .i64 0))]⟩])))
 (.ops [⟨some 17,none,.bin 0 .add (.t 7) (.c (.int .i64 1))⟩,⟨some 7,none,.mv (.t 17)⟩]))))))⟩
theorem c126:compF Go.Proofs.Tryz.prog 126=some a126:=by kernel_rfl
def a141 : AFn := ⟨54,[.t 2],.seq (.ops [⟨some 2,none,.mv (.c (.bool false))⟩])
 (.seq (.seq (.ops [⟨some 5,none,.mv (.t 0)⟩,⟨some 6,none,.bin 1 .eql (.t 5) (.c (.str []))⟩,⟨some 7,none,.mv (.t 6)⟩,⟨some 8,(some (7,false)),.mv (.t 0)⟩,⟨some 9,(some (7,false)),.len true (.t 8)⟩,⟨some 10,(some (7,false)),.bin 0 .gtr (.t 9) (.c (.int .i64 40))⟩,⟨some 11,none,.pick (.t 7) (.c (.bool true)) (.t 10)⟩,⟨some 12,none,.mv (.t 11)⟩,⟨some 13,(some (12,false)),.mv (.t 0)⟩,⟨some 14,(some (12,false)),.idxs (.t 13) (.c (.int .i64 0))⟩,⟨some 15,(some (12,false)),.bin 0 .lss (.t 14) (.c (.int .u8 97))⟩,⟨some 16,none,.pick (.t 12) (.c (.bool true)) (.t 15)⟩,⟨some 17,none,.mv (.t 16)⟩,⟨some 18,(some (17,false)),.mv (.t 0)⟩,⟨some 19,(some (17,false)),.idxs (.t 18) (.c (.int .i64 0))⟩,⟨some 20,(some (17,false)),.bin 0 .gtr (.t 19) (.c (.int .u8 122))⟩,⟨some 21,none,.pick (.t 17) (.c (.bool true)) (.t 20)⟩])
 (.cond (.t 21) (.seq (.ops [⟨some 2,none,.mv (.c (.bool false))⟩])
 (.ret)) (.skip)))
 (.seq (.seq (.ops [⟨some 22,none,.mv (.t 0)⟩,⟨some 23,none,.len true (.t 22)⟩,⟨some 24,none,.mv (.c (.int .i64 0))⟩])
 (.block 0 (.loop (.seq (.ops [⟨some 25,none,.bin 0 .lss (.t 24) (.t 23)⟩])
 (.seq (.cond (.t 25) (.skip) (.exit 0))
 (.seq (.block 1 (.seq (.ops [⟨some 26,none,.mv (.t 24)⟩,⟨some 3,none,.mv (.t 26)⟩])
 (.seq (.ops [⟨some 27,none,.mv (.t 0)⟩,⟨some 28,none,.mv (.t 3)⟩,⟨some 29,none,.idxs (.t 27) (.t 28)⟩,⟨some 4,none,.mv (.t 29)⟩])
 (.seq (.ops [⟨some 30,none,.mv (.t 4)⟩,⟨some 31,none,.bin 0 .geq (.t 30) (.c (.int .u8 97))⟩,⟨some 32,none,.mv (.t 31)⟩,⟨some 33,(some (32,true)),.mv (.t 4)⟩,⟨some 34,(some (32,true)),.bin 0 .leq (.t 33) (.c (.int .u8 122))⟩,⟨some 35,none,.pick (.t 32) (.t 34) (.c (.bool false))⟩,⟨some 36,none,.mv (.t 35)⟩,⟨some 37,(some (36,false)),.mv (.t 4)⟩,⟨some 38,(some (36,false)),.bin 0 .geq (.t 37) (.c (.int .u8 48))⟩,⟨some 39,(some (36,false)),.mv (.t 38)⟩,⟨some 40,(some (39,true)),.mv (.t 4)⟩,⟨some 41,(some (39,true)),.bin 0 .leq (.t 40) (.c (.int .u8 57))⟩,⟨some 42,(some (36,false)),.pick (.t 39) (.t 41) (.c (.bool false))⟩,⟨some 43,none,.pick (.t 36) (.c (.bool true)) (.t 42)⟩,⟨some 44,none,.mv (.t 43)⟩,⟨some 45,(some (44,false)),.mv (.t 4)⟩,⟨some 46,(some (44,false)),.bin 0 .eql (.t 45) (.c (.int .u8 45))⟩,⟨some 47,none,.pick (.t 44) (.c (.bool true)) (.t 46)⟩,⟨some 48,none,.mv (.t 47)⟩,⟨some 49,(some (48,false)),.mv (.t 4)⟩,⟨some 50,(some (48,false)),.bin 0 .eql (.t 49) (.c (.int .u8 95))⟩,⟨some 51,none,.pick (.t 48) (.c (.bool true)) (.t 50)⟩,⟨some 52,none,.un .not (.t 51)⟩])
 (.cond (.t 52) (.seq (.ops [⟨some 2,none,.mv (.c (.bool false))⟩])
 (.ret)) (.skip))))))
 (.ops [⟨some 53,none,.bin 0 .add (.t 24) (.c (.int .i64 1))⟩,⟨some 24,none,.mv (.t 53)⟩])))))))
 (.seq (.ops [⟨some 2,none,.mv (.c (.bool true))⟩])
 (.ret))))⟩
theorem c141:compF Go.Proofs.Tryz.prog 141=some a141:=by kernel_rfl
def a142 : AFn := ⟨9,[.t 3],.seq (.ops [⟨some 2,none,.box 57 (.t 0)⟩,⟨some 3,none,.mv (.c (.bool false))⟩])
 (.seq (.ops [⟨some 4,none,.fadr 0 (.t 2)⟩,⟨some 5,none,.load none (.t 4)⟩,⟨some 6,none,.fadr 0 (.t 1)⟩,⟨some 7,none,.load none (.t 6)⟩,⟨some 8,none,.bin 1 .eql (.t 5) (.t 7)⟩,⟨some 3,none,.mv (.t 8)⟩])
 (.ret))⟩
theorem c142:compF Go.Proofs.Tryz.prog 142=some a142:=by kernel_rfl
def a143 : AFn := ⟨15,[.t 2],.seq (.ops [⟨some 2,none,.mv (.c (.int .i64 0))⟩])
 (.seq (.seq (.ops [⟨some 5,none,.mv (.t 0)⟩,⟨some 6,none,.len false (.t 5)⟩,⟨some 7,none,.mv (.c (.int .i64 0))⟩])
 (.block 0 (.loop (.seq (.ops [⟨some 8,none,.bin 0 .lss (.t 7) (.t 6)⟩])
 (.seq (.cond (.t 8) (.skip) (.exit 0))
 (.seq (.block 1 (.seq (.ops [⟨some 9,none,.iadr 1 (.t 5) (.t 7)⟩,⟨some 10,none,.load none (.t 9)⟩,⟨some 4,none,.mv (.t 10)⟩])
 (.seq (.ops [⟨some 11,none,.mv (.t 4)⟩,⟨some 12,none,.bin 0 .neq (.t 11) (.c (.int .i64 0))⟩])
 (.cond (.t 12) (.seq (.ops [⟨some 13,none,.mv (.t 4)⟩,⟨some 2,none,.mv (.t 13)⟩])
 (.ret)) (.skip)))))
 (.ops [⟨some 14,none,.bin 0 .add (.t 7) (.c (.int .i64 1))⟩,⟨some 7,none,.mv (.t 14)⟩])))))))
 (.seq (.ops [⟨some 2,none,.mv (.c (.int .i64 0))⟩])
 (.ret)))⟩
theorem c143:compF Go.Proofs.Tryz.prog 143=some a143:=by kernel_rfl
def a144 : AFn := ⟨40,[.t 2],.seq (.ops [⟨some 1,none,.box 57 (.t 0)⟩,⟨some 2,none,.mv (.c (.int .i64 0))⟩])
 (.seq (.seq (.ops [⟨some 5,none,.fadr 3 (.t 1)⟩,⟨some 6,none,.load none (.t 5)⟩,⟨some 7,none,.len false (.t 6)⟩,⟨some 8,none,.mv (.c (.int .i64 0))⟩])
 (.block 0 (.loop (.seq (.ops [⟨some 9,none,.bin 0 .lss (.t 8) (.t 7)⟩])
 (.seq (.cond (.t 9) (.skip) (.exit 0))
 (.seq (.block 1 (.seq (.ops [⟨some 10,none,.mv (.t 8)⟩,⟨some 11,none,.iadr 2 (.t 6) (.t 8)⟩,⟨some 12,none,.load (some 2) (.t 11)⟩,⟨some 4,none,.alloc 70 [(.str []),(.int .i64 0)]⟩,⟨some 3,none,.mv (.t 10)⟩,⟨none,none,.store 2 (.t 4) (.t 12)⟩])
 (.block 2 (.seq (.ops [⟨some 14,none,.fadr 0 (.t 4)⟩,⟨some 15,none,.load none (.t 14)⟩,⟨some 16,none,.call 141 [(.t 15)]⟩,⟨some 17,none,.un .not (.t 16)⟩,⟨some 13,none,.mv (.t 17)⟩])
 (.cond (.t 13) (.seq (.ops [⟨some 2,none,.mv (.c (.int .i64 5))⟩])
 (.ret)) (.seq (.ops [⟨some 19,none,.fadr 0 (.t 4)⟩,⟨some 20,none,.load none (.t 19)⟩,⟨some 21,none,.bin 1 .eql (.t 20) (.c (.str [98,121,112,97,115,115]))⟩,⟨some 22,none,.mv (.t 21)⟩,⟨some 23,(some (22,false)),.fadr 0 (.t 4)⟩,⟨some 24,(some (22,false)),.load none (.t 23)⟩,⟨some 25,(some (22,false)),.bin 1 .eql (.t 24) (.c (.str [105,100,99,111,100,101]))⟩,⟨some 26,none,.pick (.t 22) (.c (.bool true)) (.t 25)⟩,⟨some 27,none,.mv (.t 26)⟩,⟨some 28,(some (27,false)),.fadr 3 (.t 1)⟩,⟨some 29,(some (27,false)),.load none (.t 28)⟩,⟨some 30,(some (27,false)),.mv (.t 3)⟩,⟨some 31,(some (27,false)),.slc 2 (.t 29) none (some (.t 30))⟩,⟨some 32,(some (27,false)),.mkfn 186 [(.t 4)]⟩,⟨some 33,(some (27,false)),.call 117 [(.t 31),(.t 32)]⟩,⟨some 34,none,.pick (.t 27) (.c (.bool true)) (.t 33)⟩,⟨some 18,none,.mv (.t 34)⟩])
 (.cond (.t 18) (.seq (.ops [⟨some 2,none,.mv (.c (.int .i64 6))⟩])
 (.ret)) (.seq (.ops [⟨some 36,none,.fadr 1 (.t 4)⟩,⟨some 37,none,.load none (.t 36)⟩,⟨some 38,none,.call 75 [(.t 37),(.c (.int .i64 1)),(.c (.int .i64 1000))]⟩,⟨some 35,none,.mv (.t 38)⟩])
 (.cond (.t 35) (.seq (.ops [⟨some 2,none,.mv (.c (.int .i64 1))⟩])
 (.ret)) (.skip))))))))))
 (.ops [⟨some 39,none,.bin 0 .add (.t 8) (.c (.int .i64 1))⟩,⟨some 8,none,.mv (.t 39)⟩])))))))
 (.seq (.ops [⟨some 2,none,.mv (.c (.int .i64 0))⟩])
 (.ret)))⟩
theorem c144:compF Go.Proofs.Tryz.prog 144=some a144:=by kernel_rfl
def a145 : AFn := ⟨49,[.t 2],.seq (.ops [⟨some 1,none,.box 57 (.t 0)⟩,⟨some 2,none,.mv (.c (.int .i64 0))⟩])
 (.seq (.seq (.ops [⟨some 7,none,.fadr 4 (.t 1)⟩,⟨some 8,none,.load none (.t 7)⟩,⟨some 9,none,.len false (.t 8)⟩,⟨some 10,none,.mv (.c (.int .i64 0))⟩])
 (.block 0 (.loop (.seq (.ops [⟨some 11,none,.bin 0 .lss (.t 10) (.t 9)⟩])
 (.seq (.cond (.t 11) (.skip) (.exit 0))
 (.seq (.block 1 (.seq (.ops [⟨some 12,none,.mv (.t 10)⟩,⟨some 13,none,.iadr 2 (.t 8) (.t 10)⟩,⟨some 14,none,.load (some 2) (.t 13)⟩,⟨some 4,none,.alloc 68 [(.str []),(.str [])]⟩,⟨some 3,none,.mv (.t 12)⟩,⟨none,none,.store 2 (.t 4) (.t 14)⟩])
 (.seq (.block 2 (.seq (.ops [⟨some 16,none,.fadr 0 (.t 4)⟩,⟨some 17,none,.load none (.t 16)⟩,⟨some 18,none,.len true (.t 17)⟩,⟨some 19,none,.fadr 1 (.t 1)⟩,⟨some 20,none,.load none (.t 19)⟩,⟨some 21,none,.bin 0 .neq (.t 18) (.t 20)⟩,⟨some 15,none,.mv (.t 21)⟩])
 (.cond (.t 15) (.seq (.ops [⟨some 2,none,.mv (.c (.int .i64 3))⟩])
 (.ret)) (.seq (.ops [⟨some 23,none,.fadr 0 (.t 4)⟩,⟨some 24,none,.load none (.t 23)⟩,⟨some 25,none,.call 61 [(.t 24)]⟩,⟨some 26,none,.un .not (.t 25)⟩,⟨some 22,none,.mv (.t 26)⟩])
 (.cond (.t 22) (.seq (.ops [⟨some 2,none,.mv (.c (.int .i64 9))⟩])
 (.ret)) (.seq (.ops [⟨some 28,none,.fadr 0 (.t 4)⟩,⟨some 29,none,.load none (.t 28)⟩,⟨some 30,none,.call 37 [(.t 29),(.c (.str [48]))]⟩,⟨some 31,none,.un .not (.t 30)⟩,⟨some 27,none,.mv (.t 31)⟩])
 (.cond (.t 27) (.seq (.ops [⟨some 2,none,.mv (.c (.int .i64 16))⟩])
 (.ret)) (.seq (.ops [⟨some 33,none,.fadr 4 (.t 1)⟩,⟨some 34,none,.load none (.t 33)⟩,⟨some 35,none,.mv (.t 3)⟩,⟨some 36,none,.slc 2 (.t 34) none (some (.t 35))⟩,⟨some 37,none,.mkfn 187 [(.t 4)]⟩,⟨some 38,none,.call 172 [(.t 36),(.t 37)]⟩,⟨some 32,none,.mv (.t 38)⟩])
 (.cond (.t 32) (.seq (.ops [⟨some 2,none,.mv (.c (.int .i64 6))⟩])
 (.ret)) (.skip))))))))))
 (.seq (.ops [⟨some 40,none,.load (some 5) (.t 1)⟩,⟨some 41,none,.fadr 1 (.t 4)⟩,⟨some 42,none,.load none (.t 41)⟩,⟨some 43,none,.call 146 [(.t 40),(.t 42)]⟩,⟨some 39,none,.mv (.t 43)⟩,⟨some 44,none,.ext (.t 39) 0⟩,⟨some 45,none,.ext (.t 39) 1⟩,⟨some 5,none,.alloc 70 [(.str []),(.int .i64 0)]⟩,⟨none,none,.store 2 (.t 5) (.t 44)⟩,⟨some 6,none,.mv (.t 45)⟩])
 (.seq (.ops [⟨some 46,none,.mv (.t 6)⟩,⟨some 47,none,.un .not (.t 46)⟩])
 (.cond (.t 47) (.seq (.ops [⟨some 2,none,.mv (.c (.int .i64 8))⟩])
 (.ret)) (.skip)))))))
 (.ops [⟨some 48,none,.bin 0 .add (.t 10) (.c (.int .i64 1))⟩,⟨some 10,none,.mv (.t 48)⟩])))))))
 (.seq (.ops [⟨some 2,none,.mv (.c (.int .i64 0))⟩])
 (.ret)))⟩
theorem c145:compF Go.Proofs.Tryz.prog 145=some a145:=by kernel_rfl
def a146 : AFn := ⟨32,[.c 4 (some 2),.t 5],.seq (.ops [⟨some 2,none,.box 57 (.t 0)⟩,⟨some 3,none,.box 9 (.t 1)⟩,⟨some 4,none,.alloc 70 [(.str []),(.int .i64 0)]⟩,⟨some 5,none,.mv (.c (.bool false))⟩])
 (.seq (.block 0 (.seq (.ops [⟨some 8,none,.load none (.t 3)⟩,⟨some 9,none,.bin 1 .eql (.t 8) (.c (.str [98,121,112,97,115,115]))⟩,⟨some 7,none,.mv (.t 9)⟩])
 (.cond (.t 7) (.seq (.ops [⟨some 10,none,.build [(.str []),(.int .i64 0)] [(0,1,(.c (.str [98,121,112,97,115,115]))),(1,1,(.c (.int .i64 1)))]⟩,⟨none,none,.store 2 (.t 4) (.t 10)⟩,⟨some 5,none,.mv (.c (.bool true))⟩])
 (.ret)) (.seq (.ops [⟨some 12,none,.load none (.t 3)⟩,⟨some 13,none,.bin 1 .eql (.t 12) (.c (.str [105,100,99,111,100,101]))⟩,⟨some 14,none,.mv (.t 13)⟩,⟨some 15,(some (14,true)),.fadr 2 (.t 2)⟩,⟨some 16,(some (14,true)),.load none (.t 15)⟩,⟨some 17,(some (14,true)),.bin 0 .neq (.t 16) (.c (.int .i64 0))⟩,⟨some 18,none,.pick (.t 14) (.t 17) (.c (.bool false))⟩,⟨some 11,none,.mv (.t 18)⟩])
 (.cond (.t 11) (.seq (.ops [⟨some 19,none,.build [(.str []),(.int .i64 0)] [(0,1,(.c (.str [105,100,99,111,100,101]))),(1,1,(.c (.int .i64 32)))]⟩,⟨none,none,.store 2 (.t 4) (.t 19)⟩,⟨some 5,none,.mv (.c (.bool true))⟩])
 (.ret)) (.skip))))))
 (.seq (.ops [⟨some 20,none,.fadr 3 (.t 2)⟩,⟨some 21,none,.load none (.t 20)⟩,⟨some 22,none,.mkfn 188 [(.t 3)]⟩,⟨some 23,none,.call 170 [(.t 21),(.t 22)]⟩,⟨some 6,none,.mv (.t 23)⟩])
 (.seq (.seq (.ops [⟨some 24,none,.mv (.t 6)⟩,⟨some 25,none,.bin 0 .lss (.t 24) (.c (.int .i64 0))⟩])
 (.cond (.t 25) (.seq (.ops [⟨some 26,none,.build [(.str []),(.int .i64 0)] []⟩,⟨none,none,.store 2 (.t 4) (.t 26)⟩,⟨some 5,none,.mv (.c (.bool false))⟩])
 (.ret)) (.skip)))
 (.seq (.ops [⟨some 27,none,.fadr 3 (.t 2)⟩,⟨some 28,none,.load none (.t 27)⟩,⟨some 29,none,.mv (.t 6)⟩,⟨some 30,none,.iadr 2 (.t 28) (.t 29)⟩,⟨some 31,none,.load (some 2) (.t 30)⟩,⟨none,none,.store 2 (.t 4) (.t 31)⟩,⟨some 5,none,.mv (.c (.bool true))⟩])
 (.ret)))))⟩
theorem c146:compF Go.Proofs.Tryz.prog 146=some a146:=by kernel_rfl
def a155 : AFn := ⟨26,[.t 4],.seq (.ops [⟨some 4,none,.mv (.c (.lit true 0 []))⟩])
 (.seq (.ops [⟨some 5,none,.mv (.c (.lit true 0 []))⟩])
 (.seq (.seq (.ops [⟨some 8,none,.mv (.t 1)⟩,⟨some 9,none,.s2b (.t 8)⟩,⟨some 10,none,.len false (.t 9)⟩,⟨some 11,none,.mv (.c (.int .i64 0))⟩])
 (.block 0 (.loop (.seq (.ops [⟨some 12,none,.bin 0 .lss (.t 11) (.t 10)⟩])
 (.seq (.cond (.t 12) (.skip) (.exit 0))
 (.seq (.block 1 (.seq (.ops [⟨some 13,none,.iadr 1 (.t 9) (.t 11)⟩,⟨some 14,none,.load none (.t 13)⟩,⟨some 7,none,.mv (.t 14)⟩])
 (.seq (.ops [⟨some 15,none,.mv (.t 0)⟩,⟨some 16,none,.mv (.t 7)⟩,⟨some 17,none,.bin 0 .sub (.t 16) (.c (.int .u8 48))⟩,⟨some 18,none,.conv .i64 (.t 17)⟩,⟨some 19,none,.call 77 [(.t 15),(.t 18)]⟩,⟨some 0,none,.mv (.t 19)⟩])
 (.ops [⟨some 20,none,.mv (.t 5)⟩,⟨some 21,none,.mv (.t 0)⟩,⟨some 22,none,.bslice 3 1 1 [(.int .i64 0)] [(0,1,(.t 21))]⟩,⟨some 23,none,.app 3 1 8 (.t 20) (.t 22)⟩,⟨some 5,none,.mv (.t 23)⟩]))))
 (.ops [⟨some 24,none,.bin 0 .add (.t 11) (.c (.int .i64 1))⟩,⟨some 11,none,.mv (.t 24)⟩])))))))
 (.seq (.ops [⟨some 25,none,.mv (.t 5)⟩,⟨some 4,none,.mv (.t 25)⟩])
 (.ret))))⟩
theorem c155:compF Go.Proofs.Tryz.prog 155=some a155:=by kernel_rfl
def a159 : AFn := ⟨102,[.t 10,.t 11],.seq (.ops [⟨some 10,none,.mv (.c (.lit true 0 []))⟩,⟨some 11,none,.mv (.c (.str []))⟩])
 (.seq (.seq (.ops [⟨some 19,none,.mv (.t 2)⟩,⟨some 20,none,.bin 0 .lss (.t 19) (.c (.int .i64 2))⟩,⟨some 21,none,.mv (.t 20)⟩,⟨some 22,(some (21,false)),.mv (.t 2)⟩,⟨some 23,(some (21,false)),.bin 0 .eql (.t 22) (.c (.int .i64 10))⟩,⟨some 24,none,.pick (.t 21) (.c (.bool true)) (.t 23)⟩,⟨some 25,none,.mv (.t 24)⟩,⟨some 26,(some (25,false)),.mv (.t 2)⟩,⟨some 27,(some (25,false)),.bin 0 .gtr (.t 26) (.c (.int .i64 36))⟩,⟨some 28,none,.pick (.t 25) (.c (.bool true)) (.t 27)⟩])
 (.cond (.t 28) (.ops [⟨some 29,none,.bad⟩,⟨none,none,.bad⟩]) (.skip)))
 (.seq (.ops [⟨some 12,none,.allocb 215 65⟩])
 (.seq (.ops [⟨some 13,none,.mv (.c (.int .i64 65))⟩])
 (.seq (.seq (.ops [⟨some 30,none,.mv (.t 3)⟩])
 (.cond (.t 30) (.ops [⟨some 31,none,.mv (.t 1)⟩,⟨some 32,none,.un .neg (.t 31)⟩,⟨some 1,none,.mv (.t 32)⟩]) (.skip)))
 (.seq (.seq (.ops [⟨some 33,none,.mv (.t 2)⟩,⟨some 34,none,.call 198 [(.t 33)]⟩])
 (.cond (.t 34) (.seq (.ops [⟨some 35,none,.mv (.t 2)⟩,⟨some 36,none,.conv .u64 (.t 35)⟩,⟨some 37,none,.call 199 [(.t 36)]⟩,⟨some 38,none,.conv .u64 (.t 37)⟩,⟨some 14,none,.mv (.t 38)⟩])
 (.seq (.ops [⟨some 39,none,.mv (.t 2)⟩,⟨some 40,none,.conv .u64 (.t 39)⟩,⟨some 15,none,.mv (.t 40)⟩])
 (.seq (.ops [⟨some 41,none,.mv (.t 2)⟩,⟨some 42,none,.conv .u64 (.t 41)⟩,⟨some 43,none,.bin 0 .sub (.t 42) (.c (.int .u64 1))⟩,⟨some 16,none,.mv (.t 43)⟩])
 (.seq (.block 0 (.loop (.seq (.seq (.ops [⟨some 44,none,.mv (.t 1)⟩,⟨some 45,none,.mv (.t 15)⟩,⟨some 46,none,.bin 0 .geq (.t 44) (.t 45)⟩])
 (.cond (.t 46) (.skip) (.exit 0)))
 (.block 1 (.seq (.ops [⟨some 47,none,.mv (.t 13)⟩,⟨some 48,none,.bin 0 .sub (.t 47) (.c (.int .i64 1))⟩,⟨some 13,none,.mv (.t 48)⟩])
 (.seq (.ops [⟨some 49,none,.mv (.t 13)⟩,⟨some 50,none,.mv (.t 1)⟩,⟨some 51,none,.mv (.t 16)⟩,⟨some 52,none,.bin 0 .and (.t 50) (.t 51)⟩,⟨some 53,none,.idxs (.c (.str [48,49,50,51,52,53,54,55,56,57,97,98,99,100,101,102,103,104,105,106,107,108,109,110,111,112,113,114,115,116,117,118,119,120,121,122])) (.t 52)⟩,⟨some 54,none,.aadrb 65 (.t 12) (.t 49)⟩,⟨none,none,.store 1 (.t 54) (.t 53)⟩])
 (.ops [⟨some 55,none,.mv (.t 1)⟩,⟨some 56,none,.mv (.t 14)⟩,⟨some 57,none,.bin 0 .shr (.t 55) (.t 56)⟩,⟨some 1,none,.mv (.t 57)⟩])))))))
 (.seq (.ops [⟨some 58,none,.mv (.t 13)⟩,⟨some 59,none,.bin 0 .sub (.t 58) (.c (.int .i64 1))⟩,⟨some 13,none,.mv (.t 59)⟩])
 (.ops [⟨some 60,none,.mv (.t 13)⟩,⟨some 61,none,.mv (.t 1)⟩,⟨some 62,none,.idxs (.c (.str [48,49,50,51,52,53,54,55,56,57,97,98,99,100,101,102,103,104,105,106,107,108,109,110,111,112,113,114,115,116,117,118,119,120,121,122])) (.t 61)⟩,⟨some 63,none,.aadrb 65 (.t 12) (.t 60)⟩,⟨none,none,.store 1 (.t 63) (.t 62)⟩])))))) (.seq (.ops [⟨some 64,none,.mv (.t 2)⟩,⟨some 65,none,.conv .u64 (.t 64)⟩,⟨some 17,none,.mv (.t 65)⟩])
 (.seq (.block 2 (.loop (.seq (.seq (.ops [⟨some 66,none,.mv (.t 1)⟩,⟨some 67,none,.mv (.t 17)⟩,⟨some 68,none,.bin 0 .geq (.t 66) (.t 67)⟩])
 (.cond (.t 68) (.skip) (.exit 2)))
 (.block 3 (.seq (.ops [⟨some 69,none,.mv (.t 13)⟩,⟨some 70,none,.bin 0 .sub (.t 69) (.c (.int .i64 1))⟩,⟨some 13,none,.mv (.t 70)⟩])
 (.seq (.ops [⟨some 71,none,.mv (.t 1)⟩,⟨some 72,none,.mv (.t 17)⟩,⟨some 73,none,.bin 0 .quo (.t 71) (.t 72)⟩,⟨some 18,none,.mv (.t 73)⟩])
 (.seq (.ops [⟨some 74,none,.mv (.t 13)⟩,⟨some 75,none,.mv (.t 1)⟩,⟨some 76,none,.mv (.t 18)⟩,⟨some 77,none,.mv (.t 17)⟩,⟨some 78,none,.bin 0 .mul (.t 76) (.t 77)⟩,⟨some 79,none,.bin 0 .sub (.t 75) (.t 78)⟩,⟨some 80,none,.idxs (.c (.str [48,49,50,51,52,53,54,55,56,57,97,98,99,100,101,102,103,104,105,106,107,108,109,110,111,112,113,114,115,116,117,118,119,120,121,122])) (.t 79)⟩,⟨some 81,none,.aadrb 65 (.t 12) (.t 74)⟩,⟨none,none,.store 1 (.t 81) (.t 80)⟩])
 (.ops [⟨some 82,none,.mv (.t 18)⟩,⟨some 1,none,.mv (.t 82)⟩]))))))))
 (.seq (.ops [⟨some 83,none,.mv (.t 13)⟩,⟨some 84,none,.bin 0 .sub (.t 83) (.c (.int .i64 1))⟩,⟨some 13,none,.mv (.t 84)⟩])
 (.ops [⟨some 85,none,.mv (.t 13)⟩,⟨some 86,none,.mv (.t 1)⟩,⟨some 87,none,.idxs (.c (.str [48,49,50,51,52,53,54,55,56,57,97,98,99,100,101,102,103,104,105,106,107,108,109,110,111,112,113,114,115,116,117,118,119,120,121,122])) (.t 86)⟩,⟨some 88,none,.aadrb 65 (.t 12) (.t 85)⟩,⟨none,none,.store 1 (.t 88) (.t 87)⟩]))))))
 (.seq (.seq (.ops [⟨some 89,none,.mv (.t 3)⟩])
 (.cond (.t 89) (.seq (.ops [⟨some 90,none,.mv (.t 13)⟩,⟨some 91,none,.bin 0 .sub (.t 90) (.c (.int .i64 1))⟩,⟨some 13,none,.mv (.t 91)⟩])
 (.ops [⟨some 92,none,.mv (.t 13)⟩,⟨some 93,none,.aadrb 65 (.t 12) (.t 92)⟩,⟨none,none,.store 1 (.t 93) (.c (.int .u8 45))⟩])) (.skip)))
 (.seq (.seq (.ops [⟨some 94,none,.mv (.t 4)⟩])
 (.cond (.t 94) (.seq (.ops [⟨some 95,none,.mv (.t 0)⟩,⟨some 96,none,.mv (.t 13)⟩,⟨some 97,none,.slcb 65 (.t 12) (some (.t 96)) none⟩,⟨some 98,none,.app 5 1 1 (.t 95) (.t 97)⟩,⟨some 10,none,.mv (.t 98)⟩])
 (.ret)) (.skip)))
 (.seq (.ops [⟨some 99,none,.mv (.t 13)⟩,⟨some 100,none,.slcb 65 (.t 12) (some (.t 99)) none⟩,⟨some 101,none,.b2s (.t 100)⟩,⟨some 11,none,.mv (.t 101)⟩])
 (.ret)))))))))⟩
theorem c159:compF Go.Proofs.Tryz.prog 159=some a159:=by kernel_rfl
def a167 : AFn := ⟨40,[.t 2],.seq (.ops [⟨some 2,none,.mv (.c (.str []))⟩])
 (.seq (.ops [⟨some 6,none,.mv (.t 0)⟩,⟨some 7,none,.call 168 [(.t 6)]⟩,⟨some 3,none,.alloc 70 [(.str []),(.int .i64 0)]⟩,⟨none,none,.store 2 (.t 3) (.t 7)⟩])
 (.seq (.ops [⟨some 8,none,.fadr 0 (.t 3)⟩,⟨some 9,none,.load none (.t 8)⟩])
 (.block 0 (.seq (.ops [⟨some 18,none,.bin 1 .eql (.t 9) (.c (.str [98,121,112,97,115,115]))⟩,⟨some 17,none,.mv (.t 18)⟩])
 (.cond (.t 17) (.seq (.ops [⟨some 2,none,.mv (.c (.str [48]))⟩])
 (.ret)) (.seq (.ops [⟨some 20,none,.bin 1 .eql (.t 9) (.c (.str [105,100,99,111,100,101]))⟩,⟨some 19,none,.mv (.t 20)⟩])
 (.cond (.t 19) (.seq (.ops [⟨some 4,none,.mv (.c (.lit true 0 []))⟩])
 (.seq (.seq (.ops [⟨some 21,none,.mv (.c (.int .i64 0))⟩])
 (.block 1 (.loop (.seq (.ops [⟨some 22,none,.bin 0 .lss (.t 21) (.c (.int .i64 32))⟩])
 (.seq (.cond (.t 22) (.skip) (.exit 1))
 (.seq (.block 2 (.seq (.ops [⟨some 23,none,.mv (.t 21)⟩,⟨some 5,none,.mv (.t 23)⟩])
 (.ops [⟨some 24,none,.mv (.t 4)⟩,⟨some 25,none,.mv (.t 0)⟩,⟨some 26,none,.nilchk (.t 25)⟩,⟨some 27,none,.fadr 0 (.t 26)⟩,⟨some 28,none,.fadr 2 (.t 27)⟩,⟨some 29,none,.load none (.t 28)⟩,⟨some 30,none,.mv (.t 5)⟩,⟨some 31,none,.bin 0 .shr (.t 29) (.t 30)⟩,⟨some 32,none,.bin 0 .and (.t 31) (.c (.int .i64 1))⟩,⟨some 33,none,.bin 0 .add (.c (.int .i64 48)) (.t 32)⟩,⟨some 34,none,.conv .u8 (.t 33)⟩,⟨some 35,none,.bslice 5 1 1 [(.int .u8 0)] [(0,1,(.t 34))]⟩,⟨some 36,none,.app 5 1 1 (.t 24) (.t 35)⟩,⟨some 4,none,.mv (.t 36)⟩])))
 (.ops [⟨some 37,none,.bin 0 .add (.t 21) (.c (.int .i64 1))⟩,⟨some 21,none,.mv (.t 37)⟩])))))))
 (.seq (.ops [⟨some 38,none,.mv (.t 4)⟩,⟨some 39,none,.b2s (.t 38)⟩,⟨some 2,none,.mv (.t 39)⟩])
 (.ret)))) (.seq (.any [(⟨some 10,none,.mv (.t 0)⟩,[]),(⟨some 11,none,.nilchk (.t 10)⟩,[]),(⟨some 12,none,.fadr 7 (.t 11)⟩,[]),(⟨some 13,none,.load none (.t 12)⟩,[]),(⟨some 14,none,.fadr 0 (.t 3)⟩,[0,1,2,3]),(⟨some 15,none,.load none (.t 14)⟩,[0,1,2,3]),(⟨some 16,none,.mlk false .s (.str []) (.t 13) (.t 15)⟩,[]),(⟨some 2,none,.mv (.t 16)⟩,[])])
 (.ret)))))))))⟩
theorem c167:compF Go.Proofs.Tryz.prog 167=some a167:=by kernel_rfl
def a168 : AFn := ⟨30,[.c 2 (some 2)],.seq (.ops [⟨some 2,none,.alloc 70 [(.str []),(.int .i64 0)]⟩])
 (.seq (.seq (.ops [⟨some 5,none,.mv (.t 0)⟩,⟨some 6,none,.nilchk (.t 5)⟩,⟨some 7,none,.fadr 5 (.t 6)⟩,⟨some 8,none,.load none (.t 7)⟩,⟨some 9,none,.bin 1 .eql (.t 8) (.c (.str []))⟩])
 (.cond (.t 9) (.seq (.seq (.ops [⟨some 11,none,.mv (.t 0)⟩,⟨some 12,none,.nilchk (.t 11)⟩,⟨some 13,none,.fadr 0 (.t 12)⟩,⟨some 14,none,.load (some 5) (.t 13)⟩,⟨some 15,none,.call 146 [(.t 14),(.c (.str [105,100,99,111,100,101]))]⟩,⟨some 10,none,.mv (.t 15)⟩,⟨some 16,none,.ext (.t 10) 0⟩,⟨some 17,none,.ext (.t 10) 1⟩,⟨some 3,none,.alloc 70 [(.str []),(.int .i64 0)]⟩,⟨none,none,.store 2 (.t 3) (.t 16)⟩,⟨some 4,none,.mv (.t 17)⟩])
 (.seq (.ops [⟨some 18,none,.mv (.t 4)⟩])
 (.cond (.t 18) (.seq (.ops [⟨some 19,none,.load (some 2) (.t 3)⟩,⟨none,none,.store 2 (.t 2) (.t 19)⟩])
 (.ret)) (.skip))))
 (.seq (.ops [⟨some 20,none,.build [(.str []),(.int .i64 0)] [(0,1,(.c (.str [98,121,112,97,115,115]))),(1,1,(.c (.int .i64 1)))]⟩,⟨none,none,.store 2 (.t 2) (.t 20)⟩])
 (.ret))) (.skip)))
 (.seq (.any [(⟨some 21,none,.mv (.t 0)⟩,[]),(⟨some 22,none,.nilchk (.t 21)⟩,[]),(⟨some 23,none,.fadr 0 (.t 22)⟩,[]),(⟨some 24,none,.load (some 5) (.t 23)⟩,[]),(⟨some 25,none,.mv (.t 0)⟩,[0,1,2,3]),(⟨some 26,none,.nilchk (.t 25)⟩,[0,1,2,3]),(⟨some 27,none,.fadr 5 (.t 26)⟩,[0,1,2,3]),(⟨some 28,none,.load none (.t 27)⟩,[0,1,2,3]),(⟨some 29,none,.call 98 [(.t 24),(.t 28)]⟩,[]),(⟨none,none,.store 2 (.t 2) (.t 29)⟩,[])])
 (.ret)))⟩
theorem c168:compF Go.Proofs.Tryz.prog 168=some a168:=by kernel_rfl
def a169 : AFn := ⟨8,[.t 4],.seq (.ops [⟨some 4,none,.mv (.c (.int .i64 0))⟩])
 (.seq (.ops [⟨some 5,none,.mv (.t 0)⟩,⟨some 6,none,.mv (.t 1)⟩,⟨some 7,none,.call 204 [(.t 5),(.t 6)]⟩,⟨some 4,none,.mv (.t 7)⟩])
 (.ret))⟩
theorem c169:compF Go.Proofs.Tryz.prog 169=some a169:=by kernel_rfl
def a170 : AFn := ⟨19,[.t 4],.seq (.ops [⟨some 4,none,.mv (.c (.int .i64 0))⟩])
 (.seq (.seq (.ops [⟨some 6,none,.mv (.t 0)⟩,⟨some 7,none,.len false (.t 6)⟩,⟨some 8,none,.mv (.c (.int .i64 0))⟩])
 (.block 0 (.loop (.seq (.ops [⟨some 9,none,.bin 0 .lss (.t 8) (.t 7)⟩])
 (.seq (.cond (.t 9) (.skip) (.exit 0))
 (.seq (.block 1 (.seq (.ops [⟨some 10,none,.mv (.t 8)⟩,⟨some 5,none,.mv (.t 10)⟩])
 (.seq (.ops [⟨some 11,none,.mv (.t 1)⟩,⟨some 12,none,.mv (.t 0)⟩,⟨some 13,none,.mv (.t 5)⟩,⟨some 14,none,.iadr 2 (.t 12) (.t 13)⟩,⟨some 15,none,.load (some 2) (.t 14)⟩,⟨some 16,none,.callv (.t 11) [(.t 15)]⟩])
 (.cond (.t 16) (.seq (.ops [⟨some 17,none,.mv (.t 5)⟩,⟨some 4,none,.mv (.t 17)⟩])
 (.ret)) (.skip)))))
 (.ops [⟨some 18,none,.bin 0 .add (.t 8) (.c (.int .i64 1))⟩,⟨some 8,none,.mv (.t 18)⟩])))))))
 (.seq (.ops [⟨some 4,none,.mv (.c (.int .i64 (-1)))⟩])
 (.ret)))⟩
theorem c170:compF Go.Proofs.Tryz.prog 170=some a170:=by kernel_rfl
def a171 : AFn := ⟨9,[.t 3],.seq (.ops [⟨some 2,none,.box 70 (.t 0)⟩,⟨some 3,none,.mv (.c (.bool false))⟩])
 (.seq (.ops [⟨some 4,none,.fadr 0 (.t 2)⟩,⟨some 5,none,.load none (.t 4)⟩,⟨some 6,none,.fadr 1 (.t 1)⟩,⟨some 7,none,.load none (.t 6)⟩,⟨some 8,none,.bin 1 .eql (.t 5) (.t 7)⟩,⟨some 3,none,.mv (.t 8)⟩])
 (.ret))⟩
theorem c171:compF Go.Proofs.Tryz.prog 171=some a171:=by kernel_rfl
def a172 : AFn := ⟨9,[.t 4],.seq (.ops [⟨some 4,none,.mv (.c (.bool false))⟩])
 (.seq (.ops [⟨some 5,none,.mv (.t 0)⟩,⟨some 6,none,.mv (.t 1)⟩,⟨some 7,none,.call 205 [(.t 5),(.t 6)]⟩,⟨some 8,none,.bin 0 .geq (.t 7) (.c (.int .i64 0))⟩,⟨some 4,none,.mv (.t 8)⟩])
 (.ret))⟩
theorem c172:compF Go.Proofs.Tryz.prog 172=some a172:=by kernel_rfl
def a173 : AFn := ⟨9,[.t 3],.seq (.ops [⟨some 2,none,.box 68 (.t 0)⟩,⟨some 3,none,.mv (.c (.bool false))⟩])
 (.seq (.ops [⟨some 4,none,.fadr 0 (.t 2)⟩,⟨some 5,none,.load none (.t 4)⟩,⟨some 6,none,.fadr 0 (.t 1)⟩,⟨some 7,none,.load none (.t 6)⟩,⟨some 8,none,.bin 1 .eql (.t 5) (.t 7)⟩,⟨some 3,none,.mv (.t 8)⟩])
 (.ret))⟩
theorem c173:compF Go.Proofs.Tryz.prog 173=some a173:=by kernel_rfl
def a174 : AFn := ⟨8,[.t 3],.seq (.ops [⟨some 2,none,.box 57 (.t 0)⟩,⟨some 3,none,.mv (.c (.bool false))⟩])
 (.seq (.ops [⟨some 4,none,.fadr 0 (.t 2)⟩,⟨some 5,none,.load none (.t 4)⟩,⟨some 6,none,.load none (.t 1)⟩,⟨some 7,none,.bin 1 .eql (.t 5) (.t 6)⟩,⟨some 3,none,.mv (.t 7)⟩])
 (.ret))⟩
theorem c174:compF Go.Proofs.Tryz.prog 174=some a174:=by kernel_rfl
def a186 : AFn := ⟨9,[.t 3],.seq (.ops [⟨some 2,none,.box 70 (.t 0)⟩,⟨some 3,none,.mv (.c (.bool false))⟩])
 (.seq (.ops [⟨some 4,none,.fadr 0 (.t 2)⟩,⟨some 5,none,.load none (.t 4)⟩,⟨some 6,none,.fadr 0 (.t 1)⟩,⟨some 7,none,.load none (.t 6)⟩,⟨some 8,none,.bin 1 .eql (.t 5) (.t 7)⟩,⟨some 3,none,.mv (.t 8)⟩])
 (.ret))⟩
theorem c186:compF Go.Proofs.Tryz.prog 186=some a186:=by kernel_rfl
def a187 : AFn := ⟨9,[.t 3],.seq (.ops [⟨some 2,none,.box 68 (.t 0)⟩,⟨some 3,none,.mv (.c (.bool false))⟩])
 (.seq (.ops [⟨some 4,none,.fadr 0 (.t 2)⟩,⟨some 5,none,.load none (.t 4)⟩,⟨some 6,none,.fadr 0 (.t 1)⟩,⟨some 7,none,.load none (.t 6)⟩,⟨some 8,none,.bin 1 .eql (.t 5) (.t 7)⟩,⟨some 3,none,.mv (.t 8)⟩])
 (.ret))⟩
theorem c187:compF Go.Proofs.Tryz.prog 187=some a187:=by kernel_rfl
def a188 : AFn := ⟨8,[.t 3],.seq (.ops [⟨some 2,none,.box 70 (.t 0)⟩,⟨some 3,none,.mv (.c (.bool false))⟩])
 (.seq (.ops [⟨some 4,none,.fadr 0 (.t 2)⟩,⟨some 5,none,.load none (.t 4)⟩,⟨some 6,none,.load none (.t 1)⟩,⟨some 7,none,.bin 1 .eql (.t 5) (.t 6)⟩,⟨some 3,none,.mv (.t 7)⟩])
 (.ret))⟩
theorem c188:compF Go.Proofs.Tryz.prog 188=some a188:=by kernel_rfl
def a198 : AFn := ⟨8,[.t 2],.seq (.ops [⟨some 2,none,.mv (.c (.bool false))⟩])
 (.seq (.ops [⟨some 3,none,.mv (.t 0)⟩,⟨some 4,none,.mv (.t 0)⟩,⟨some 5,none,.bin 0 .sub (.t 4) (.c (.int .i64 1))⟩,⟨some 6,none,.bin 0 .and (.t 3) (.t 5)⟩,⟨some 7,none,.bin 0 .eql (.t 6) (.c (.int .i64 0))⟩,⟨some 2,none,.mv (.t 7)⟩])
 (.ret))⟩
theorem c198:compF Go.Proofs.Tryz.prog 198=some a198:=by kernel_rfl
def a199 : AFn := ⟨8,[.t 2],.seq (.ops [⟨some 2,none,.mv (.c (.int .i64 0))⟩])
 (.seq (.cond (.c (.bool false)) (.seq (.ops [⟨some 3,none,.mv (.t 0)⟩,⟨some 4,none,.conv .u32 (.t 3)⟩,⟨some 5,none,.call 216 [(.t 4)]⟩,⟨some 2,none,.mv (.t 5)⟩])
 (.ret)) (.skip))
 (.seq (.ops [⟨some 6,none,.mv (.t 0)⟩,⟨some 7,none,.call 217 [(.t 6)]⟩,⟨some 2,none,.mv (.t 7)⟩])
 (.ret)))⟩
theorem c199:compF Go.Proofs.Tryz.prog 199=some a199:=by kernel_rfl
def a205 : AFn := ⟨19,[.t 4],.seq (.ops [⟨some 4,none,.mv (.c (.int .i64 0))⟩])
 (.seq (.seq (.ops [⟨some 6,none,.mv (.t 0)⟩,⟨some 7,none,.len false (.t 6)⟩,⟨some 8,none,.mv (.c (.int .i64 0))⟩])
 (.block 0 (.loop (.seq (.ops [⟨some 9,none,.bin 0 .lss (.t 8) (.t 7)⟩])
 (.seq (.cond (.t 9) (.skip) (.exit 0))
 (.seq (.block 1 (.seq (.ops [⟨some 10,none,.mv (.t 8)⟩,⟨some 5,none,.mv (.t 10)⟩])
 (.seq (.ops [⟨some 11,none,.mv (.t 1)⟩,⟨some 12,none,.mv (.t 0)⟩,⟨some 13,none,.mv (.t 5)⟩,⟨some 14,none,.iadr 2 (.t 12) (.t 13)⟩,⟨some 15,none,.load (some 2) (.t 14)⟩,⟨some 16,none,.callv (.t 11) [(.t 15)]⟩])
 (.cond (.t 16) (.seq (.ops [⟨some 17,none,.mv (.t 5)⟩,⟨some 4,none,.mv (.t 17)⟩])
 (.ret)) (.skip)))))
 (.ops [⟨some 18,none,.bin 0 .add (.t 8) (.c (.int .i64 1))⟩,⟨some 8,none,.mv (.t 18)⟩])))))))
 (.seq (.ops [⟨some 4,none,.mv (.c (.int .i64 (-1)))⟩])
 (.ret)))⟩
theorem c205:compF Go.Proofs.Tryz.prog 205=some a205:=by kernel_rfl
open Go.RowKit
theorem below_c (x n:Int) (nid:Nat) (hn:n≤9223372036854775807):ACall Tryz.prog 97 [.int .i64 x,.int .i64 n] [] nid (.int .i64 (below x n)) []:=by
 refine acall_run c97 (by simp [a97]) ?_
 simp -dsimp only [a97,aqA,↓seqK,↓blkK,↓loopK,step,stepBin,eqB,Nat.add_assoc nid,simprocAttr]
 refine S2.dec (fun h=>?_) (fun h=>?_)
 ·simp -dsimp only [aqA,↓seqK,↓blkK,↓loopK,step,stepBin,eqB,Nat.add_assoc nid,simprocAttr]
  refine RetOK.pure (.inl rfl) rfl ?_
  simp [retPV,PVCov,getS,below,h]
 simp -dsimp only [aqA,↓seqK,↓blkK,↓loopK,step,stepBin,eqB,Nat.add_assoc nid,simprocAttr]
 refine ⟨by omega,S2.dec (fun h2=>?_) (fun h2=>?_)⟩
 ·simp -dsimp only [aqA,↓seqK,↓blkK,↓loopK,step,stepBin,eqB,Nat.add_assoc nid,simprocAttr]
  have:=Int.lt_tmod_of_pos x (show 0<n by omega)
  refine ⟨by unfold inI64; omega,RetOK.pure (.inl rfl) rfl ?_⟩
  have h3:x.tmod n+n=x % n:=by rw [Int.tmod_eq_emod]; split <;> rw [Int.tmod_eq_emod] at h2 <;> rename_i h6 <;> simp only [h6,if_true,if_false,not_false_eq_true] at h2 <;> have:=Int.emod_nonneg x (show n≠0 by omega) <;> omega
  simp [cvT,step,res,below,h,h3]
 ·simp -dsimp only [aqA,↓seqK,↓blkK,↓loopK,step,stepBin,eqB,Nat.add_assoc nid,simprocAttr]
  refine RetOK.pure (.inl rfl) rfl ?_
  have h3:x.tmod n=x % n:=by rw [Int.tmod_eq_emod]; split <;> rw [Int.tmod_eq_emod] at h2 <;> rename_i h6 <;> simp only [h6,if_true,if_false,not_false_eq_true] at h2 <;> have:=Int.emod_lt_of_pos x (show 0<n by omega) <;> omega
  simp [cvT,step,res,below,h,h3]
def strmC (nl:Bool) (A:List Int) (p:Nat):Option ABlk:=some (.box 25 [.lit nl A.length [.i .i64 fun i=>A.getD i 0],.int .i64 p])
theorem strmC_low (n:Nat) (nl:Bool) (A:List Int) (p:Nat):lowBlk n (strmC nl A p)=true:=rfl
theorem next_c (s nid : Nat) (nl : Bool) (A : List Int) (p : Nat) (n : Int) (h : s < nid) (hp : p ≤ 1099511627775) (hA : A.length ≤ 17592186044416) (hn : n ≤ 9223372036854775807) :
    ACall Tryz.prog 45 [.ptr s 0,.int .i64 n] [(s,strmC nl A p)] nid (.int .i64 (nextV A p n)) [(s,strmC nl A (p + 1))] := by
  obtain ⟨e1,e2,e3,e4,e5,e6,e7,e8,e9⟩ := id_all h
  refine acall_run c45 (by simp [a45]) ?_
  simp -dsimp only [a45,strmC,aqA,↓seqK,↓blkK,↓loopK,step,stepBin,eqB,Nat.add_assoc nid,simprocAttr,e1,e2,e3,e4,e5,e6,e7,e8,e9]
  refine ⟨by unfold inI64; omega,S2.intro (fun h2 => ?_) (fun h2 => ?_)⟩
  · simp -dsimp only [aqA,↓seqK,↓blkK,↓loopK,step,stepBin,eqB,Nat.add_assoc nid,simprocAttr,e1,e2,e3,e4,e5,e6,e7,e8,e9]
    refine ⟨by unfold inI64; omega,CallO.pure (below_c _ _ _ hn) ?_⟩
    simp -dsimp only [aqA,↓seqK,↓blkK,↓loopK,step,stepBin,eqB,Nat.add_assoc nid,simprocAttr,e1,e2,e3,e4,e5,e6,e7,e8,e9]
    have h3 : A.length = 0 := by simpa using h2
    refine RetOK.same (.inl rfl) rfl (by simp [strmC,liveIds]; omega) ?_ ?_
    · simp [cvT,step,res,strmC]
    · simp [cvT,step,res,nextV,h3]
  · simp -dsimp only [aqA,↓seqK,↓blkK,↓loopK,step,stepBin,eqB,Nat.add_assoc nid,simprocAttr,e1,e2,e3,e4,e5,e6,e7,e8,e9]
    have h3 : 0 < A.length := by have : ¬ A.length = 0 := by simpa using h2
                                 omega
    have h4 : ∀ z : Nat,z ≤ 1099511627776 → IntKind.i64.wrap (z : Int) = z := fun z hz => IntWalk.i64_in _ (by omega)
    have h5 : p / A.length ≤ p := Nat.div_le_self _ _
    have h6 : p % A.length < A.length := Nat.mod_lt _ h3
    have h11 := h4 _ (show p / A.length ≤ 1099511627776 by omega)
    refine ⟨by unfold inI64; omega,by omega,by unfold inI64; omega,by omega,by omega,CallO.pure (below_c _ _ _ (by omega)) ?_⟩
    simp -dsimp only [aqA,↓seqK,↓blkK,↓loopK,step,stepBin,eqB,Nat.add_assoc nid,simprocAttr,h11,e1,e2,e3,e4,e5,e6,e7,e8,e9]
    have h7 := round_bd p A.length h3 (by omega)
    have h8 := below_bd (A.getD (p % A.length) 0) (n := 1073741824) (by omega)
    rw [← Int.natCast_emod,← Int.natCast_ediv] at h7
    generalize h9 : ((p / A.length : Nat) : Int) * (7919 + ((p % A.length : Nat) : Int)) = z at h7 ⊢
    refine ⟨by unfold inI64; omega,by unfold inI64; omega,by unfold inI64; omega,CallO.pure (below_c _ _ _ hn) ?_⟩
    simp -dsimp only [aqA,↓seqK,↓blkK,↓loopK,step,stepBin,eqB,Nat.add_assoc nid,simprocAttr,e1,e2,e3,e4,e5,e6,e7,e8,e9]
    refine RetOK.same (.inl rfl) rfl (by simp [strmC,liveIds]; omega) ?_ ?_
    · simp [cvT,step,res,strmC]
    · have h10 : A.length ≠ 0 := by omega
      simp [cvT,step,res,nextV,h10,← h9]
theorem range_c (s nid:Nat) (nl:Bool) (A:List Int) (p:Nat) (lo hi:Int) (h:s<nid) (hp:p≤1099511627775) (hA:A.length≤17592186044416) (h1:lo≤hi) (hl : -1099511627776≤lo) (hh:hi≤1099511627776) :
  ACall Tryz.prog 27 [.ptr s 0,.int .i64 lo,.int .i64 hi] [(s,strmC nl A p)] nid (.int .i64 (rangeV A p lo hi)) [(s,strmC nl A (p+1))]:=by
 obtain ⟨e1,e2,e3,e4,e5,e6,e7,e8,e9⟩:=id_all h
 refine acall_run c27 (by simp [a27]) ?_
 simp -dsimp only [a27,aqA,↓seqK,↓blkK,↓loopK,step,stepBin,eqB,Nat.add_assoc nid,simprocAttr,e1,e2,e3,e4,e5,e6,e7,e8,e9]
 refine S2.dec (fun h=>absurd h (by omega)) (fun h=>?_)
 simp -dsimp only [aqA,↓seqK,↓blkK,↓loopK,step,stepBin,eqB,Nat.add_assoc nid,simprocAttr,e1,e2,e3,e4,e5,e6,e7,e8,e9]
 refine ⟨by unfold inI64; omega,by unfold inI64; omega,CallO.on (next_c _ _ _ _ _ _ (by omega) hp hA (by omega)) (subH_hit _ _ _) ?_⟩
 simp -dsimp only [aqA,↓seqK,↓blkK,↓loopK,step,stepBin,eqB,Nat.add_assoc nid,simprocAttr,e1,e2,e3,e4,e5,e6,e7,e8,e9]
 have:=nextV_bd A p (n:=hi - lo+1) (by omega)
 refine ⟨by unfold inI64; omega,RetOK.same (.inl rfl) rfl (by simp [strmC,liveIds]; omega) ?_ ?_⟩
 ·simp [cvT,step,res,strmC]
 ·simp [cvT,step,res,rangeV]
theorem flip_c (s nid:Nat) (nl:Bool) (A:List Int) (p:Nat) (n:Int) (h:s<nid) (hp:p≤1099511627775) (hA:A.length≤17592186044416) (hn:n≤9223372036854775807) :
  ACall Tryz.prog 14 [.ptr s 0,.int .i64 n] [(s,strmC nl A p)] nid (.bool (flipV A p n)) [(s,strmC nl A (p+1))]:=by
 obtain ⟨e1,e2,e3,e4,e5,e6,e7,e8,e9⟩:=id_all h
 refine acall_run c14 (by simp [a14]) ?_
 simp -dsimp only [a14,aqA,↓seqK,↓blkK,↓loopK,step,stepBin,eqB,Nat.add_assoc nid,simprocAttr,e1,e2,e3,e4,e5,e6,e7,e8,e9]
 refine CallO.on (next_c _ _ _ _ _ _ (by omega) hp hA hn) (subH_hit _ _ _) ?_
 simp -dsimp only [aqA,↓seqK,↓blkK,↓loopK,step,stepBin,eqB,Nat.add_assoc nid,simprocAttr,e1,e2,e3,e4,e5,e6,e7,e8,e9]
 refine RetOK.same (.inl rfl) rfl (by simp [strmC,liveIds]; omega) ?_ ?_
 ·simp [cvT,step,res,strmC]
 ·simp [cvT,step,res,flipV]
theorem pick_c (s nid:Nat) (nl nl':Bool) (A:List Int) (p:Nat) (n:Nat) (g:Nat→Int) (h:s<nid) (hp:p≤1099511627775) (hA:A.length≤17592186044416) (h1:0<n) (hn:n≤1099511627776) :
  ACall Tryz.prog 46 [.ptr s 0,.lit nl' n [.i .i64 g]] [(s,strmC nl A p)] nid (.int .i64 (g (pickI A p n))) [(s,strmC nl A (p+1))]:=by
 obtain ⟨e1,e2,e3,e4,e5,e6,e7,e8,e9⟩:=id_all h
 refine acall_run c46 (by simp [a46]) ?_
 simp -dsimp only [a46,aqA,↓seqK,↓blkK,↓loopK,step,stepBin,eqB,Nat.add_assoc nid,simprocAttr,e1,e2,e3,e4,e5,e6,e7,e8,e9]
 refine CallO.on (next_c _ _ _ _ _ _ (by omega) hp hA (by omega)) (subH_hit _ _ _) ?_
 simp -dsimp only [aqA,↓seqK,↓blkK,↓loopK,step,stepBin,eqB,Nat.add_assoc nid,simprocAttr,e1,e2,e3,e4,e5,e6,e7,e8,e9]
 have:=nextV_bd A p (n:=(n:Int)) (by omega)
 refine ⟨this,RetOK.same (.inl rfl) rfl (by simp [strmC,liveIds]; omega) ?_ ?_⟩
 ·simp [cvT,step,res,strmC]
 ·simp [cvT,step,res,pickI]
theorem CallX.pick_go {s id nid:Nat} {nl:Bool} {A:List Int} {p:Nat} {n T:Nat} {g:Nat→Int} {H:Heap} {K:PV→Heap→List Nat→Prop} (hs:getH H s=strmC nl A p) (hid:getH H id=some (.arr T n [.i .i64 g])) (hne:(s==id)=false) (h:s<nid) (hp:p≤1099511627775) (hA:A.length≤17592186044416) (h1:0<n) (hn:n≤1099511627776)
  (hK:K (.int .i64 (g (pickI A p n))) [(s,strmC nl A (p+1)),(id,none)] [s,id]):CallX Tryz.prog 46 [.ptr s 0,.sl id 0 n] H nid K:=by
 refine CallX.given [id] (u:=[(s,strmC nl A (p+1))]) (fun nl'=>?_) (subH_get hs) (by simp [getH,hne]) hK
 have e:lends H [id] nl' [.ptr s 0,.sl id 0 n]=[.ptr s 0,.lit (nl' id) n [.i .i64 g]]:=by simp [lends,lend,hid,noOs]
 rw [e]
 exact pick_c s _ nl _ A p n _ h hp hA h1 hn
theorem CallO.pick_go {s id nid:Nat} {nl:Bool} {A:List Int} {p:Nat} {n T:Nat} {g:Nat→Int} {H:Heap} {K:PV→Heap→Prop} (hs:getH H s=strmC nl A p) (hid:getH H id=some (.arr T n [.i .i64 g])) (hne:(s==id)=false) (h:s<nid) (hp:p≤1099511627775) (hA:A.length≤17592186044416) (h1:0<n) (hn:n≤1099511627776)
  (hK:K (.int .i64 (g (pickI A p n))) [(s,strmC nl A (p+1)),(id,none)]):CallOK Tryz.prog 46 [.ptr s 0,.sl id 0 n] H nid K :=
 CallO.x (CallX.pick_go hs hid hne h hp hA h1 hn hK)
open Go.RowKit
def arrI (l:List Int):Option ABlk:=some (.arr 3 l.length [.i .i64 fun i=>l.getD i 0])
def litI (nl:Bool) (l:List Int):PV:=.lit nl l.length [.i .i64 fun i=>l.getD i 0]
theorem out_c (x lo hi:Int) (nid:Nat):ACall Tryz.prog 75 [.int .i64 x,.int .i64 lo,.int .i64 hi] [] nid (.bool (outB x lo hi)) []:=by
 refine acall_run c75 (by simp [a75]) ?_
 simp -dsimp only [a75,aqA,↓seqK,↓blkK,↓loopK,step,stepBin,eqB,Nat.add_assoc nid,simprocAttr]
 refine S2.dec (fun h=>?_) (fun h=>?_) <;> simp -dsimp only [aqA,↓seqK,↓blkK,↓loopK,step,stepBin,eqB,Nat.add_assoc nid,simprocAttr] <;> refine RetOK.pure (.inl rfl) rfl ?_ <;> simp [cvT,step,res,outB] <;> omega
theorem in_c (x lo hi:Int) (nid:Nat):ACall Tryz.prog 65 [.int .i64 x,.int .i64 lo,.int .i64 hi] [] nid (.bool (!outB x lo hi)) []:=by
 refine acall_run c65 (by simp [a65]) ?_
 simp -dsimp only [a65,aqA,↓seqK,↓blkK,↓loopK,step,stepBin,eqB,Nat.add_assoc nid,simprocAttr]
 refine S2.dec (fun h=>?_) (fun h=>?_) <;> simp -dsimp only [aqA,↓seqK,↓blkK,↓loopK,step,stepBin,eqB,Nat.add_assoc nid,simprocAttr] <;> refine RetOK.pure (.inl rfl) rfl ?_ <;> simp [cvT,step,res,outB] <;> first | omega | (rw [Bool.eq_iff_iff]; simp; omega)
open Go.RowKit Go.Shelf Go.Lib
theorem indexKS_c (s:List UInt8) (c:Int) (nid:Nat):ACall Tryz.prog 204 [.str s,.int .u8 c] [] nid (.int .i64 (Lib.indexByte s c.toNat.toUInt8)) []:=by
 intro C vs hb hl hr hs
 obtain ⟨v0,v1,rfl⟩:∃ a b,vs=[a,b]:=by
  rcases vs with _ | ⟨a,_ | ⟨b,_ | ⟨c,r⟩⟩⟩
  ·simp at hl
  ·simp at hl
  ·exact ⟨a,b,rfl⟩
  ·simp at hl
 have r0:=(hr 0 _ v0 rfl rfl).str_inv
 have r1:=(hr 1 _ v1 rfl rfl).int_inv
 subst r0; subst r1
 refine .inr ⟨.int .i64 (Lib.indexByte s c.toNat.toUInt8),C.w0,?_,C.Y0,C.m0,.int,by simpa using hs.next (show nid≤nid+4 by omega),Ev.refl _ _ _⟩
 rw [run_callFunc_extern (P:=Tryz.prog) (f:=204) (fn:=Tryz.f204) (e:=Extern.BytealgIndexByte.indexByte) Tryz.func204 (by kernel_rfl) (by kernel_rfl) (by kernel_rfl) (by kernel_rfl)]
 have h:=Lib.run_indexByteString (P:=Tryz.prog) ⟨s.toArray⟩ c C.w0
 show ((Extern.BytealgIndexByte.indexByte #[.string ⟨s.toArray⟩,.int .u8 c]).run Tryz.prog C.w0).andThen _=_
 rw [h]
 rfl
theorem indexK_c (s:List UInt8) (c:Int) (nid:Nat):ACall Tryz.prog 116 [.str s,.int .u8 c] [] nid (.int .i64 (Lib.indexByte s c.toNat.toUInt8)) []:=by
 have h1:∀ nid,ACall Tryz.prog 169 [.str s,.int .u8 c] [] nid (.int .i64 (Lib.indexByte s c.toNat.toUInt8)) []:=fun nid=>by
  refine acall_run c169 (by simp [a169]) ?_
  simp -dsimp only [a169,aqA,↓seqK,↓blkK,↓loopK,step,stepBin,eqB,Nat.add_assoc nid,simprocAttr]
  refine CallO.pure (indexKS_c s c _) ?_
  simp -dsimp only [aqA,↓seqK,↓blkK,↓loopK,step,stepBin,eqB,Nat.add_assoc nid,simprocAttr]
  refine RetOK.pure (.inl rfl) rfl ?_
  simp [cvT,step,res]
 refine acall_run c116 (by simp [a116]) ?_
 simp -dsimp only [a116,aqA,↓seqK,↓blkK,↓loopK,step,stepBin,eqB,Nat.add_assoc nid,simprocAttr]
 refine CallO.pure (h1 _) ?_
 simp -dsimp only [aqA,↓seqK,↓blkK,↓loopK,step,stepBin,eqB,Nat.add_assoc nid,simprocAttr]
 refine RetOK.pure (.inl rfl) rfl ?_
 simp [cvT,step,res]
def SlotsIn (s:Slots):Slots→Prop
 | []=>True
 | (i,p)::r=>getS s i=p∧SlotsIn s r
theorem SlotsIn.get {s:Slots}:∀ {s':Slots},SlotsIn s s'→∀ i,getS s' i=.any∨getS s' i=getS s i
 | [],_,i=>.inl rfl
 | (j,p)::r,h,i=>by
  simp only [getS]
  cases hj:j==i
  ·exact SlotsIn.get h.2 i
  ·have:j=i:=by simpa using hj
   subst this
   exact .inr h.1.symm
theorem Cov.drop {s s':Slots} {H:Heap} {n n' b:Nat} (hn:n≤n') (hs:SlotsIn s s'):Cov ⟨s,H,n,b⟩ ⟨s',H,n',b⟩:=fun C nt Y m a w h=>by
 refine ⟨Y,m,h.size,h.defers,fun i p hp hne=>?_,h.heap.mono (fun id hid=>Nat.le_trans hn hid),h.base⟩
 rcases hs.get i with e | e
 ·exact absurd (hp.symm.trans e) hne
 ·exact h.slots i p (e.symm.trans hp) hne
theorem trim_none (s cs:List UInt8):(Lib.trimS s cs==[])=s.all cs.contains:=by
 have key:Lib.trimS s cs=[]↔s.all cs.contains=true:=by
  unfold Lib.trimS Lib.trimLeftS
  rw [dropW_nil]
  unfold Lib.trimRightS
  constructor
  ·intro h
   cases hd:s.reverse.dropWhile cs.contains with
   | nil =>
    rw [dropW_nil,List.all_reverse] at hd
    exact hd
   | cons a r =>
    have hne:s.reverse.dropWhile cs.contains≠[]:=by rw [hd]; simp
    have hh:=List.head_dropWhile_not cs.contains hne
    have hm:((s.reverse.dropWhile cs.contains).head hne)∈(s.reverse.dropWhile cs.contains).reverse:=List.mem_reverse.2 (List.head_mem _)
    have:=List.all_eq_true.1 h _ hm
    rw [this] at hh
    cases hh
  ·intro h
   have:s.reverse.dropWhile cs.contains=[]:=by rw [dropW_nil,List.all_reverse]; exact h
   rw [this]
   rfl
 rw [Bool.eq_iff_iff,beq_iff_eq]
 exact key
def keyL:List UInt8:=[97,98,99,100,101,102,103,104,105,106,107,108,109,110,111,112,113,114,115,116,117,118,119,120,121,122,48,49,50,51,52,53,54,55,56,57,45,95]
def lowL:List UInt8:=[97,98,99,100,101,102,103,104,105,106,107,108,109,110,111,112,113,114,115,116,117,118,119,120,121,122]
def lowI (c:Int):Bool:=decide (97≤c) && decide (c≤122)
def keyI (c:Int):Bool:=lowI c || (decide (48≤c) && decide (c≤57)) || c==45 || c==95
def keyC (b:UInt8):Bool:=keyI ((b.toNat:Nat):Int)
theorem keyC_in (b:UInt8):keyL.contains b=keyC b:=by
 have h:∀ n:Nat,n<256→keyL.contains n.toUInt8=keyI (n:Int):=by decide +kernel
 have:=h b.toNat (UInt8.toNat_lt b)
 rwa [show b.toNat.toUInt8=b by simp] at this
theorem lowC_in (b:UInt8):decide (0≤Lib.indexByte lowL b)=lowI ((b.toNat:Nat):Int):=by
 have h:∀ n:Nat,n<256→decide (0≤Lib.indexByte lowL n.toUInt8)=lowI (n:Int):=by decide +kernel
 have:=h b.toNat (UInt8.toNat_lt b)
 rwa [show b.toNat.toUInt8=b by simp] at this
def keyB (s:List UInt8):Bool:=!outB s.length 1 40 && s.all keyC && lowI (((s.getD 0 0).toNat:Nat):Int)
theorem keyR_c (s:List UInt8) (nid:Nat):ACall Tryz.prog 63 [.str s] [] nid (.bool (keyB s)) []:=by
 refine acall_run c63 (by simp [a63]) ?_
 simp -dsimp only [aqA,↓seqK,↓blkK,↓loopK,step,stepBin,eqB,Nat.add_assoc nid,simprocAttr,a63]
 refine CallO.pure (in_c _ _ _ _) ?_
 simp -dsimp only [aqA,↓seqK,↓blkK,↓loopK,step,stepBin,eqB,Nat.add_assoc nid,simprocAttr]
 have ht:(Lib.trimS s keyL==[])=s.all keyC:=by rw [trim_none]; congr 1; funext b; exact keyC_in b
 unfold keyL at ht
 have hi:=lowC_in (s.getD 0 0)
 unfold lowL at hi
 unfold keyB
 cases h:outB s.length 1 40 <;> simp -dsimp only [aqA,↓seqK,↓blkK,↓loopK,step,stepBin,eqB,Nat.add_assoc nid,simprocAttr,LN_succ,Bool.not_false,Bool.not_true]
 ·have hl:1≤s.length∧s.length≤40:=by unfold outB at h; have:=of_decide_eq_false h; omega
  refine CallO.pure (trim_cc s _ _ (by omega) (by decide) (by decide)) ?_
  simp -dsimp only [aqA,↓seqK,↓blkK,↓loopK,step,stepBin,eqB,Nat.add_assoc nid,simprocAttr,LN_succ]
  rw [ht]
  cases h2:s.all keyC <;> simp -dsimp only [aqA,↓seqK,↓blkK,↓loopK,step,stepBin,eqB,Nat.add_assoc nid,simprocAttr,LN_succ,Bool.not_false,Bool.not_true]
  ·refine RetOK.pure (.inl rfl) rfl ?_
   simp [cvT,step,res]
  ·refine ⟨by omega,?_⟩
   refine CallO.pure (indexK_c _ _ _) ?_
   simp -dsimp only [aqA,↓seqK,↓blkK,↓loopK,step,stepBin,eqB,Nat.add_assoc nid,simprocAttr,LN_succ]
   rw [show (s.getD 0 0).toNat.toUInt8=s.getD 0 0 by simp,hi]
   refine RetOK.pure (.inl rfl) rfl ?_
   simp [cvT,step,res]
 ·refine RetOK.pure (.inl rfl) rfl ?_
  simp [cvT,step,res]
theorem keyI_iff {c:Int}:keyI c=true↔(97≤c∧c≤122)∨(48≤c∧c≤57)∨c=45∨c=95:=by
 unfold keyI lowI
 simp only [Bool.or_eq_true,Bool.and_eq_true,decide_eq_true_eq,beq_iff_eq]
 omega
theorem keyI_no {c:Int} (h:¬ ((97≤c∧c≤122)∨(48≤c∧c≤57)∨c=45∨c=95)):keyI c=false:=by
 have:=mt keyI_iff.1 h
 simpa using this
theorem keyB_bad {s:List UInt8} (h:s.length<1∨40<s.length∨(((s.getD 0 0).toNat:Nat):Int)<97∨(122:Int)<((s.getD 0 0).toNat:Nat)):keyB s=false:=by
 have:¬ keyB s=true:=fun e=>by
  unfold keyB outB lowI at e
  simp only [Bool.and_eq_true,Bool.not_eq_true',decide_eq_true_eq,decide_eq_false_iff_not] at e
  omega
 simpa using this
theorem keyB_good {s:List UInt8} (h1:1≤s.length) (h2:s.length≤40) (h3:(97:Int)≤((s.getD 0 0).toNat:Nat)) (h4:(((s.getD 0 0).toNat:Nat):Int)≤122):keyB s=s.all keyC:=by
 have a:outB s.length 1 40=false:=by unfold outB; exact decide_eq_false (by omega)
 have b:lowI (((s.getD 0 0).toNat:Nat):Int)=true:=by unfold lowI; rw [decide_eq_true h3,decide_eq_true h4]; rfl
 unfold keyB
 rw [a,b,Bool.and_true,Bool.not_false,Bool.true_and]
theorem keyC_all {s:List UInt8} (h:∀ j,j<s.length→keyC (s.getD j 0)=true):s.all keyC=true:=by
 rw [List.all_eq_true]
 intro x hx
 obtain ⟨j,hj,rfl⟩:=List.getElem_of_mem hx
 have:=h j hj
 rwa [List.getD_eq_getElem?_getD,List.getElem?_eq_getElem hj] at this
theorem keyC_not {s:List UInt8} {k:Nat} (hk:k<s.length) (h:keyC (s.getD k 0)=false):s.all keyC=false:=by
 rw [List.all_eq_false]
 refine ⟨s[k],List.getElem_mem _,?_⟩
 rw [List.getD_eq_getElem?_getD,List.getElem?_eq_getElem hk] at h
 rw [show s[k]=(some s[k]).getD 0 from rfl,h]
 simp
set_option maxHeartbeats 1000000 in
theorem keyD_c (s : List UInt8) (nid : Nat) (hs : s.length ≤ 1000000) : ACall Tryz.prog 141 [.str s] [] nid (.bool (keyB s)) [] := by
  refine acall_sr c141 (by simp [a141]) ?_
  unfold a141
  refine SR.seq ?_
  simp -dsimp only [aqA,↓seqK,↓blkK,↓loopK,step,stepBin,eqB,Nat.add_assoc nid,simprocAttr,LN_succ]
  refine SR.seqW (ι := {_u : Unit // (1 ≤ s.length ∧ s.length ≤ 40) ∧ (97 : Int) ≤ ((s.getD 0 0).toNat : Nat) ∧ (((s.getD 0 0).toNat : Nat) : Int) ≤ 122}) (fun _ => ⟨[(0,.str s)],[],nid + 80,nid⟩) ?_ (fun ⟨_,⟨h1,h2⟩,h3,h4⟩ => ?_)
  · refine SR.run (t := .mk) ?_
    simp -dsimp only [aqA,↓seqK,↓blkK,↓loopK,step,stepBin,eqB,Nat.add_assoc nid,simprocAttr,LN_succ]
    refine S2.intro (fun h1 => ?_) (fun h1 => ?_) <;> simp -dsimp only [aqA,↓seqK,↓blkK,↓loopK,step,stepBin,eqB,Nat.add_assoc nid,simprocAttr,LN_succ]
    · rw [keyB_bad (.inl (by simp at h1; subst h1; simp))]
      refine RetOK.pure (.inl rfl) rfl ?_
      simp [cvT,step,res]
    have h1 : 1 ≤ s.length := by have : s ≠ [] := by simpa using h1
                                 have := List.length_pos_iff.2 this
                                 omega
    refine S2.dec (fun h2 => ?_) (fun h2 => ?_) <;> simp -dsimp only [aqA,↓seqK,↓blkK,↓loopK,step,stepBin,eqB,Nat.add_assoc nid,simprocAttr,LN_succ]
    · rw [keyB_bad (.inr (.inl (by omega)))]
      refine RetOK.pure (.inl rfl) rfl ?_
      simp [cvT,step,res]
    refine ⟨by omega,?_⟩
    refine S2.dec (fun h3 => ?_) (fun h3 => ?_) <;> simp -dsimp only [aqA,↓seqK,↓blkK,↓loopK,step,stepBin,eqB,Nat.add_assoc nid,simprocAttr,LN_succ]
    · rw [keyB_bad (.inr (.inr (.inl (by omega))))]
      refine RetOK.pure (.inl rfl) rfl ?_
      simp [cvT,step,res]
    refine ⟨by omega,?_⟩
    refine S2.dec (fun h4 => ?_) (fun h4 => ?_) <;> simp -dsimp only [aqA,↓seqK,↓blkK,↓loopK,step,stepBin,eqB,Nat.add_assoc nid,simprocAttr,LN_succ]
    · rw [keyB_bad (.inr (.inr (.inr (by omega))))]
      refine RetOK.pure (.inl rfl) rfl ?_
      simp [cvT,step,res]
    refine ⟨⟨(),⟨h1,by omega⟩,by omega,by omega⟩,Cov.drop (by omega) ?_⟩
    simp only [SlotsIn,aqA,↓seqK,↓blkK,↓loopK,step,stepBin,eqB,Nat.add_assoc nid,simprocAttr]
    try simp
  rw [keyB_good h1 h2 h3 h4]
  clear h3 h4
  refine SR.seqW (ι := {_u : Unit // s.all keyC = true}) (fun _ => ⟨[(0,.str s)],[],nid + 400,nid⟩) ?_ (fun ⟨_,h5⟩ => ?_)
  · refine SR.seqTo ⟨[(24,.int .i64 0),(23,.int .i64 s.length),(0,.str s)],[],nid + 100,nid⟩ ?_ ?_
    · simp -dsimp only [aqA,↓seqK,↓blkK,↓loopK,step,stepBin,eqB,Nat.add_assoc nid,simprocAttr,LN_succ]
      refine Cov.drop (by omega) ?_
      simp only [SlotsIn,aqA,↓seqK,↓blkK,↓loopK,step,stepBin,eqB,Nat.add_assoc nid,simprocAttr]
      try simp
    refine SR.block ?_
    refine SR.loopP (fun k : Nat => k ≤ s.length ∧ ∀ j,j < k → keyC (s.getD j 0) = true) (fun k : Nat => ⟨[(24,.int .i64 k),(23,.int .i64 s.length),(0,.str s)],[],nid + 100,nid⟩) (fun k => s.length + 1 - k) 0 ⟨by omega,fun j hj => by omega⟩ (Cov.drop (by omega) ?_) (fun k hk => ?_)
    · simp only [SlotsIn,aqA,↓seqK,↓blkK,↓loopK,step,stepBin,eqB,Nat.add_assoc nid,simprocAttr]
      try simp
    obtain ⟨hk,hall⟩ := hk
    refine SR.seq ?_
    simp -dsimp only [aqA,↓seqK,↓blkK,↓loopK,step,stepBin,eqB,Nat.add_assoc nid,simprocAttr,LN_succ]
    refine SR.seq ?_
    simp -dsimp only [aqA,↓seqK,↓blkK,↓loopK,step,stepBin,eqB,Nat.add_assoc nid,simprocAttr,LN_succ]
    refine S2.dec (fun h3 => ?_) (fun h3 => ?_) <;> simp -dsimp only [aqA,↓seqK,↓blkK,↓loopK,step,stepBin,eqB,Nat.add_assoc nid,simprocAttr,LN_succ]
    · have hkl : k < s.length := by omega
      have hno := keyC_not hkl
      have hyes : keyC (s.getD k 0) = true → ∀ j,j < k + 1 → keyC (s.getD j 0) = true := fun h j hj => by
        rcases (by omega : j < k ∨ j = k) with hj | hj
        · exact hall j hj
        · rw [hj]; exact h
      have ek : keyC (s.getD k 0) = keyI (((s.getD k 0).toNat : Nat) : Int) := rfl
      rw [ek] at hno hyes
      clear ek hall h3
      refine SR.seqW (ι := {_u : Unit // keyI (((s.getD k 0).toNat : Nat) : Int) = true}) (fun _ => ⟨[(24,.int .i64 k),(23,.int .i64 s.length),(0,.str s)],[],nid + 400,nid⟩) ?_ (fun ⟨_,h6⟩ => ?_)
      · refine SR.block ?_
        refine SR.seq ?_
        simp -dsimp only [aqA,↓seqK,↓blkK,↓loopK,step,stepBin,eqB,Nat.add_assoc nid,simprocAttr,LN_succ]
        refine SR.seqTo ⟨[(4,.int .u8 (((s.getD k 0).toNat : Nat) : Int)),(24,.int .i64 k),(23,.int .i64 s.length),(0,.str s)],[],nid + 200,nid⟩ ?_ ?_
        · simp -dsimp only [aqA,↓seqK,↓blkK,↓loopK,step,stepBin,eqB,Nat.add_assoc nid,simprocAttr,LN_succ]
          refine ⟨by omega,Cov.drop (by omega) ?_⟩
          simp only [SlotsIn,aqA,↓seqK,↓blkK,↓loopK,step,stepBin,eqB,Nat.add_assoc nid,simprocAttr]
          try simp
        clear hyes
        generalize (((s.getD k 0).toNat : Nat) : Int) = c at *
        refine SR.seqTo ⟨[(52,.bool (!keyI c)),(24,.int .i64 k),(23,.int .i64 s.length),(0,.str s)],[],nid + 300,nid⟩ ?_ ?_
        · have cls : (97 ≤ c ∧ c ≤ 122) ∨ (48 ≤ c ∧ c ≤ 57) ∨ c = 45 ∨ c = 95 ∨ 122 < c ∨ (57 < c ∧ c < 97 ∧ c ≠ 95) ∨ (c < 48 ∧ c ≠ 45) := by omega
          clear hno
          rcases cls with hc | hc | hc | hc | hc | hc | hc
          · rw [keyI_iff.2 (by omega)]
            simp -dsimp only [aqA,↓seqK,↓blkK,↓loopK,step,stepBin,eqB,Nat.add_assoc nid,simprocAttr,LN_succ,decide_eq_true hc.1,decide_eq_true hc.2]
            exact Cov.drop (by omega) (by simp only [SlotsIn,aqA,↓seqK,↓blkK,↓loopK,step,stepBin,eqB,Nat.add_assoc nid,simprocAttr])
          · rw [keyI_iff.2 (by omega)]
            simp -dsimp only [aqA,↓seqK,↓blkK,↓loopK,step,stepBin,eqB,Nat.add_assoc nid,simprocAttr,LN_succ,decide_eq_false (show ¬ (97 : Int) ≤ c by omega),decide_eq_true hc.1,decide_eq_true hc.2]
            exact Cov.drop (by omega) (by simp only [SlotsIn,aqA,↓seqK,↓blkK,↓loopK,step,stepBin,eqB,Nat.add_assoc nid,simprocAttr])
          · rw [keyI_iff.2 (by omega)]
            simp -dsimp only [aqA,↓seqK,↓blkK,↓loopK,step,stepBin,eqB,Nat.add_assoc nid,simprocAttr,LN_succ,decide_eq_false (show ¬ (97 : Int) ≤ c by omega),decide_eq_false (show ¬ (48 : Int) ≤ c by omega),show (c == 45) = true by simp [hc]]
            exact Cov.drop (by omega) (by simp only [SlotsIn,aqA,↓seqK,↓blkK,↓loopK,step,stepBin,eqB,Nat.add_assoc nid,simprocAttr])
          · rw [keyI_iff.2 (by omega)]
            simp -dsimp only [aqA,↓seqK,↓blkK,↓loopK,step,stepBin,eqB,Nat.add_assoc nid,simprocAttr,LN_succ,decide_eq_false (show ¬ (97 : Int) ≤ c by omega),decide_eq_true (show (48 : Int) ≤ c by omega),decide_eq_false (show ¬ c ≤ (57 : Int) by omega),show (c == 45) = false by simp [hc],show (c == 95) = true by simp [hc]]
            exact Cov.drop (by omega) (by simp only [SlotsIn,aqA,↓seqK,↓blkK,↓loopK,step,stepBin,eqB,Nat.add_assoc nid,simprocAttr])
          · rw [keyI_no (by omega)]
            simp -dsimp only [aqA,↓seqK,↓blkK,↓loopK,step,stepBin,eqB,Nat.add_assoc nid,simprocAttr,LN_succ,decide_eq_true (show (97 : Int) ≤ c by omega),decide_eq_false (show ¬ c ≤ (122 : Int) by omega),decide_eq_true (show (48 : Int) ≤ c by omega),decide_eq_false (show ¬ c ≤ (57 : Int) by omega),show (c == 45) = false by simp; omega,show (c == 95) = false by simp; omega]
            exact Cov.drop (by omega) (by simp only [SlotsIn,aqA,↓seqK,↓blkK,↓loopK,step,stepBin,eqB,Nat.add_assoc nid,simprocAttr])
          · rw [keyI_no (by omega)]
            simp -dsimp only [aqA,↓seqK,↓blkK,↓loopK,step,stepBin,eqB,Nat.add_assoc nid,simprocAttr,LN_succ,decide_eq_false (show ¬ (97 : Int) ≤ c by omega),decide_eq_true (show (48 : Int) ≤ c by omega),decide_eq_false (show ¬ c ≤ (57 : Int) by omega),show (c == 45) = false by simp; omega,show (c == 95) = false by simp; omega]
            exact Cov.drop (by omega) (by simp only [SlotsIn,aqA,↓seqK,↓blkK,↓loopK,step,stepBin,eqB,Nat.add_assoc nid,simprocAttr])
          · rw [keyI_no (by omega)]
            simp -dsimp only [aqA,↓seqK,↓blkK,↓loopK,step,stepBin,eqB,Nat.add_assoc nid,simprocAttr,LN_succ,decide_eq_false (show ¬ (97 : Int) ≤ c by omega),decide_eq_false (show ¬ (48 : Int) ≤ c by omega),show (c == 45) = false by simp; omega,show (c == 95) = false by simp; omega]
            exact Cov.drop (by omega) (by simp only [SlotsIn,aqA,↓seqK,↓blkK,↓loopK,step,stepBin,eqB,Nat.add_assoc nid,simprocAttr])
        refine SR.run (t := .mk) ?_
        cases hb : keyI c
        · rw [hno hb]
          simp -dsimp only [aqA,↓seqK,↓blkK,↓loopK,step,stepBin,eqB,Nat.add_assoc nid,simprocAttr,LN_succ]
          refine RetOK.pure (.inl rfl) rfl ?_
          simp [cvT,step,res]
        · simp -dsimp only [aqA,↓seqK,↓blkK,↓loopK,step,stepBin,eqB,Nat.add_assoc nid,simprocAttr,LN_succ]
          refine ⟨⟨(),rfl⟩,Cov.drop (by omega) ?_⟩
          simp only [SlotsIn,aqA,↓seqK,↓blkK,↓loopK,step,stepBin,eqB,Nat.add_assoc nid,simprocAttr]
          try simp
      refine SR.run (t := .mk) ?_
      simp -dsimp only [aqA,↓seqK,↓blkK,↓loopK,step,stepBin,eqB,Nat.add_assoc nid,simprocAttr,LN_succ]
      refine ⟨by unfold inI64; omega,k + 1,⟨⟨by omega,hyes h6⟩,by omega⟩,Cov.go [] [] ?_⟩
      simp [cvT,step,res]
    · refine ⟨⟨(),keyC_all (fun j hj => hall j (by omega))⟩,Cov.drop (by omega) ?_⟩
      simp only [SlotsIn,aqA,↓seqK,↓blkK,↓loopK,step,stepBin,eqB,Nat.add_assoc nid,simprocAttr]
      try simp
  · rw [h5]
    refine SR.run (t := .mk) ?_
    simp -dsimp only [aqA,↓seqK,↓blkK,↓loopK,step,stepBin,eqB,Nat.add_assoc nid,simprocAttr,LN_succ]
    refine RetOK.pure (.inl rfl) rfl ?_
    simp [cvT,step,res]
abbrev Bs:=List UInt8
structure Dev where
 name:Bs
 long:Int
 id:Int
 regs:List (Bs × Int)
 ins:List (Bs × Bs)
def dev0:Dev:=⟨[],0,0,[],[]⟩
def reg0:Bs × Int:=([],0)
def ins0:Bs × Bs:=([],[])
def byL:Bs:=[98,121,112,97,115,115]
def idL:Bs:=[105,100,99,111,100,101]
def regE (R:List (Bs × Int)) (i:Nat):Int :=
 if keyB (R.getD i reg0).1=false then 5
 else if (R.getD i reg0).1=byL∨(R.getD i reg0).1=idL∨(R.take i).any (fun x=>x.1==(R.getD i reg0).1)=true then 6
 else if outB (R.getD i reg0).2 1 1000=true then 1 else 0
def ownB (d:Dev) (n:Bs):Bool:=d.regs.any fun x=>x.1==n
def insE (d:Dev) (i:Nat):Int :=
 if ¬ (((d.ins.getD i ins0).1.length:Nat):Int)=d.long then 3
 else if bitsOk (d.ins.getD i ins0).1=false then 9
 else if (d.ins.getD i ins0).1.contains 48=false then 16
 else if (d.ins.take i).any (fun x=>x.1==(d.ins.getD i ins0).1)=true then 6
 else if (d.ins.getD i ins0).2=byL∨((d.ins.getD i ins0).2=idL∧d.id≠0)∨ownB d (d.ins.getD i ins0).2=true then 0 else 8
def regsE (d:Dev):Int:=firstBad (regE d.regs) (List.range d.regs.length)
def inssE (d:Dev):Int:=firstBad (insE d) (List.range d.ins.length)
def devE (D:List Dev) (i:Nat):Int :=
 if keyB (D.getD i dev0).name=false then 5
 else if (D.take i).any (fun x=>x.name==(D.getD i dev0).name)=true then 6
 else if outB (D.getD i dev0).long 2 32=true∨outB (D.getD i dev0).id 0 4294967295=true then 1
 else if (D.getD i dev0).id≠0∧(D.getD i dev0).id.tmod 2=0 then 3
 else if 10<(D.getD i dev0).regs.length∨100<(D.getD i dev0).ins.length then 2
 else if regsE (D.getD i dev0)≠0 then regsE (D.getD i dev0) else inssE (D.getD i dev0)
def devsE (D:List Dev):Int:=if D.length=0 then 8 else if 20<D.length then 2 else firstBad (devE D) (List.range D.length)
def nameOf (d:Dev) (code:Bs):Bs:=d.ins.foldl (fun n x=>if x.1=code then x.2 else n) byL
def regOf (d:Dev) (n:Bs):Bs × Int:=if n=byL then (byL,1) else if n=idL∧d.id≠0 then (idL,32) else (d.regs.find? fun x=>x.1==n).getD reg0
def selV (d:Dev) (code:Bs):Bs × Int:=regOf d (nameOf d code)
def devP (n1 n2:Nat→Bool) (D:List Dev):List Col:=[.s fun i=>(D.getD i dev0).name,.i .i64 fun i=>(D.getD i dev0).long,.i .i64 fun i=>(D.getD i dev0).id,
 .l n1 (fun i=>(D.getD i dev0).regs.length) (fun i=>[.s fun j=>((D.getD i dev0).regs.getD j reg0).1,.i .i64 fun j=>((D.getD i dev0).regs.getD j reg0).2]),
 .l n2 (fun i=>(D.getD i dev0).ins.length) (fun i=>[.s fun j=>((D.getD i dev0).ins.getD j ins0).1,.s fun j=>((D.getD i dev0).ins.getD j ins0).2])]
open Go.RowKit Go.Shelf Go.Lib
theorem indexRg_h (f:Nat) (caps:List PV) (Hs:Heap) (F:Nat→Bool) (nl:Bool) (n:Nat) (G:Nat→List UInt8) (G2:Nat→Int) (nid:Nat) (hs:Scoped nid Hs) (hcap:lowAll nid (idsOfs caps)=true) (hl:n≤1000000)
  (hf:∀ k,k<n→∀ nid',nid≤nid'→ACall Tryz.prog f (.agg [.str (G k),.int .i64 (G2 k)]::caps) Hs nid' (.bool (F k)) []) :
  ACall Tryz.prog 170 [.lit nl n [.s G,.i .i64 G2],.fn f caps] Hs nid (.int .i64 (idxR F n)) []:=by
 have hcv:=capsC hcap
 refine acall_run c170 (by simp [a170]) ?_
 simp -dsimp only [a170,aqA,↓seqK,↓blkK,↓loopK,step,stepBin,eqB,Nat.add_assoc nid,simprocAttr,LN_succ]
 refine LP.mkP (fun k:Nat=>k≤n∧∀ j,j<k→F j=false) (fun k:Nat=>⟨[(8,.int .i64 k),(7,.int .i64 n),(0,.lit nl n [.s G,.i .i64 G2]),(1,.fn f caps)],Hs,nid+100,nid⟩) (fun k=>n+1 - k) 0 ⟨by omega,fun j hj=>by omega⟩ (Cov.goF Hs [] [] [] [] hs (by simp [kOK]) rfl ?_) (fun k hk=>?_)
 ·simp [cvT,step,res,hcv]
 obtain ⟨hk,hb⟩:=hk
 simp -dsimp only [aqA,↓seqK,↓blkK,↓loopK,step,stepBin,eqB,Nat.add_assoc nid,simprocAttr,LN_succ]
 refine S2.dec (fun h3=>?_) (fun h3=>?_) <;> simp -dsimp only [aqA,↓seqK,↓blkK,↓loopK,step,stepBin,eqB,Nat.add_assoc nid,simprocAttr,LN_succ]
 ·have hkl:k<n:=by omega
  refine ⟨by omega,CallO.on (hf k hkl _ (by omega)) (subH_frame (X:=[]) hs (by simp [kOK])) ?_⟩
  simp -dsimp only [aqA,↓seqK,↓blkK,↓loopK,step,stepBin,eqB,Nat.add_assoc nid,simprocAttr,LN_succ]
  refine S2.intro (fun h4=>?_) (fun h4=>?_) <;> simp -dsimp only [aqA,↓seqK,↓blkK,↓loopK,step,stepBin,eqB,Nat.add_assoc nid,simprocAttr,LN_succ]
  ·rw [idxR_at hkl h4 hb]
   refine RetOK.goF Hs [] [] [] [] [] (.inl rfl) hs (by simp [kOK]) rfl ?_
   simp [a170,cvT,step,res]
  ·refine ⟨by unfold inI64; omega,k+1,⟨⟨by omega,fun j hj=>?_⟩,by omega⟩,Cov.goF Hs [] [] [] [] hs (by simp [kOK]) rfl ?_⟩
   ·rcases (by omega:j<k∨j=k) with hj | hj
    ·exact hb j hj
    ·rw [hj]; exact h4
   ·simp [cvT,step,res,hcv]
 ·have hkn:k=n:=by omega
  subst hkn
  rw [idxR_no hb]
  refine RetOK.goF Hs [] [] [] [] [] (.inl rfl) hs (by simp [kOK]) rfl ?_
  simp [a170,cvT,step,res]
theorem containsRg_h (f:Nat) (caps:List PV) (Hs:Heap) (F:Nat→Bool) (nl:Bool) (n:Nat) (G:Nat→List UInt8) (G2:Nat→Int) (nid:Nat) (hs:Scoped nid Hs) (hcap:lowAll nid (idsOfs caps)=true) (hl:n≤1000000)
  (hf:∀ k,k<n→∀ nid',nid≤nid'→ACall Tryz.prog f (.agg [.str (G k),.int .i64 (G2 k)]::caps) Hs nid' (.bool (F k)) []) :
  ACall Tryz.prog 117 [.lit nl n [.s G,.i .i64 G2],.fn f caps] Hs nid (.bool ((List.range n).any F)) []:=by
 have hcv:=capsC hcap
 refine acall_run c117 (by simp [a117]) ?_
 simp -dsimp only [a117,aqA,↓seqK,↓blkK,↓loopK,step,stepBin,eqB,Nat.add_assoc nid,simprocAttr,LN_succ]
 refine CallO.on (indexRg_h f caps Hs F nl n G G2 _ (hs.mono (by omega)) (lowAll_mono hcap (by omega)) hl (fun k hk nid' h'=>hf k hk nid' (by omega))) (fun _ _ h=>h) ?_
 simp -dsimp only [aqA,↓seqK,↓blkK,↓loopK,step,stepBin,eqB,Nat.add_assoc nid,simprocAttr,LN_succ]
 have e:=idxR_any F n
 generalize idxR F n=i at *
 rw [← e]
 refine RetOK.goF Hs [] [] [] [] [] (.inl rfl) hs (by simp [kOK]) rfl ?_
 simp [a117,cvT,step,res]
theorem indexIn_h (f:Nat) (caps:List PV) (Hs:Heap) (F:Nat→Bool) (nl:Bool) (n:Nat) (G:Nat→List UInt8) (G2:Nat→List UInt8) (nid:Nat) (hs:Scoped nid Hs) (hcap:lowAll nid (idsOfs caps)=true) (hl:n≤1000000)
  (hf:∀ k,k<n→∀ nid',nid≤nid'→ACall Tryz.prog f (.agg [.str (G k),.str (G2 k)]::caps) Hs nid' (.bool (F k)) []) :
  ACall Tryz.prog 205 [.lit nl n [.s G,.s G2],.fn f caps] Hs nid (.int .i64 (idxR F n)) []:=by
 have hcv:=capsC hcap
 refine acall_run c205 (by simp [a205]) ?_
 simp -dsimp only [a205,aqA,↓seqK,↓blkK,↓loopK,step,stepBin,eqB,Nat.add_assoc nid,simprocAttr,LN_succ]
 refine LP.mkP (fun k:Nat=>k≤n∧∀ j,j<k→F j=false) (fun k:Nat=>⟨[(8,.int .i64 k),(7,.int .i64 n),(0,.lit nl n [.s G,.s G2]),(1,.fn f caps)],Hs,nid+100,nid⟩) (fun k=>n+1 - k) 0 ⟨by omega,fun j hj=>by omega⟩ (Cov.goF Hs [] [] [] [] hs (by simp [kOK]) rfl ?_) (fun k hk=>?_)
 ·simp [cvT,step,res,hcv]
 obtain ⟨hk,hb⟩:=hk
 simp -dsimp only [aqA,↓seqK,↓blkK,↓loopK,step,stepBin,eqB,Nat.add_assoc nid,simprocAttr,LN_succ]
 refine S2.dec (fun h3=>?_) (fun h3=>?_) <;> simp -dsimp only [aqA,↓seqK,↓blkK,↓loopK,step,stepBin,eqB,Nat.add_assoc nid,simprocAttr,LN_succ]
 ·have hkl:k<n:=by omega
  refine ⟨by omega,CallO.on (hf k hkl _ (by omega)) (subH_frame (X:=[]) hs (by simp [kOK])) ?_⟩
  simp -dsimp only [aqA,↓seqK,↓blkK,↓loopK,step,stepBin,eqB,Nat.add_assoc nid,simprocAttr,LN_succ]
  refine S2.intro (fun h4=>?_) (fun h4=>?_) <;> simp -dsimp only [aqA,↓seqK,↓blkK,↓loopK,step,stepBin,eqB,Nat.add_assoc nid,simprocAttr,LN_succ]
  ·rw [idxR_at hkl h4 hb]
   refine RetOK.goF Hs [] [] [] [] [] (.inl rfl) hs (by simp [kOK]) rfl ?_
   simp [a205,cvT,step,res]
  ·refine ⟨by unfold inI64; omega,k+1,⟨⟨by omega,fun j hj=>?_⟩,by omega⟩,Cov.goF Hs [] [] [] [] hs (by simp [kOK]) rfl ?_⟩
   ·rcases (by omega:j<k∨j=k) with hj | hj
    ·exact hb j hj
    ·rw [hj]; exact h4
   ·simp [cvT,step,res,hcv]
 ·have hkn:k=n:=by omega
  subst hkn
  rw [idxR_no hb]
  refine RetOK.goF Hs [] [] [] [] [] (.inl rfl) hs (by simp [kOK]) rfl ?_
  simp [a205,cvT,step,res]
theorem containsIn_h (f:Nat) (caps:List PV) (Hs:Heap) (F:Nat→Bool) (nl:Bool) (n:Nat) (G:Nat→List UInt8) (G2:Nat→List UInt8) (nid:Nat) (hs:Scoped nid Hs) (hcap:lowAll nid (idsOfs caps)=true) (hl:n≤1000000)
  (hf:∀ k,k<n→∀ nid',nid≤nid'→ACall Tryz.prog f (.agg [.str (G k),.str (G2 k)]::caps) Hs nid' (.bool (F k)) []) :
  ACall Tryz.prog 172 [.lit nl n [.s G,.s G2],.fn f caps] Hs nid (.bool ((List.range n).any F)) []:=by
 have hcv:=capsC hcap
 refine acall_run c172 (by simp [a172]) ?_
 simp -dsimp only [a172,aqA,↓seqK,↓blkK,↓loopK,step,stepBin,eqB,Nat.add_assoc nid,simprocAttr,LN_succ]
 refine CallO.on (indexIn_h f caps Hs F nl n G G2 _ (hs.mono (by omega)) (lowAll_mono hcap (by omega)) hl (fun k hk nid' h'=>hf k hk nid' (by omega))) (fun _ _ h=>h) ?_
 simp -dsimp only [aqA,↓seqK,↓blkK,↓loopK,step,stepBin,eqB,Nat.add_assoc nid,simprocAttr,LN_succ]
 have e:=idxR_any F n
 generalize idxR F n=i at *
 rw [← e]
 refine RetOK.goF Hs [] [] [] [] [] (.inl rfl) hs (by simp [kOK]) rfl ?_
 simp [a172,cvT,step,res]
theorem indexDv_h (f:Nat) (caps:List PV) (Hs:Heap) (F:Nat→Bool) (nl:Bool) (n:Nat) (G:Nat→List UInt8) (G2:Nat→Int) (G3:Nat→Int) (nb:Nat→Bool) (ln:Nat→Nat) (cs:Nat→List Col) (nb2:Nat→Bool) (ln2:Nat→Nat) (cs2:Nat→List Col) (nid:Nat) (hs:Scoped nid Hs) (hcap:lowAll nid (idsOfs caps)=true) (hl:n≤1000000)
  (hf:∀ k,k<n→∀ nid',nid≤nid'→ACall Tryz.prog f (.agg [.str (G k),.int .i64 (G2 k),.int .i64 (G3 k),.lit (nb k) (ln k) (cs k),.lit (nb2 k) (ln2 k) (cs2 k)]::caps) Hs nid' (.bool (F k)) []) :
  ACall Tryz.prog 95 [.lit nl n [.s G,.i .i64 G2,.i .i64 G3,.l nb ln cs,.l nb2 ln2 cs2],.fn f caps] Hs nid (.int .i64 (idxR F n)) []:=by
 have hcv:=capsC hcap
 refine acall_run c95 (by simp [a95]) ?_
 simp -dsimp only [a95,aqA,↓seqK,↓blkK,↓loopK,step,stepBin,eqB,Nat.add_assoc nid,simprocAttr,LN_succ]
 refine LP.mkP (fun k:Nat=>k≤n∧∀ j,j<k→F j=false) (fun k:Nat=>⟨[(8,.int .i64 k),(7,.int .i64 n),(0,.lit nl n [.s G,.i .i64 G2,.i .i64 G3,.l nb ln cs,.l nb2 ln2 cs2]),(1,.fn f caps)],Hs,nid+100,nid⟩) (fun k=>n+1 - k) 0 ⟨by omega,fun j hj=>by omega⟩ (Cov.goF Hs [] [] [] [] hs (by simp [kOK]) rfl ?_) (fun k hk=>?_)
 ·simp [cvT,step,res,hcv]
 obtain ⟨hk,hb⟩:=hk
 simp -dsimp only [aqA,↓seqK,↓blkK,↓loopK,step,stepBin,eqB,Nat.add_assoc nid,simprocAttr,LN_succ]
 refine S2.dec (fun h3=>?_) (fun h3=>?_) <;> simp -dsimp only [aqA,↓seqK,↓blkK,↓loopK,step,stepBin,eqB,Nat.add_assoc nid,simprocAttr,LN_succ]
 ·have hkl:k<n:=by omega
  refine ⟨by omega,CallO.on (hf k hkl _ (by omega)) (subH_frame (X:=[]) hs (by simp [kOK])) ?_⟩
  simp -dsimp only [aqA,↓seqK,↓blkK,↓loopK,step,stepBin,eqB,Nat.add_assoc nid,simprocAttr,LN_succ]
  refine S2.intro (fun h4=>?_) (fun h4=>?_) <;> simp -dsimp only [aqA,↓seqK,↓blkK,↓loopK,step,stepBin,eqB,Nat.add_assoc nid,simprocAttr,LN_succ]
  ·rw [idxR_at hkl h4 hb]
   refine RetOK.goF Hs [] [] [] [] [] (.inl rfl) hs (by simp [kOK]) rfl ?_
   simp [a95,cvT,step,res]
  ·refine ⟨by unfold inI64; omega,k+1,⟨⟨by omega,fun j hj=>?_⟩,by omega⟩,Cov.goF Hs [] [] [] [] hs (by simp [kOK]) rfl ?_⟩
   ·rcases (by omega:j<k∨j=k) with hj | hj
    ·exact hb j hj
    ·rw [hj]; exact h4
   ·simp [cvT,step,res,hcv]
 ·have hkn:k=n:=by omega
  subst hkn
  rw [idxR_no hb]
  refine RetOK.goF Hs [] [] [] [] [] (.inl rfl) hs (by simp [kOK]) rfl ?_
  simp [a95,cvT,step,res]
theorem containsDv_h (f:Nat) (caps:List PV) (Hs:Heap) (F:Nat→Bool) (nl:Bool) (n:Nat) (G:Nat→List UInt8) (G2:Nat→Int) (G3:Nat→Int) (nb:Nat→Bool) (ln:Nat→Nat) (cs:Nat→List Col) (nb2:Nat→Bool) (ln2:Nat→Nat) (cs2:Nat→List Col) (nid:Nat) (hs:Scoped nid Hs) (hcap:lowAll nid (idsOfs caps)=true) (hl:n≤1000000)
  (hf:∀ k,k<n→∀ nid',nid≤nid'→ACall Tryz.prog f (.agg [.str (G k),.int .i64 (G2 k),.int .i64 (G3 k),.lit (nb k) (ln k) (cs k),.lit (nb2 k) (ln2 k) (cs2 k)]::caps) Hs nid' (.bool (F k)) []) :
  ACall Tryz.prog 42 [.lit nl n [.s G,.i .i64 G2,.i .i64 G3,.l nb ln cs,.l nb2 ln2 cs2],.fn f caps] Hs nid (.bool ((List.range n).any F)) []:=by
 have hcv:=capsC hcap
 refine acall_run c42 (by simp [a42]) ?_
 simp -dsimp only [a42,aqA,↓seqK,↓blkK,↓loopK,step,stepBin,eqB,Nat.add_assoc nid,simprocAttr,LN_succ]
 refine CallO.on (indexDv_h f caps Hs F nl n G G2 G3 nb ln cs nb2 ln2 cs2 _ (hs.mono (by omega)) (lowAll_mono hcap (by omega)) hl (fun k hk nid' h'=>hf k hk nid' (by omega))) (fun _ _ h=>h) ?_
 simp -dsimp only [aqA,↓seqK,↓blkK,↓loopK,step,stepBin,eqB,Nat.add_assoc nid,simprocAttr,LN_succ]
 have e:=idxR_any F n
 generalize idxR F n=i at *
 rw [← e]
 refine RetOK.goF Hs [] [] [] [] [] (.inl rfl) hs (by simp [kOK]) rfl ?_
 simp [a42,cvT,step,res]
end Go.Proofs.YtahjohieahehjaaGreatDoor
