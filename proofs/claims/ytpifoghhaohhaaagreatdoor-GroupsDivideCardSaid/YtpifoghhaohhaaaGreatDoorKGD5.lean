/-
  DERIVED: THE SHELF's CONTRACTS AT THIS DUMP, IN PLAIN WORDS (tools/lay-plain.mjs out of 'ZzShelf.lean', which tools/lay-shelf.mjs wrote): THE SAME DECLARATIONS UNDER THE SAME NAMES: 'import', 'namespace', 'open', 'def', 'theorem' AND NOTHING ELSE: no command of the shelf's: FOR A HAND-IN. Each laying: the table of numbers ('.._ren') and one theorem, a field a fact of the dump's own or the kernel's comparison; each contract: ONE APPLICATION.
-/
import Derived.Test.YtpifoghhaohhaaaGreatDoorKGD4
import Derived.Test.YtpifoghhaohhaaaGreatDoorProg
import Derived.Ground.NamesProg
import Derived.Shelf.Strings.SlTrimAscii
import Derived.Shelf.Strings.Repeat
import Derived.Shelf.Strconv.Itoa3
import Derived.Shelf.Strings.Split
import Derived.Shelf.Strings.Cut
import Derived.Shelf.Strings.OnBuilder
import Derived.Shelf.Sort.Plain
import Derived.Test.YtpifoghhaohhaaaGreatDoorKGD3
import Derived.WalkKit
import Derived.Test.YtpifoghhaohhaaaGreatDoorKGD1
import Derived.Lib.Agree
set_option linter.unusedVariables false
set_option linter.unusedSimpArgs false
set_option maxRecDepth 100000
namespace Go.Proofs
open Go.Shelf
def Tryz.lays160_ren : Go.Shelf.Ren := ⟨fun | 160 => 180 | 232 => 231 | 231 => 230 | 227 => 232 | 234 => 234 | 233 => 233 | 236 => 236 | 235 => 235 | 228 => 275 | 271 => 278 | 151 => 277 | 197 => 276 | 120 => 299 | 152 => 298 | 260 => 297 | 137 => 181 | 119 => 307 | 224 => 302 | 225 => 301 | 217 => 237 | 266 => 279 | n => n, fun | 9 => 9 | 4 => 4 | 3 => 3 | 5 => 5 | 117 => 247 | 116 => 246 | 0 => 0 | 124 => 250 | 21 => 21 | 105 => 281 | 46 => 163 | 119 => 299 | 139 => 302 | 138 => 301 | n => n, fun | 3 => 2 | 4 => 3 | n => n⟩
theorem Tryz.lays160 : Go.Proofs.Lays.n160 Tryz.prog Tryz.lays160_ren := {
  mixed := by kernel_rfl
  f119 := Tryz.func307.trans (congrArg some (by kernel_rfl))
  f120 := Tryz.func299.trans (congrArg some (by kernel_rfl))
  f137 := Tryz.func181.trans (congrArg some (by kernel_rfl))
  f151 := Tryz.func277.trans (congrArg some (by kernel_rfl))
  f152 := Tryz.func298.trans (congrArg some (by kernel_rfl))
  f160 := Tryz.func180.trans (congrArg some (by kernel_rfl))
  f197 := Tryz.func276.trans (congrArg some (by kernel_rfl))
  f217 := Tryz.func237.trans (congrArg some (by kernel_rfl))
  f224 := Tryz.func302.trans (congrArg some (by kernel_rfl))
  f225 := Tryz.func301.trans (congrArg some (by kernel_rfl))
  f227 := Tryz.func232.trans (congrArg some (by kernel_rfl))
  f228 := Tryz.func275.trans (congrArg some (by kernel_rfl))
  f231 := Tryz.func230.trans (congrArg some (by kernel_rfl))
  f232 := Tryz.func231.trans (congrArg some (by kernel_rfl))
  f233 := Tryz.func233.trans (congrArg some (by kernel_rfl))
  f234 := Tryz.func234.trans (congrArg some (by kernel_rfl))
  f235 := Tryz.func235.trans (congrArg some (by kernel_rfl))
  f236 := Tryz.func236.trans (congrArg some (by kernel_rfl))
  f260 := Tryz.func297.trans (congrArg some (by kernel_rfl))
  f266 := Tryz.func279.trans (congrArg some (by kernel_rfl))
  f271 := Tryz.func278.trans (congrArg some (by kernel_rfl))
  t0 := Tryz.underlying0
  a0 := Tryz.isAgg0
  z0 := Tryz.sizeOf0
  v0 := Tryz.zeroValue0
  t3 := Tryz.underlying3
  a3 := Tryz.isAgg3
  z3 := Tryz.sizeOf3
  v3 := Tryz.zeroValue3
  t4 := Tryz.underlying4
  a4 := Tryz.isAgg4
  z4 := Tryz.sizeOf4
  v4 := Tryz.zeroValue4
  t5 := Tryz.underlying5
  a5 := Tryz.isAgg5
  z5 := Tryz.sizeOf5
  v5 := Tryz.zeroValue5
  t9 := Tryz.underlying9
  a9 := Tryz.isAgg9
  z9 := Tryz.sizeOf9
  v9 := Tryz.zeroValue9
  t21 := Tryz.underlying21
  a21 := Tryz.isAgg21
  z21 := Tryz.sizeOf21
  v21 := Tryz.zeroValue21
  t46 := Tryz.underlying163
  a46 := Tryz.isAgg163
  z46 := Tryz.sizeOf163
  v46 := Tryz.zeroValue163
  t105 := Tryz.underlying281
  a105 := Tryz.isAgg281
  z105 := Tryz.sizeOf281
  v105 := Tryz.zeroValue281
  t116 := Tryz.underlying246
  a116 := Tryz.isAgg246
  z116 := Tryz.sizeOf246
  t117 := Tryz.underlying247
  a117 := Tryz.isAgg247
  z117 := Tryz.sizeOf247
  v117 := Tryz.zeroValue247
  t119 := Tryz.underlying299
  a119 := Tryz.isAgg299
  z119 := Tryz.sizeOf299
  t124 := Tryz.underlying250
  a124 := Tryz.isAgg250
  z124 := Tryz.sizeOf250
  v124 := Tryz.zeroValue250
  t138 := Tryz.underlying301
  a138 := Tryz.isAgg301
  z138 := Tryz.sizeOf301
  v138 := Tryz.zeroValue301
  t139 := Tryz.underlying302
  a139 := Tryz.isAgg302
  z139 := Tryz.sizeOf302
  v139 := Tryz.zeroValue302
  g3 := by kernel_rfl
  g4 := by kernel_rfl }
def Tryz.lays105_ren : Go.Shelf.Ren := ⟨fun | 105 => 177 | 212 => 227 | 99 => 228 | 165 => 219 | 166 => 159 | 170 => 161 | 169 => 162 | 263 => 272 | 264 => 273 | 206 => 274 | 240 => 218 | 241 => 251 | 276 => 250 | 277 => 282 | n => n, fun | 9 => 9 | 3 => 3 | 4 => 4 | 20 => 20 | 0 => 0 | 46 => 163 | 109 => 240 | 5 => 5 | 72 => 186 | 76 => 189 | 51 => 223 | 146 => 277 | 53 => 146 | 148 => 279 | 70 => 183 | 37 => 184 | 75 => 188 | 127 => 232 | 164 => 261 | 80 => 32 | n => n, fun | n => n⟩
theorem Tryz.lays105 : Go.Proofs.Lays.n105 Tryz.prog Tryz.lays105_ren := {
  mixed := by kernel_rfl
  f99 := Tryz.func228.trans (congrArg some (by kernel_rfl))
  f105 := Tryz.func177.trans (congrArg some (by kernel_rfl))
  f165 := Tryz.func219.trans (congrArg some (by kernel_rfl))
  f166 := Tryz.func159.trans (congrArg some (by kernel_rfl))
  f169 := Tryz.func162.trans (congrArg some (by kernel_rfl))
  f170 := Tryz.func161.trans (congrArg some (by kernel_rfl))
  f206 := Tryz.func274.trans (congrArg some (by kernel_rfl))
  f212 := Tryz.func227.trans (congrArg some (by kernel_rfl))
  f240 := Tryz.func218.trans (congrArg some (by kernel_rfl))
  f241 := Tryz.func251.trans (congrArg some (by kernel_rfl))
  f263 := Tryz.func272.trans (congrArg some (by kernel_rfl))
  f264 := Tryz.func273.trans (congrArg some (by kernel_rfl))
  f276 := Tryz.func250.trans (congrArg some (by kernel_rfl))
  f277 := Tryz.func282.trans (congrArg some (by kernel_rfl))
  t0 := Tryz.underlying0
  a0 := Tryz.isAgg0
  z0 := Tryz.sizeOf0
  v0 := Tryz.zeroValue0
  t3 := Tryz.underlying3
  a3 := Tryz.isAgg3
  z3 := Tryz.sizeOf3
  v3 := Tryz.zeroValue3
  t4 := Tryz.underlying4
  a4 := Tryz.isAgg4
  z4 := Tryz.sizeOf4
  v4 := Tryz.zeroValue4
  t5 := Tryz.underlying5
  a5 := Tryz.isAgg5
  z5 := Tryz.sizeOf5
  v5 := Tryz.zeroValue5
  t9 := Tryz.underlying9
  a9 := Tryz.isAgg9
  z9 := Tryz.sizeOf9
  v9 := Tryz.zeroValue9
  t20 := Tryz.underlying20
  a20 := Tryz.isAgg20
  z20 := Tryz.sizeOf20
  v20 := Tryz.zeroValue20
  t37 := Tryz.underlying184
  a37 := Tryz.isAgg184
  z37 := Tryz.sizeOf184
  v37 := Tryz.zeroValue184
  t46 := Tryz.underlying163
  a46 := Tryz.isAgg163
  z46 := Tryz.sizeOf163
  v46 := Tryz.zeroValue163
  t51 := Tryz.underlying223
  a51 := Tryz.isAgg223
  z51 := Tryz.sizeOf223
  v51 := Tryz.zeroValue223
  t53 := Tryz.underlying146
  a53 := Tryz.isAgg146
  z53 := Tryz.sizeOf146
  v53 := Tryz.zeroValue146
  t70 := Tryz.underlying183
  a70 := Tryz.isAgg183
  z70 := Tryz.sizeOf183
  v70 := Tryz.zeroValue183
  t72 := Tryz.underlying186
  a72 := Tryz.isAgg186
  z72 := Tryz.sizeOf186
  v72 := Tryz.zeroValue186
  t75 := Tryz.underlying188
  a75 := Tryz.isAgg188
  z75 := Tryz.sizeOf188
  v75 := Tryz.zeroValue188
  t76 := Tryz.underlying189
  a76 := Tryz.isAgg189
  z76 := Tryz.sizeOf189
  v76 := Tryz.zeroValue189
  t109 := Tryz.underlying240
  a109 := Tryz.isAgg240
  z109 := Tryz.sizeOf240
  v109 := Tryz.zeroValue240
  t127 := Tryz.underlying232
  a127 := Tryz.isAgg232
  z127 := Tryz.sizeOf232
  v127 := Tryz.zeroValue232
  t146 := Tryz.underlying277
  a146 := Tryz.isAgg277
  z146 := Tryz.sizeOf277
  v146 := Tryz.zeroValue277
  t148 := Tryz.underlying279
  a148 := Tryz.isAgg279
  z148 := Tryz.sizeOf279
  v148 := Tryz.zeroValue279
  t164 := Tryz.underlying261
  a164 := Tryz.isAgg261
  z164 := Tryz.sizeOf261
  v164 := Tryz.zeroValue261 }
def Tryz.lays171_ren : Go.Shelf.Ren := ⟨fun | 171 => 84 | 243 => 176 | 246 => 226 | 283 => 268 | 284 => 269 | 285 => 270 | 286 => 271 | 129 => 267 | 317 => 293 | 318 => 294 | 319 => 295 | 320 => 296 | 337 => 305 | 338 => 306 | n => n, fun | 3 => 3 | 9 => 9 | 2 => 2 | 4 => 4 | 171 => 273 | 0 => 0 | 53 => 146 | 37 => 184 | 5 => 5 | 173 => 275 | 212 => 294 | 51 => 223 | 20 => 20 | 213 => 295 | 46 => 163 | 232 => 305 | 233 => 306 | n => n, fun | 17 => 0 | 18 => 4 | 19 => 5 | n => n⟩
theorem Tryz.lays171 : Go.Proofs.Lays.n171 Tryz.prog Tryz.lays171_ren := {
  mixed := by kernel_rfl
  f129 := Tryz.func267.trans (congrArg some (by kernel_rfl))
  f171 := Tryz.func84.trans (congrArg some (by kernel_rfl))
  f243 := Tryz.func176.trans (congrArg some (by kernel_rfl))
  f246 := Tryz.func226.trans (congrArg some (by kernel_rfl))
  f283 := Tryz.func268.trans (congrArg some (by kernel_rfl))
  f284 := Tryz.func269.trans (congrArg some (by kernel_rfl))
  f285 := Tryz.func270.trans (congrArg some (by kernel_rfl))
  f286 := Tryz.func271.trans (congrArg some (by kernel_rfl))
  f317 := Tryz.func293.trans (congrArg some (by kernel_rfl))
  f318 := Tryz.func294.trans (congrArg some (by kernel_rfl))
  f319 := Tryz.func295.trans (congrArg some (by kernel_rfl))
  f320 := Tryz.func296.trans (congrArg some (by kernel_rfl))
  f337 := Tryz.func305.trans (congrArg some (by kernel_rfl))
  f338 := Tryz.func306.trans (congrArg some (by kernel_rfl))
  t0 := Tryz.underlying0
  a0 := Tryz.isAgg0
  z0 := Tryz.sizeOf0
  v0 := Tryz.zeroValue0
  t2 := Tryz.underlying2
  a2 := Tryz.isAgg2
  z2 := Tryz.sizeOf2
  v2 := Tryz.zeroValue2
  t3 := Tryz.underlying3
  a3 := Tryz.isAgg3
  z3 := Tryz.sizeOf3
  v3 := Tryz.zeroValue3
  t4 := Tryz.underlying4
  a4 := Tryz.isAgg4
  z4 := Tryz.sizeOf4
  v4 := Tryz.zeroValue4
  t5 := Tryz.underlying5
  a5 := Tryz.isAgg5
  z5 := Tryz.sizeOf5
  v5 := Tryz.zeroValue5
  t9 := Tryz.underlying9
  a9 := Tryz.isAgg9
  z9 := Tryz.sizeOf9
  v9 := Tryz.zeroValue9
  t20 := Tryz.underlying20
  a20 := Tryz.isAgg20
  z20 := Tryz.sizeOf20
  v20 := Tryz.zeroValue20
  t37 := Tryz.underlying184
  a37 := Tryz.isAgg184
  z37 := Tryz.sizeOf184
  v37 := Tryz.zeroValue184
  t46 := Tryz.underlying163
  a46 := Tryz.isAgg163
  z46 := Tryz.sizeOf163
  v46 := Tryz.zeroValue163
  t51 := Tryz.underlying223
  a51 := Tryz.isAgg223
  z51 := Tryz.sizeOf223
  v51 := Tryz.zeroValue223
  t53 := Tryz.underlying146
  a53 := Tryz.isAgg146
  z53 := Tryz.sizeOf146
  v53 := Tryz.zeroValue146
  t171 := Tryz.underlying273
  a171 := Tryz.isAgg273
  z171 := Tryz.sizeOf273
  v171 := Tryz.zeroValue273
  t173 := Tryz.underlying275
  a173 := Tryz.isAgg275
  z173 := Tryz.sizeOf275
  v173 := Tryz.zeroValue275
  t212 := Tryz.underlying294
  a212 := Tryz.isAgg294
  z212 := Tryz.sizeOf294
  v212 := Tryz.zeroValue294
  t213 := Tryz.underlying295
  a213 := Tryz.isAgg295
  z213 := Tryz.sizeOf295
  t232 := Tryz.underlying305
  a232 := Tryz.isAgg305
  z232 := Tryz.sizeOf305
  v232 := Tryz.zeroValue305
  t233 := Tryz.underlying306
  a233 := Tryz.isAgg306
  z233 := Tryz.sizeOf306
  v233 := Tryz.zeroValue306
  g17 := by kernel_rfl
  g18 := by kernel_rfl
  g19 := by kernel_rfl }
def Tryz.lays156_ren : Go.Shelf.Ren := ⟨fun | 156 => 160 | 165 => 219 | 166 => 159 | 169 => 162 | 240 => 218 | 241 => 251 | 276 => 250 | 277 => 282 | n => n, fun | 31 => 26 | 9 => 9 | 3 => 3 | 4 => 4 | 0 => 0 | 20 => 20 | 72 => 186 | 76 => 189 | 70 => 183 | 37 => 184 | 75 => 188 | 127 => 232 | 164 => 261 | 5 => 5 | 80 => 32 | n => n, fun | n => n⟩
theorem Tryz.lays156 : Go.Proofs.Lays.n156 Tryz.prog Tryz.lays156_ren := {
  mixed := by kernel_rfl
  f156 := Tryz.func160.trans (congrArg some (by kernel_rfl))
  f165 := Tryz.func219.trans (congrArg some (by kernel_rfl))
  f166 := Tryz.func159.trans (congrArg some (by kernel_rfl))
  f169 := Tryz.func162.trans (congrArg some (by kernel_rfl))
  f240 := Tryz.func218.trans (congrArg some (by kernel_rfl))
  f241 := Tryz.func251.trans (congrArg some (by kernel_rfl))
  f276 := Tryz.func250.trans (congrArg some (by kernel_rfl))
  f277 := Tryz.func282.trans (congrArg some (by kernel_rfl))
  t0 := Tryz.underlying0
  a0 := Tryz.isAgg0
  z0 := Tryz.sizeOf0
  v0 := Tryz.zeroValue0
  t3 := Tryz.underlying3
  a3 := Tryz.isAgg3
  z3 := Tryz.sizeOf3
  v3 := Tryz.zeroValue3
  t4 := Tryz.underlying4
  a4 := Tryz.isAgg4
  z4 := Tryz.sizeOf4
  v4 := Tryz.zeroValue4
  t9 := Tryz.underlying9
  a9 := Tryz.isAgg9
  z9 := Tryz.sizeOf9
  v9 := Tryz.zeroValue9
  t20 := Tryz.underlying20
  a20 := Tryz.isAgg20
  z20 := Tryz.sizeOf20
  v20 := Tryz.zeroValue20
  t31 := Tryz.underlying26
  a31 := Tryz.isAgg26
  z31 := Tryz.sizeOf26
  v31 := Tryz.zeroValue26
  t37 := Tryz.underlying184
  a37 := Tryz.isAgg184
  z37 := Tryz.sizeOf184
  v37 := Tryz.zeroValue184
  t70 := Tryz.underlying183
  a70 := Tryz.isAgg183
  z70 := Tryz.sizeOf183
  v70 := Tryz.zeroValue183
  t72 := Tryz.underlying186
  a72 := Tryz.isAgg186
  z72 := Tryz.sizeOf186
  v72 := Tryz.zeroValue186
  t75 := Tryz.underlying188
  a75 := Tryz.isAgg188
  z75 := Tryz.sizeOf188
  v75 := Tryz.zeroValue188
  t76 := Tryz.underlying189
  a76 := Tryz.isAgg189
  z76 := Tryz.sizeOf189
  v76 := Tryz.zeroValue189
  t127 := Tryz.underlying232
  a127 := Tryz.isAgg232
  z127 := Tryz.sizeOf232
  v127 := Tryz.zeroValue232
  t164 := Tryz.underlying261
  a164 := Tryz.isAgg261
  z164 := Tryz.sizeOf261
  v164 := Tryz.zeroValue261 }
def Tryz.lays190_ren : Go.Shelf.Ren := ⟨fun | 190 => 173 | 125 => 225 | 258 => 224 | 128 => 266 | 129 => 267 | 302 => 257 | 303 => 258 | 304 => 259 | 305 => 260 | 306 => 261 | 307 => 262 | 308 => 263 | 309 => 264 | 310 => 265 | 333 => 287 | 329 => 288 | 330 => 289 | 334 => 290 | 335 => 291 | 336 => 292 | 344 => 304 | n => n, fun | 31 => 26 | 9 => 9 | 3 => 3 | 46 => 163 | 0 => 0 | 51 => 223 | 53 => 146 | 4 => 4 | 183 => 268 | 182 => 267 | 131 => 177 | 5 => 5 | 218 => 288 | 222 => 292 | 228 => 297 | 229 => 100 | n => n, fun | n => n⟩
theorem Tryz.lays190 : Go.Proofs.Lays.n190 Tryz.prog Tryz.lays190_ren := {
  mixed := by kernel_rfl
  f125 := Tryz.func225.trans (congrArg some (by kernel_rfl))
  f128 := Tryz.func266.trans (congrArg some (by kernel_rfl))
  f129 := Tryz.func267.trans (congrArg some (by kernel_rfl))
  f190 := Tryz.func173.trans (congrArg some (by kernel_rfl))
  f258 := Tryz.func224.trans (congrArg some (by kernel_rfl))
  f302 := Tryz.func257.trans (congrArg some (by kernel_rfl))
  f303 := Tryz.func258.trans (congrArg some (by kernel_rfl))
  f304 := Tryz.func259.trans (congrArg some (by kernel_rfl))
  f305 := Tryz.func260.trans (congrArg some (by kernel_rfl))
  f306 := Tryz.func261.trans (congrArg some (by kernel_rfl))
  f307 := Tryz.func262.trans (congrArg some (by kernel_rfl))
  f308 := Tryz.func263.trans (congrArg some (by kernel_rfl))
  f309 := Tryz.func264.trans (congrArg some (by kernel_rfl))
  f310 := Tryz.func265.trans (congrArg some (by kernel_rfl))
  f329 := Tryz.func288.trans (congrArg some (by kernel_rfl))
  f330 := Tryz.func289.trans (congrArg some (by kernel_rfl))
  f333 := Tryz.func287.trans (congrArg some (by kernel_rfl))
  f334 := Tryz.func290.trans (congrArg some (by kernel_rfl))
  f335 := Tryz.func291.trans (congrArg some (by kernel_rfl))
  f336 := Tryz.func292.trans (congrArg some (by kernel_rfl))
  f344 := Tryz.func304.trans (congrArg some (by kernel_rfl))
  t0 := Tryz.underlying0
  a0 := Tryz.isAgg0
  z0 := Tryz.sizeOf0
  v0 := Tryz.zeroValue0
  t3 := Tryz.underlying3
  a3 := Tryz.isAgg3
  z3 := Tryz.sizeOf3
  v3 := Tryz.zeroValue3
  t4 := Tryz.underlying4
  a4 := Tryz.isAgg4
  z4 := Tryz.sizeOf4
  v4 := Tryz.zeroValue4
  t5 := Tryz.underlying5
  a5 := Tryz.isAgg5
  z5 := Tryz.sizeOf5
  v5 := Tryz.zeroValue5
  t9 := Tryz.underlying9
  a9 := Tryz.isAgg9
  z9 := Tryz.sizeOf9
  v9 := Tryz.zeroValue9
  t31 := Tryz.underlying26
  a31 := Tryz.isAgg26
  z31 := Tryz.sizeOf26
  v31 := Tryz.zeroValue26
  t46 := Tryz.underlying163
  a46 := Tryz.isAgg163
  z46 := Tryz.sizeOf163
  v46 := Tryz.zeroValue163
  t51 := Tryz.underlying223
  a51 := Tryz.isAgg223
  z51 := Tryz.sizeOf223
  v51 := Tryz.zeroValue223
  t53 := Tryz.underlying146
  a53 := Tryz.isAgg146
  z53 := Tryz.sizeOf146
  v53 := Tryz.zeroValue146
  t131 := Tryz.underlying177
  a131 := Tryz.isAgg177
  z131 := Tryz.sizeOf177
  v131 := Tryz.zeroValue177
  t182 := Tryz.underlying267
  a182 := Tryz.isAgg267
  z182 := Tryz.sizeOf267
  v182 := Tryz.zeroValue267
  t183 := Tryz.underlying268
  a183 := Tryz.isAgg268
  z183 := Tryz.sizeOf268
  v183 := Tryz.zeroValue268
  t218 := Tryz.underlying288
  a218 := Tryz.isAgg288
  z218 := Tryz.sizeOf288
  v218 := Tryz.zeroValue288
  t222 := Tryz.underlying292
  a222 := Tryz.isAgg292
  z222 := Tryz.sizeOf292
  v222 := Tryz.zeroValue292
  t228 := Tryz.underlying297
  a228 := Tryz.isAgg297
  z228 := Tryz.sizeOf297
  v228 := Tryz.zeroValue297
  t229 := Tryz.underlying100
  a229 := Tryz.isAgg100
  z229 := Tryz.sizeOf100
  v229 := Tryz.zeroValue100 }
end Go.Proofs
namespace Go.Proofs.YtpifoghhaohhaaaGreatDoor
open Go.RowKit Go.Shelf Go.Lib
theorem extra156 : Builder.Extra Tryz.prog Tryz.lays156_ren where
  sizeBuilder := by kernel_rfl
  liesBuilder := by kernel_rfl
  t5 := Tryz.underlying5
  a5 := Tryz.isAgg5
  z5 := Tryz.sizeOf5
  v5 := Tryz.zeroValue5
  infoByte := by kernel_rfl
  cellsByte := by kernel_rfl
  sizeByte := by kernel_rfl
  neB5 := by decide
theorem join_cc (nl : Bool) (l : List (List UInt8)) (sep : List UInt8) (nid : Nat) (hl : l.length ≤ 1000000) (hj : (Lib.join l sep).length ≤ 140737488355328) : ACall Tryz.prog 160 [.lit nl l.length [.s fun i => l.getD i []], .str sep] [] nid (.str (Lib.join l sep)) [] :=
  acall_lib nid Tryz.func160 (by kernel_rfl) (by kernel_rfl) (fun Y m w vs hvl hrep hG hY => by
    obtain ⟨v0, v1, rfl⟩ : ∃ v0 v1, vs = [v0, v1] := by
      match vs, hvl with
      | [a, b], _ => exact ⟨a, b, rfl⟩
    have r0 := hrep 0 _ _ rfl rfl
    have r1 := (hrep 1 _ _ rfl rfl).str_inv
    subst r1
    obtain ⟨A, cap, rfl, hle, hcells⟩ := r0.strs_inv
    have hf : Tryz.lays156_ren.f 156 = 160 := by kernel_rfl
    rcases Nat.eq_zero_or_pos l.length with h0 | h0
    · have hl0 : l = [] := List.eq_nil_of_length_eq_zero h0
      subst hl0
      have h := Any.strings_Join_none Tryz.lays156 extra156 A cap ⟨sep.toArray⟩ w
      rw [hf] at h
      exact h.mono fun e w' ⟨he, hw⟩ => ⟨_, he, .str, hw ▸ Below.refl _ _⟩
    · obtain ⟨b, o, rfl, hb, hc⟩ := hcells h0
      have hmap : (l.map fun s => (⟨s.toArray⟩ : ByteArray)).map (·.data.toList) = l := by
        rw [List.map_map]
        conv => rhs; rw [← List.map_id l]
        refine List.map_congr_left fun s _ => by simp
      have h := Any.strings_Join Tryz.lays156 extra156 b o cap (l.map fun s => ⟨s.toArray⟩) ⟨sep.toArray⟩ w (fun j x hx => by
        rw [List.getElem?_map] at hx
        rcases Nat.lt_or_ge j l.length with hj | hj
        · rw [List.getElem?_eq_getElem hj] at hx
          simp only [Option.map_some, Option.some.injEq] at hx
          subst hx
          have := hc j hj
          rw [List.getD_eq_getElem?_getD, List.getElem?_eq_getElem hj] at this
          exact this
        · rw [List.getElem?_eq_none hj] at hx; cases hx) hb (by rw [List.length_map]; omega) (by rw [List.length_map]; exact hle) (by rw [hmap]; simpa using hj)
      rw [hf, hmap, List.length_map] at h
      exact h.mono fun e w' ⟨he, hB⟩ => ⟨_, he, by simpa using Rep.str, hB⟩)
end Go.Proofs.YtpifoghhaohhaaaGreatDoor
namespace Go.Proofs.YtpifoghhaohhaaaGreatDoor
def a8 : AFn := ⟨86, [.t 2], .seq (.ops [⟨(some 2), none, .mv (.c (.bool false))⟩])
 (.seq (.ops [⟨(some 16), none, .mv (.t 0)⟩, ⟨(some 17), none, .build [(.lit true 0 []), (.int .i64 0)] [(0, 1, (.t 16))]⟩, ⟨(some 18), none, .box 25 (.t 17)⟩, ⟨(some 3), none, .mv (.t 18)⟩])
 (.seq (.ops [⟨(some 19), none, .mv (.t 3)⟩, ⟨(some 20), none, .call 42 [(.t 19), (.c (.int .i64 6)), (.c (.int .i64 4))]⟩, ⟨(some 4), none, .alloc 29 [(.lit true 0 []), (.lit true 0 [])]⟩, ⟨none, none, .store 2 (.t 4) (.t 20)⟩])
 (.seq (.ops [⟨(some 21), none, .mv (.t 3)⟩, ⟨(some 22), none, .load (some 2) (.t 4)⟩, ⟨(some 23), none, .call 46 [(.t 21), (.t 22)]⟩, ⟨(some 5), none, .mv (.t 23)⟩])
 (.seq (.seq (.ops [⟨(some 24), none, .load (some 2) (.t 4)⟩, ⟨(some 25), none, .mv (.t 5)⟩, ⟨(some 26), none, .call 47 [(.t 24), (.t 25)]⟩, ⟨(some 27), none, .bin 0 .neq (.t 26) (.c (.int .i64 0))⟩])
 (.cond (.t 27) (.seq (.ops [⟨(some 28), none, .call 43 []⟩, ⟨(some 2), none, .mv (.t 28)⟩])
 (.ret)) (.skip)))
 (.seq (.ops [⟨(some 30), none, .load (some 2) (.t 4)⟩, ⟨(some 31), none, .mv (.t 5)⟩, ⟨(some 32), none, .call 48 [(.t 30), (.t 31)]⟩, ⟨(some 29), none, .mv (.t 32)⟩, ⟨(some 33), none, .ext (.t 29) 0⟩, ⟨(some 34), none, .ext (.t 29) 1⟩, ⟨(some 35), none, .ext (.t 29) 2⟩, ⟨(some 6), none, .mv (.t 33)⟩, ⟨(some 7), none, .mv (.t 34)⟩, ⟨(some 8), none, .mv (.t 35)⟩])
 (.seq (.seq (.ops [⟨(some 36), none, .mv (.t 8)⟩, ⟨(some 37), none, .bin 0 .neq (.t 36) (.c (.int .i64 0))⟩, ⟨(some 38), none, .mv (.t 37)⟩, ⟨(some 39), (some (38, false)), .mv (.t 7)⟩, ⟨(some 40), (some (38, false)), .un .not (.t 39)⟩, ⟨(some 41), none, .pick (.t 38) (.c (.bool true)) (.t 40)⟩])
 (.cond (.t 41) (.seq (.ops [⟨(some 42), none, .mv (.t 8)⟩, ⟨(some 43), none, .bin 0 .eql (.t 42) (.c (.int .i64 0))⟩, ⟨(some 44), none, .mv (.t 43)⟩, ⟨(some 45), (some (44, true)), .mv (.t 6)⟩, ⟨(some 46), (some (44, true)), .len false (.t 45)⟩, ⟨(some 47), (some (44, true)), .bin 0 .eql (.t 46) (.c (.int .i64 0))⟩, ⟨(some 48), none, .pick (.t 44) (.t 47) (.c (.bool false))⟩, ⟨(some 49), none, .mv (.t 48)⟩, ⟨(some 50), (some (49, true)), .call 43 []⟩, ⟨(some 51), none, .pick (.t 49) (.t 50) (.c (.bool false))⟩, ⟨(some 2), none, .mv (.t 51)⟩])
 (.ret)) (.skip)))
 (.seq (.seq (.ops [⟨(some 52), none, .mv (.t 5)⟩, ⟨(some 53), none, .len false (.t 52)⟩, ⟨(some 54), none, .mv (.c (.int .i64 0))⟩])
 (.block 0 (.loop (.seq (.ops [⟨(some 55), none, .bin 0 .lss (.t 54) (.t 53)⟩])
 (.seq (.cond (.t 55) (.skip) (.exit 0))
 (.seq (.block 1 (.seq (.ops [⟨(some 56), none, .iadr 2 (.t 52) (.t 54)⟩, ⟨(some 57), none, .load (some 2) (.t 56)⟩, ⟨(some 10), none, .alloc 69 [(.int .i64 0), (.str [])]⟩, ⟨none, none, .store 2 (.t 10) (.t 57)⟩])
 (.seq (.ops [⟨(some 59), none, .load (some 2) (.t 4)⟩, ⟨(some 60), none, .fadr 0 (.t 10)⟩, ⟨(some 61), none, .load none (.t 60)⟩, ⟨(some 62), none, .bslice 3 1 1 [(.int .i64 0)] [(0, 1, (.t 61))]⟩, ⟨(some 63), none, .call 18 [(.t 59), (.t 62)]⟩, ⟨(some 58), none, .mv (.t 63)⟩, ⟨(some 64), none, .ext (.t 58) 0⟩, ⟨(some 65), none, .ext (.t 58) 1⟩, ⟨(some 66), none, .ext (.t 58) 2⟩, ⟨(some 11), none, .alloc 26 [(.lit true 0 [])]⟩, ⟨none, none, .store 1 (.t 11) (.t 64)⟩, ⟨(some 12), none, .mv (.t 65)⟩, ⟨(some 13), none, .mv (.t 66)⟩])
 (.seq (.seq (.ops [⟨(some 67), none, .mv (.t 13)⟩, ⟨(some 68), none, .bin 0 .neq (.t 67) (.c (.int .i64 0))⟩])
 (.cond (.t 68) (.seq (.ops [⟨(some 2), none, .mv (.c (.bool false))⟩])
 (.ret)) (.skip)))
 (.seq (.any [(⟨(some 69), none, .fadr 1 (.t 10)⟩, []), (⟨(some 70), none, .load none (.t 69)⟩, []), (⟨(some 71), none, .fadr 0 (.t 4)⟩, [0, 1]), (⟨(some 72), none, .load none (.t 71)⟩, [0, 1]), (⟨(some 73), none, .fadr 0 (.t 10)⟩, [0, 1, 2, 3]), (⟨(some 74), none, .load none (.t 73)⟩, [0, 1, 2, 3]), (⟨(some 75), none, .iadr 1 (.t 72) (.t 74)⟩, [0, 1]), (⟨(some 76), none, .load none (.t 75)⟩, [0, 1]), (⟨(some 77), none, .bin 1 .neq (.t 70) (.t 76)⟩, []), (⟨(some 14), none, .mv (.t 77)⟩, [])])
 (.seq (.ops [⟨(some 78), none, .mv (.t 6)⟩, ⟨(some 79), none, .mkfn 62 [(.t 11)]⟩, ⟨(some 80), none, .call 61 [(.t 78), (.t 79)]⟩, ⟨(some 15), none, .mv (.t 80)⟩])
 (.seq (.ops [⟨(some 81), none, .mv (.t 15)⟩, ⟨(some 82), none, .mv (.t 14)⟩, ⟨(some 83), none, .bin 2 .neq (.t 81) (.t 82)⟩])
 (.cond (.t 83) (.seq (.ops [⟨(some 2), none, .mv (.c (.bool false))⟩])
 (.ret)) (.skip)))))))))
 (.ops [⟨(some 84), none, .bin 0 .add (.t 54) (.c (.int .i64 1))⟩, ⟨(some 54), none, .mv (.t 84)⟩])))))))
 (.seq (.ops [⟨(some 85), none, .call 43 []⟩, ⟨(some 2), none, .mv (.t 85)⟩])
 (.ret)))))))))⟩
def a13 : AFn := ⟨132, [.t 2], .seq (.ops [⟨(some 2), none, .mv (.c (.bool false))⟩])
 (.seq (.ops [⟨(some 17), none, .mv (.t 0)⟩, ⟨(some 18), none, .build [(.lit true 0 []), (.int .i64 0)] [(0, 1, (.t 17))]⟩, ⟨(some 19), none, .box 25 (.t 18)⟩, ⟨(some 3), none, .mv (.t 19)⟩])
 (.seq (.ops [⟨(some 20), none, .mv (.t 3)⟩, ⟨(some 21), none, .call 42 [(.t 20), (.c (.int .i64 6)), (.c (.int .i64 4))]⟩, ⟨(some 4), none, .alloc 29 [(.lit true 0 []), (.lit true 0 [])]⟩, ⟨none, none, .store 2 (.t 4) (.t 21)⟩])
 (.seq (.ops [⟨(some 22), none, .mv (.t 3)⟩, ⟨(some 23), none, .fadr 0 (.t 4)⟩, ⟨(some 24), none, .load none (.t 23)⟩, ⟨(some 25), none, .len false (.t 24)⟩, ⟨(some 26), none, .call 74 [(.t 22), (.t 25)]⟩, ⟨(some 5), none, .mv (.t 26)⟩])
 (.seq (.ops [⟨(some 6), none, .mv (.c (.int .i64 1))⟩])
 (.seq (.seq (.ops [⟨(some 27), none, .mv (.t 5)⟩, ⟨(some 28), none, .len false (.t 27)⟩, ⟨(some 29), none, .bin 0 .add (.t 28) (.c (.int .i64 1))⟩, ⟨(some 30), none, .mv (.c (.int .i64 0))⟩])
 (.block 0 (.loop (.seq (.ops [⟨(some 31), none, .bin 0 .lss (.t 30) (.t 29)⟩])
 (.seq (.cond (.t 31) (.skip) (.exit 0))
 (.seq (.block 1 (.seq (.ops [⟨(some 32), none, .mv (.t 30)⟩, ⟨(some 7), none, .mv (.t 32)⟩])
 (.seq (.any [(⟨(some 34), none, .load (some 2) (.t 4)⟩, []), (⟨(some 35), none, .mv (.t 5)⟩, [0]), (⟨(some 36), none, .mv (.t 7)⟩, [0, 1]), (⟨(some 37), none, .slc 1 (.t 35) none (some (.t 36))⟩, [0]), (⟨(some 38), none, .call 19 [(.t 34), (.t 37)]⟩, []), (⟨(some 33), none, .mv (.t 38)⟩, []), (⟨(some 39), none, .ext (.t 33) 0⟩, []), (⟨(some 40), none, .ext (.t 33) 1⟩, [6]), (⟨(some 8), none, .mv (.t 39)⟩, [7]), (⟨(some 9), none, .mv (.t 40)⟩, [])])
 (.seq (.seq (.ops [⟨(some 41), none, .mv (.t 9)⟩, ⟨(some 42), none, .bin 0 .neq (.t 41) (.c (.int .i64 0))⟩, ⟨(some 43), none, .mv (.t 42)⟩, ⟨(some 44), (some (43, false)), .mv (.t 8)⟩, ⟨(some 45), (some (43, false)), .len false (.t 44)⟩, ⟨(some 46), (some (43, false)), .mv (.t 6)⟩, ⟨(some 47), (some (43, false)), .bin 0 .lss (.t 45) (.t 46)⟩, ⟨(some 48), none, .pick (.t 43) (.c (.bool true)) (.t 47)⟩])
 (.cond (.t 48) (.seq (.ops [⟨(some 2), none, .mv (.c (.bool false))⟩])
 (.ret)) (.skip)))
 (.seq (.ops [⟨(some 49), none, .mv (.t 8)⟩, ⟨(some 50), none, .len false (.t 49)⟩, ⟨(some 6), none, .mv (.t 50)⟩])
 (.seq (.ops [⟨(some 51), none, .mv (.t 8)⟩, ⟨(some 52), none, .call 76 [(.t 51)]⟩, ⟨(some 10), none, .mv (.t 52)⟩])
 (.seq (.ops [⟨(some 53), none, .mv (.t 10)⟩, ⟨(some 54), none, .len false (.t 53)⟩, ⟨(some 55), none, .fadr 1 (.t 4)⟩, ⟨(some 56), none, .load none (.t 55)⟩, ⟨(some 57), none, .len false (.t 56)⟩, ⟨(some 58), none, .bin 0 .add (.t 57) (.c (.int .i64 1))⟩, ⟨(some 59), none, .bin 0 .neq (.t 54) (.t 58)⟩, ⟨(some 60), none, .mv (.t 59)⟩, ⟨(some 61), (some (60, false)), .mv (.t 10)⟩, ⟨(some 62), (some (60, false)), .call 79 [(.t 61)]⟩, ⟨(some 63), (some (60, false)), .call 78 [(.t 62)]⟩, ⟨(some 64), (some (60, false)), .call 77 [(.t 63)]⟩, ⟨(some 65), (some (60, false)), .len false (.t 64)⟩, ⟨(some 66), (some (60, false)), .mv (.t 10)⟩, ⟨(some 67), (some (60, false)), .len false (.t 66)⟩, ⟨(some 68), (some (60, false)), .bin 0 .neq (.t 65) (.t 67)⟩, ⟨(some 69), none, .pick (.t 60) (.c (.bool true)) (.t 68)⟩])
 (.cond (.t 69) (.seq (.ops [⟨(some 2), none, .mv (.c (.bool false))⟩])
 (.ret)) (.skip)))))))))
 (.ops [⟨(some 70), none, .bin 0 .add (.t 30) (.c (.int .i64 1))⟩, ⟨(some 30), none, .mv (.t 70)⟩])))))))
 (.seq (.ops [⟨(some 72), none, .load (some 2) (.t 4)⟩, ⟨(some 73), none, .mv (.t 5)⟩, ⟨(some 74), none, .call 19 [(.t 72), (.t 73)]⟩, ⟨(some 71), none, .mv (.t 74)⟩, ⟨(some 75), none, .ext (.t 71) 0⟩, ⟨(some 76), none, .ext (.t 71) 1⟩, ⟨(some 11), none, .mv (.t 75)⟩, ⟨(some 12), none, .mv (.t 76)⟩])
 (.seq (.seq (.ops [⟨(some 77), none, .mv (.t 12)⟩, ⟨(some 78), none, .bin 0 .neq (.t 77) (.c (.int .i64 0))⟩, ⟨(some 79), none, .mv (.t 78)⟩, ⟨(some 80), (some (79, false)), .fadr 1 (.t 4)⟩, ⟨(some 81), (some (79, false)), .load none (.t 80)⟩, ⟨(some 82), (some (79, false)), .len false (.t 81)⟩, ⟨(some 83), (some (79, false)), .bin 0 .lss (.t 82) (.c (.int .i64 2))⟩, ⟨(some 84), none, .pick (.t 79) (.c (.bool true)) (.t 83)⟩])
 (.cond (.t 84) (.seq (.ops [⟨(some 85), none, .mv (.t 12)⟩, ⟨(some 86), none, .bin 0 .eql (.t 85) (.c (.int .i64 0))⟩, ⟨(some 87), none, .mv (.t 86)⟩, ⟨(some 88), (some (87, true)), .call 43 []⟩, ⟨(some 89), none, .pick (.t 87) (.t 88) (.c (.bool false))⟩, ⟨(some 2), none, .mv (.t 89)⟩])
 (.ret)) (.skip)))
 (.seq (.any [(⟨(some 90), none, .fadr 1 (.t 4)⟩, []), (⟨(some 91), none, .load none (.t 90)⟩, []), (⟨(some 92), none, .mv (.t 3)⟩, [0, 1]), (⟨(some 93), none, .fadr 1 (.t 4)⟩, [0, 1, 2]), (⟨(some 94), none, .load none (.t 93)⟩, [0, 1, 2]), (⟨(some 95), none, .len false (.t 94)⟩, [0, 1, 2]), (⟨(some 96), none, .call 35 [(.t 92), (.t 95)]⟩, [0, 1]), (⟨(some 97), none, .iadr 2 (.t 91) (.t 96)⟩, []), (⟨(some 98), none, .fadr 0 (.t 97)⟩, []), (⟨(some 99), none, .load none (.t 98)⟩, []), (⟨(some 100), none, .fadr 1 (.t 4)⟩, [0, 1, 2, 3, 4, 5, 6, 7, 8, 9]), (⟨(some 101), none, .load none (.t 100)⟩, [0, 1, 2, 3, 4, 5, 6, 7, 8, 9]), (⟨(some 102), none, .mv (.t 3)⟩, [0, 1, 2, 3, 4, 5, 6, 7, 8, 9, 10, 11]), (⟨(some 103), none, .fadr 1 (.t 4)⟩, [0, 1, 2, 3, 4, 5, 6, 7, 8, 9, 10, 11, 12]), (⟨(some 104), none, .load none (.t 103)⟩, [0, 1, 2, 3, 4, 5, 6, 7, 8, 9, 10, 11, 12]), (⟨(some 105), none, .len false (.t 104)⟩, [0, 1, 2, 3, 4, 5, 6, 7, 8, 9, 10, 11, 12]), (⟨(some 106), none, .call 35 [(.t 102), (.t 105)]⟩, [0, 1, 7, 8, 9, 10, 11]), (⟨(some 107), none, .iadr 2 (.t 101) (.t 106)⟩, [0, 1, 7, 8, 9]), (⟨(some 108), none, .fadr 0 (.t 107)⟩, [0, 1, 7, 8, 9]), (⟨(some 109), none, .load none (.t 108)⟩, [0, 1, 7, 8, 9]), (⟨(some 13), none, .alloc 9 [(.str [])]⟩, [0, 1, 2, 3, 4, 5, 6, 7, 8, 9, 10, 11, 12, 13, 14, 15, 16, 17, 18, 19]), (⟨(some 14), none, .alloc 9 [(.str [])]⟩, [0, 1, 2, 3, 4, 5, 6, 7, 8, 9, 10, 11, 12, 13, 14, 15, 16, 17, 18, 19, 20]), (⟨none, none, .store 1 (.t 13) (.t 99)⟩, [10, 11, 17, 18, 19]), (⟨none, none, .store 1 (.t 14) (.t 109)⟩, [])])
 (.seq (.ops [⟨(some 111), none, .load (some 2) (.t 4)⟩, ⟨(some 112), none, .load none (.t 13)⟩, ⟨(some 113), none, .load none (.t 14)⟩, ⟨(some 114), none, .call 21 [(.t 111), (.t 112), (.t 113)]⟩, ⟨(some 110), none, .mv (.t 114)⟩, ⟨(some 115), none, .ext (.t 110) 0⟩, ⟨(some 116), none, .ext (.t 110) 1⟩, ⟨(some 15), none, .mv (.t 115)⟩, ⟨(some 12), none, .mv (.t 116)⟩])
 (.seq (.ops [⟨(some 117), none, .mv (.t 11)⟩, ⟨(some 118), none, .mkfn 81 [(.t 13), (.t 14)]⟩, ⟨(some 119), none, .call 80 [(.t 117), (.t 118)]⟩, ⟨(some 16), none, .mv (.t 119)⟩])
 (.seq (.ops [⟨(some 120), none, .mv (.t 12)⟩, ⟨(some 121), none, .bin 0 .eql (.t 120) (.c (.int .i64 0))⟩, ⟨(some 122), none, .mv (.t 121)⟩, ⟨(some 123), (some (122, true)), .mv (.t 16)⟩, ⟨(some 124), (some (122, true)), .mv (.t 15)⟩, ⟨(some 125), (some (122, true)), .len false (.t 124)⟩, ⟨(some 126), (some (122, true)), .bin 0 .eql (.t 125) (.c (.int .i64 0))⟩, ⟨(some 127), (some (122, true)), .bin 2 .eql (.t 123) (.t 126)⟩, ⟨(some 128), none, .pick (.t 122) (.t 127) (.c (.bool false))⟩, ⟨(some 129), none, .mv (.t 128)⟩, ⟨(some 130), (some (129, true)), .call 43 []⟩, ⟨(some 131), none, .pick (.t 129) (.t 130) (.c (.bool false))⟩, ⟨(some 2), none, .mv (.t 131)⟩])
 (.ret))))))))))))⟩
theorem c13 : compF Go.Proofs.Tryz.prog 13 = some a13 := by kernel_rfl
def a14 : AFn := ⟨69, [.c 6 (some 2)], .seq (.ops [⟨(some 3), none, .box 23 (.t 0)⟩, ⟨(some 6), none, .alloc 29 [(.lit true 0 []), (.lit true 0 [])]⟩])
 (.seq (.ops [⟨(some 7), none, .alloc 29 [(.lit true 0 []), (.lit true 0 [])]⟩])
 (.seq (.ops [⟨(some 13), none, .mkfn 82 [(.t 3)]⟩, ⟨(some 8), none, .mv (.t 13)⟩])
 (.seq (.seq (.ops [⟨(some 14), none, .load none (.t 3)⟩, ⟨(some 15), none, .mv (.t 2)⟩, ⟨(some 16), none, .call 31 [(.t 14), (.c (.int .i64 1)), (.t 15)]⟩, ⟨(some 17), none, .mv (.c (.int .i64 0))⟩])
 (.block 0 (.loop (.seq (.ops [⟨(some 18), none, .bin 0 .lss (.t 17) (.t 16)⟩])
 (.seq (.cond (.t 18) (.skip) (.exit 0))
 (.seq (.block 1 (.any [(⟨(some 19), none, .fadr 0 (.t 7)⟩, []), (⟨(some 20), none, .load none (.t 19)⟩, []), (⟨(some 21), none, .mv (.t 8)⟩, [0, 1]), (⟨(some 22), none, .callv (.t 21) []⟩, [0, 1]), (⟨(some 23), none, .bslice 9 1 1 [(.str [])] [(0, 1, (.t 22))]⟩, [0, 1]), (⟨(some 24), none, .app 9 1 16 (.t 20) (.t 23)⟩, []), (⟨(some 25), none, .fadr 0 (.t 7)⟩, []), (⟨none, none, .store 1 (.t 25) (.t 24)⟩, [])]))
 (.ops [⟨(some 26), none, .bin 0 .add (.t 17) (.c (.int .i64 1))⟩, ⟨(some 17), none, .mv (.t 26)⟩])))))))
 (.seq (.seq (.ops [⟨(some 27), none, .load none (.t 3)⟩, ⟨(some 28), none, .mv (.t 1)⟩, ⟨(some 29), none, .call 31 [(.t 27), (.c (.int .i64 0)), (.t 28)]⟩, ⟨(some 30), none, .mv (.c (.int .i64 0))⟩])
 (.block 2 (.loop (.seq (.ops [⟨(some 31), none, .bin 0 .lss (.t 30) (.t 29)⟩])
 (.seq (.cond (.t 31) (.skip) (.exit 2))
 (.seq (.block 3 (.seq (.ops [⟨(some 32), none, .mv (.t 30)⟩, ⟨(some 9), none, .mv (.t 32)⟩])
 (.seq (.ops [⟨(some 33), none, .mv (.t 9)⟩, ⟨(some 34), none, .call 84 [(.t 33)]⟩, ⟨(some 35), none, .bin 1 .add (.c (.str [102])) (.t 34)⟩, ⟨(some 36), none, .build [(.str []), (.lit true 0 [])] [(0, 1, (.t 35))]⟩, ⟨(some 10), none, .alloc 67 [(.str []), (.lit true 0 [])]⟩, ⟨none, none, .store 2 (.t 10) (.t 36)⟩])
 (.seq (.seq (.ops [⟨(some 37), none, .fadr 0 (.t 7)⟩, ⟨(some 38), none, .load none (.t 37)⟩, ⟨(some 39), none, .len false (.t 38)⟩, ⟨(some 40), none, .mv (.c (.int .i64 0))⟩])
 (.block 4 (.loop (.seq (.ops [⟨(some 41), none, .bin 0 .lss (.t 40) (.t 39)⟩])
 (.seq (.cond (.t 41) (.skip) (.exit 4))
 (.seq (.block 5 (.seq (.ops [⟨(some 42), none, .iadr 1 (.t 38) (.t 40)⟩, ⟨(some 43), none, .load none (.t 42)⟩, ⟨(some 12), none, .mv (.t 43)⟩])
 (.any [(⟨(some 44), none, .fadr 1 (.t 10)⟩, []), (⟨(some 45), none, .load none (.t 44)⟩, []), (⟨(some 46), none, .load none (.t 3)⟩, [0, 1]), (⟨(some 47), none, .mv (.t 12)⟩, [0, 1, 2]), (⟨(some 48), none, .mv (.t 12)⟩, [0, 1, 2, 3]), (⟨(some 49), none, .mv (.t 8)⟩, [0, 1, 2, 3, 4]), (⟨(some 50), none, .callv (.t 49) []⟩, [0, 1, 2, 3, 4]), (⟨(some 51), none, .bslice 9 1 3 [(.str [])] [(0, 1, (.t 47)), (1, 1, (.t 48)), (2, 1, (.t 50))]⟩, [0, 1, 2]), (⟨(some 52), none, .call 83 [(.t 46), (.t 51)]⟩, [0, 1]), (⟨(some 53), none, .bslice 9 1 1 [(.str [])] [(0, 1, (.t 52))]⟩, [0, 1]), (⟨(some 54), none, .app 9 1 16 (.t 45) (.t 53)⟩, []), (⟨(some 55), none, .fadr 1 (.t 10)⟩, []), (⟨none, none, .store 1 (.t 55) (.t 54)⟩, [])])))
 (.ops [⟨(some 56), none, .bin 0 .add (.t 40) (.c (.int .i64 1))⟩, ⟨(some 40), none, .mv (.t 56)⟩])))))))
 (.ops [⟨(some 57), none, .fadr 1 (.t 7)⟩, ⟨(some 58), none, .load none (.t 57)⟩, ⟨(some 59), none, .load (some 2) (.t 10)⟩, ⟨(some 60), none, .bslice 67 2 1 [(.str []), (.lit true 0 [])] [(0, 2, (.t 59))]⟩, ⟨(some 61), none, .app 67 2 40 (.t 58) (.t 60)⟩, ⟨(some 62), none, .fadr 1 (.t 7)⟩, ⟨none, none, .store 1 (.t 62) (.t 61)⟩])))))
 (.ops [⟨(some 63), none, .bin 0 .add (.t 30) (.c (.int .i64 1))⟩, ⟨(some 30), none, .mv (.t 63)⟩])))))))
 (.seq (.seq (.ops [⟨(some 64), none, .load none (.t 3)⟩, ⟨(some 65), none, .call 44 [(.t 64), (.c (.int .i64 12))]⟩])
 (.cond (.t 65) (.ops [⟨(some 66), none, .load none (.t 3)⟩, ⟨(some 67), none, .call 85 [(.t 66), (.t 7)]⟩]) (.skip)))
 (.seq (.ops [⟨(some 68), none, .load (some 2) (.t 7)⟩, ⟨none, none, .store 2 (.t 6) (.t 68)⟩])
 (.ret)))))))⟩
theorem c14 : compF Go.Proofs.Tryz.prog 14 = some a14 := by kernel_rfl
def a17 : AFn := ⟨69, [.t 2], .seq (.ops [⟨(some 1), none, .box 29 (.t 0)⟩, ⟨(some 2), none, .mv (.c (.int .i64 0))⟩])
 (.seq (.ops [⟨(some 3), none, .mv (.c (.fn 86 []))⟩])
 (.seq (.block 0 (.seq (.ops [⟨(some 7), none, .fadr 0 (.t 1)⟩, ⟨(some 8), none, .load none (.t 7)⟩, ⟨(some 9), none, .len false (.t 8)⟩, ⟨(some 10), none, .bin 0 .eql (.t 9) (.c (.int .i64 0))⟩, ⟨(some 6), none, .mv (.t 10)⟩])
 (.cond (.t 6) (.seq (.ops [⟨(some 2), none, .mv (.c (.int .i64 8))⟩])
 (.ret)) (.seq (.ops [⟨(some 12), none, .fadr 0 (.t 1)⟩, ⟨(some 13), none, .load none (.t 12)⟩, ⟨(some 14), none, .len false (.t 13)⟩, ⟨(some 15), none, .bin 0 .gtr (.t 14) (.c (.int .i64 100))⟩, ⟨(some 16), none, .mv (.t 15)⟩, ⟨(some 17), (some (16, false)), .fadr 1 (.t 1)⟩, ⟨(some 18), (some (16, false)), .load none (.t 17)⟩, ⟨(some 19), (some (16, false)), .len false (.t 18)⟩, ⟨(some 20), (some (16, false)), .bin 0 .gtr (.t 19) (.c (.int .i64 300))⟩, ⟨(some 21), none, .pick (.t 16) (.c (.bool true)) (.t 20)⟩, ⟨(some 11), none, .mv (.t 21)⟩])
 (.cond (.t 11) (.seq (.ops [⟨(some 2), none, .mv (.c (.int .i64 2))⟩])
 (.ret)) (.seq (.ops [⟨(some 23), none, .fadr 0 (.t 1)⟩, ⟨(some 24), none, .load none (.t 23)⟩, ⟨(some 25), none, .mv (.t 3)⟩, ⟨(some 26), none, .call 61 [(.t 24), (.t 25)]⟩, ⟨(some 22), none, .mv (.t 26)⟩])
 (.cond (.t 22) (.seq (.ops [⟨(some 2), none, .mv (.c (.int .i64 9))⟩])
 (.ret)) (.skip))))))))
 (.seq (.seq (.ops [⟨(some 27), none, .fadr 1 (.t 1)⟩, ⟨(some 28), none, .load none (.t 27)⟩, ⟨(some 29), none, .len false (.t 28)⟩, ⟨(some 30), none, .mv (.c (.int .i64 0))⟩])
 (.block 1 (.loop (.seq (.ops [⟨(some 31), none, .bin 0 .lss (.t 30) (.t 29)⟩])
 (.seq (.cond (.t 31) (.skip) (.exit 1))
 (.seq (.block 2 (.seq (.ops [⟨(some 32), none, .mv (.t 30)⟩, ⟨(some 33), none, .iadr 2 (.t 28) (.t 30)⟩, ⟨(some 34), none, .load (some 2) (.t 33)⟩, ⟨(some 5), none, .alloc 67 [(.str []), (.lit true 0 [])]⟩, ⟨(some 4), none, .mv (.t 32)⟩, ⟨none, none, .store 2 (.t 5) (.t 34)⟩])
 (.block 3 (.seq (.ops [⟨(some 36), none, .fadr 0 (.t 5)⟩, ⟨(some 37), none, .load none (.t 36)⟩, ⟨(some 38), none, .call 88 [(.t 37)]⟩, ⟨(some 39), none, .un .not (.t 38)⟩, ⟨(some 35), none, .mv (.t 39)⟩])
 (.cond (.t 35) (.seq (.ops [⟨(some 2), none, .mv (.c (.int .i64 5))⟩])
 (.ret)) (.seq (.ops [⟨(some 41), none, .fadr 1 (.t 5)⟩, ⟨(some 42), none, .load none (.t 41)⟩, ⟨(some 43), none, .len false (.t 42)⟩, ⟨(some 44), none, .fadr 0 (.t 1)⟩, ⟨(some 45), none, .load none (.t 44)⟩, ⟨(some 46), none, .len false (.t 45)⟩, ⟨(some 47), none, .bin 0 .neq (.t 43) (.t 46)⟩, ⟨(some 40), none, .mv (.t 47)⟩])
 (.cond (.t 40) (.seq (.ops [⟨(some 2), none, .mv (.c (.int .i64 3))⟩])
 (.ret)) (.seq (.ops [⟨(some 49), none, .fadr 1 (.t 5)⟩, ⟨(some 50), none, .load none (.t 49)⟩, ⟨(some 51), none, .mv (.t 3)⟩, ⟨(some 52), none, .call 61 [(.t 50), (.t 51)]⟩, ⟨(some 48), none, .mv (.t 52)⟩])
 (.cond (.t 48) (.seq (.ops [⟨(some 2), none, .mv (.c (.int .i64 9))⟩])
 (.ret)) (.seq (.any [(⟨(some 54), none, .mv (.t 4)⟩, []), (⟨(some 55), none, .bin 0 .gtr (.t 54) (.c (.int .i64 0))⟩, []), (⟨(some 56), none, .mv (.t 55)⟩, []), (⟨(some 57), (some (56, true)), .fadr 0 (.t 5)⟩, []), (⟨(some 58), (some (56, true)), .load none (.t 57)⟩, []), (⟨(some 59), (some (56, true)), .fadr 1 (.t 1)⟩, [3, 4]), (⟨(some 60), (some (56, true)), .load none (.t 59)⟩, [3, 4]), (⟨(some 61), (some (56, true)), .mv (.t 4)⟩, [3, 4, 5, 6]), (⟨(some 62), (some (56, true)), .bin 0 .sub (.t 61) (.c (.int .i64 1))⟩, [3, 4, 5, 6]), (⟨(some 63), (some (56, true)), .iadr 2 (.t 60) (.t 62)⟩, [3, 4]), (⟨(some 64), (some (56, true)), .fadr 0 (.t 63)⟩, [3, 4]), (⟨(some 65), (some (56, true)), .load none (.t 64)⟩, [3, 4]), (⟨(some 66), (some (56, true)), .bin 1 .leq (.t 58) (.t 65)⟩, []), (⟨(some 67), none, .pick (.t 56) (.t 66) (.c (.bool false))⟩, []), (⟨(some 53), none, .mv (.t 67)⟩, [])])
 (.cond (.t 53) (.seq (.ops [⟨(some 2), none, .mv (.c (.int .i64 7))⟩])
 (.ret)) (.skip))))))))))))
 (.ops [⟨(some 68), none, .bin 0 .add (.t 30) (.c (.int .i64 1))⟩, ⟨(some 30), none, .mv (.t 68)⟩])))))))
 (.seq (.ops [⟨(some 2), none, .mv (.c (.int .i64 0))⟩])
 (.ret)))))⟩
theorem c17 : compF Go.Proofs.Tryz.prog 17 = some a17 := by kernel_rfl
def a19 : AFn := ⟨16, [.t 4, .t 5], .seq (.ops [⟨(some 2), none, .box 29 (.t 0)⟩, ⟨(some 4), none, .mv (.c (.lit true 0 []))⟩, ⟨(some 5), none, .mv (.c (.int .i64 0))⟩])
 (.seq (.seq (.ops [⟨(some 7), none, .load (some 2) (.t 2)⟩, ⟨(some 8), none, .mv (.t 1)⟩, ⟨(some 9), none, .call 89 [(.t 7), (.t 8)]⟩, ⟨(some 6), none, .mv (.t 9)⟩])
 (.seq (.ops [⟨(some 10), none, .mv (.t 6)⟩, ⟨(some 11), none, .bin 0 .neq (.t 10) (.c (.int .i64 0))⟩])
 (.cond (.t 11) (.seq (.ops [⟨(some 12), none, .mv (.t 6)⟩, ⟨(some 4), none, .mv (.c (.lit true 0 []))⟩, ⟨(some 5), none, .mv (.t 12)⟩])
 (.ret)) (.skip))))
 (.seq (.ops [⟨(some 13), none, .load (some 2) (.t 2)⟩, ⟨(some 14), none, .mv (.t 1)⟩, ⟨(some 15), none, .call 93 [(.t 13), (.t 14)]⟩, ⟨(some 4), none, .mv (.t 15)⟩, ⟨(some 5), none, .mv (.c (.int .i64 0))⟩])
 (.ret)))⟩
theorem c19 : compF Go.Proofs.Tryz.prog 19 = some a19 := by kernel_rfl
def a20 : AFn := ⟨29, [.c 4 (some 2), .t 5, .t 6], .seq (.ops [⟨(some 2), none, .box 29 (.t 0)⟩, ⟨(some 4), none, .alloc 41 [(.int .i64 0), (.int .i64 0)]⟩, ⟨(some 5), none, .mv (.c (.bool false))⟩, ⟨(some 6), none, .mv (.c (.int .i64 0))⟩])
 (.seq (.seq (.ops [⟨(some 8), none, .load (some 2) (.t 2)⟩, ⟨(some 9), none, .mv (.t 1)⟩, ⟨(some 10), none, .call 89 [(.t 8), (.t 9)]⟩, ⟨(some 7), none, .mv (.t 10)⟩])
 (.seq (.ops [⟨(some 11), none, .mv (.t 7)⟩, ⟨(some 12), none, .bin 0 .neq (.t 11) (.c (.int .i64 0))⟩])
 (.cond (.t 12) (.seq (.ops [⟨(some 13), none, .build [(.int .i64 0), (.int .i64 0)] []⟩, ⟨(some 14), none, .mv (.t 7)⟩, ⟨none, none, .store 2 (.t 4) (.t 13)⟩, ⟨(some 5), none, .mv (.c (.bool false))⟩, ⟨(some 6), none, .mv (.t 14)⟩])
 (.ret)) (.skip))))
 (.seq (.seq (.ops [⟨(some 15), none, .fadr 1 (.t 2)⟩, ⟨(some 16), none, .load none (.t 15)⟩, ⟨(some 17), none, .len false (.t 16)⟩, ⟨(some 18), none, .bin 0 .eql (.t 17) (.c (.int .i64 0))⟩])
 (.cond (.t 18) (.seq (.ops [⟨(some 19), none, .build [(.int .i64 0), (.int .i64 0)] []⟩, ⟨none, none, .store 2 (.t 4) (.t 19)⟩, ⟨(some 5), none, .mv (.c (.bool false))⟩, ⟨(some 6), none, .mv (.c (.int .i64 0))⟩])
 (.ret)) (.skip)))
 (.seq (.any [(⟨(some 20), none, .load (some 2) (.t 2)⟩, []), (⟨(some 21), none, .mv (.t 1)⟩, [0]), (⟨(some 22), none, .call 93 [(.t 20), (.t 21)]⟩, []), (⟨(some 23), none, .len false (.t 22)⟩, []), (⟨(some 24), none, .bin 0 .sub (.t 23) (.c (.int .i64 1))⟩, []), (⟨(some 25), none, .fadr 1 (.t 2)⟩, [0, 1, 2, 3, 4]), (⟨(some 26), none, .load none (.t 25)⟩, [0, 1, 2, 3, 4]), (⟨(some 27), none, .len false (.t 26)⟩, [0, 1, 2, 3, 4]), (⟨(some 28), none, .call 94 [(.t 24), (.t 27)]⟩, []), (⟨none, none, .store 2 (.t 4) (.t 28)⟩, []), (⟨(some 5), none, .mv (.c (.bool true))⟩, []), (⟨(some 6), none, .mv (.c (.int .i64 0))⟩, [])])
 (.ret))))⟩
def a21 : AFn := ⟨50, [.t 6, .t 7], .seq (.ops [⟨(some 3), none, .box 29 (.t 0)⟩, ⟨(some 6), none, .mv (.c (.lit true 0 []))⟩, ⟨(some 7), none, .mv (.c (.int .i64 0))⟩])
 (.seq (.seq (.ops [⟨(some 13), none, .load (some 2) (.t 3)⟩, ⟨(some 14), none, .call 63 [(.t 13)]⟩, ⟨(some 8), none, .mv (.t 14)⟩])
 (.seq (.ops [⟨(some 15), none, .mv (.t 8)⟩, ⟨(some 16), none, .bin 0 .neq (.t 15) (.c (.int .i64 0))⟩])
 (.cond (.t 16) (.seq (.ops [⟨(some 17), none, .mv (.t 8)⟩, ⟨(some 6), none, .mv (.c (.lit true 0 []))⟩, ⟨(some 7), none, .mv (.t 17)⟩])
 (.ret)) (.skip))))
 (.seq (.any [(⟨(some 18), none, .load (some 2) (.t 3)⟩, []), (⟨(some 19), none, .mv (.t 1)⟩, [0]), (⟨(some 20), none, .call 95 [(.t 18), (.t 19)]⟩, []), (⟨(some 21), none, .load (some 2) (.t 3)⟩, [0, 1, 2]), (⟨(some 22), none, .mv (.t 2)⟩, [0, 1, 2, 3]), (⟨(some 23), none, .call 95 [(.t 21), (.t 22)]⟩, []), (⟨(some 9), none, .mv (.t 20)⟩, []), (⟨(some 10), none, .mv (.t 23)⟩, [])])
 (.seq (.seq (.ops [⟨(some 24), none, .mv (.t 9)⟩, ⟨(some 25), none, .bin 3 .eql (.t 24) (.c (.lit true 0 []))⟩, ⟨(some 26), none, .mv (.t 25)⟩, ⟨(some 27), (some (26, false)), .mv (.t 10)⟩, ⟨(some 28), (some (26, false)), .bin 3 .eql (.t 27) (.c (.lit true 0 []))⟩, ⟨(some 29), none, .pick (.t 26) (.c (.bool true)) (.t 28)⟩])
 (.cond (.t 29) (.seq (.ops [⟨(some 6), none, .mv (.c (.lit true 0 []))⟩, ⟨(some 7), none, .mv (.c (.int .i64 8))⟩])
 (.ret)) (.skip)))
 (.seq (.ops [⟨(some 11), none, .mv (.c (.lit true 0 []))⟩])
 (.seq (.seq (.ops [⟨(some 30), none, .mv (.t 9)⟩, ⟨(some 31), none, .len false (.t 30)⟩, ⟨(some 32), none, .mv (.c (.int .i64 0))⟩])
 (.block 0 (.loop (.seq (.ops [⟨(some 33), none, .bin 0 .lss (.t 32) (.t 31)⟩])
 (.seq (.cond (.t 33) (.skip) (.exit 0))
 (.seq (.block 1 (.seq (.ops [⟨(some 34), none, .mv (.t 32)⟩, ⟨(some 12), none, .mv (.t 34)⟩])
 (.seq (.any [(⟨(some 35), none, .mv (.t 9)⟩, []), (⟨(some 36), none, .mv (.t 12)⟩, [0]), (⟨(some 37), none, .iadr 1 (.t 35) (.t 36)⟩, []), (⟨(some 38), none, .load none (.t 37)⟩, []), (⟨(some 39), none, .mv (.t 10)⟩, [0, 1, 2, 3]), (⟨(some 40), none, .mv (.t 12)⟩, [0, 1, 2, 3, 4]), (⟨(some 41), none, .iadr 1 (.t 39) (.t 40)⟩, [0, 1, 2, 3]), (⟨(some 42), none, .load none (.t 41)⟩, [0, 1, 2, 3]), (⟨(some 43), none, .bin 1 .neq (.t 38) (.t 42)⟩, [])])
 (.cond (.t 43) (.ops [⟨(some 44), none, .mv (.t 11)⟩, ⟨(some 45), none, .mv (.t 12)⟩, ⟨(some 46), none, .bslice 3 1 1 [(.int .i64 0)] [(0, 1, (.t 45))]⟩, ⟨(some 47), none, .app 3 1 8 (.t 44) (.t 46)⟩, ⟨(some 11), none, .mv (.t 47)⟩]) (.skip)))))
 (.ops [⟨(some 48), none, .bin 0 .add (.t 32) (.c (.int .i64 1))⟩, ⟨(some 32), none, .mv (.t 48)⟩])))))))
 (.seq (.ops [⟨(some 49), none, .mv (.t 11)⟩, ⟨(some 6), none, .mv (.t 49)⟩, ⟨(some 7), none, .mv (.c (.int .i64 0))⟩])
 (.ret)))))))⟩
theorem c21 : compF Go.Proofs.Tryz.prog 21 = some a21 := by kernel_rfl
def a22 : AFn := ⟨49, [.t 6, .t 7], .seq (.ops [⟨(some 3), none, .box 29 (.t 0)⟩, ⟨(some 6), none, .mv (.c (.lit true 0 []))⟩, ⟨(some 7), none, .mv (.c (.int .i64 0))⟩])
 (.seq (.ops [⟨(some 15), none, .load (some 2) (.t 3)⟩, ⟨(some 16), none, .mv (.t 1)⟩, ⟨(some 17), none, .call 96 [(.t 15), (.t 16)]⟩, ⟨(some 14), none, .mv (.t 17)⟩, ⟨(some 18), none, .ext (.t 14) 0⟩, ⟨(some 19), none, .ext (.t 14) 1⟩, ⟨(some 8), none, .alloc 67 [(.str []), (.lit true 0 [])]⟩, ⟨none, none, .store 2 (.t 8) (.t 18)⟩, ⟨(some 9), none, .mv (.t 19)⟩])
 (.seq (.ops [⟨(some 21), none, .load (some 2) (.t 3)⟩, ⟨(some 22), none, .mv (.t 2)⟩, ⟨(some 23), none, .call 96 [(.t 21), (.t 22)]⟩, ⟨(some 20), none, .mv (.t 23)⟩, ⟨(some 24), none, .ext (.t 20) 0⟩, ⟨(some 25), none, .ext (.t 20) 1⟩, ⟨(some 10), none, .alloc 67 [(.str []), (.lit true 0 [])]⟩, ⟨none, none, .store 2 (.t 10) (.t 24)⟩, ⟨(some 11), none, .mv (.t 25)⟩])
 (.seq (.seq (.ops [⟨(some 26), none, .mv (.t 9)⟩, ⟨(some 27), none, .un .not (.t 26)⟩, ⟨(some 28), none, .mv (.t 27)⟩, ⟨(some 29), (some (28, false)), .mv (.t 11)⟩, ⟨(some 30), (some (28, false)), .un .not (.t 29)⟩, ⟨(some 31), none, .pick (.t 28) (.c (.bool true)) (.t 30)⟩])
 (.cond (.t 31) (.seq (.ops [⟨(some 6), none, .mv (.c (.lit true 0 []))⟩, ⟨(some 7), none, .mv (.c (.int .i64 8))⟩])
 (.ret)) (.skip)))
 (.seq (.ops [⟨(some 12), none, .mv (.c (.lit true 0 []))⟩])
 (.seq (.seq (.ops [⟨(some 32), none, .fadr 0 (.t 3)⟩, ⟨(some 33), none, .load none (.t 32)⟩, ⟨(some 34), none, .len false (.t 33)⟩, ⟨(some 35), none, .mv (.c (.int .i64 0))⟩])
 (.block 0 (.loop (.seq (.ops [⟨(some 36), none, .bin 0 .lss (.t 35) (.t 34)⟩])
 (.seq (.cond (.t 36) (.skip) (.exit 0))
 (.seq (.block 1 (.seq (.ops [⟨(some 37), none, .mv (.t 35)⟩, ⟨(some 13), none, .mv (.t 37)⟩])
 (.seq (.ops [⟨(some 38), none, .load (some 2) (.t 8)⟩, ⟨(some 39), none, .load (some 2) (.t 10)⟩, ⟨(some 40), none, .mv (.t 13)⟩, ⟨(some 41), none, .bslice 3 1 1 [(.int .i64 0)] [(0, 1, (.t 40))]⟩, ⟨(some 42), none, .call 97 [(.t 38), (.t 39), (.t 41)]⟩])
 (.cond (.t 42) (.ops [⟨(some 43), none, .mv (.t 12)⟩, ⟨(some 44), none, .mv (.t 13)⟩, ⟨(some 45), none, .bslice 3 1 1 [(.int .i64 0)] [(0, 1, (.t 44))]⟩, ⟨(some 46), none, .app 3 1 8 (.t 43) (.t 45)⟩, ⟨(some 12), none, .mv (.t 46)⟩]) (.skip)))))
 (.ops [⟨(some 47), none, .bin 0 .add (.t 35) (.c (.int .i64 1))⟩, ⟨(some 35), none, .mv (.t 47)⟩])))))))
 (.seq (.ops [⟨(some 48), none, .mv (.t 12)⟩, ⟨(some 6), none, .mv (.t 48)⟩, ⟨(some 7), none, .mv (.c (.int .i64 0))⟩])
 (.ret)))))))⟩
def a31 : AFn := ⟨19, [.t 6], .seq (.ops [⟨(some 6), none, .mv (.c (.int .i64 0))⟩])
 (.seq (.seq (.ops [⟨(some 7), none, .mv (.t 2)⟩, ⟨(some 8), none, .mv (.t 1)⟩, ⟨(some 9), none, .bin 0 .lss (.t 7) (.t 8)⟩])
 (.cond (.t 9) (.seq (.ops [⟨(some 10), none, .mv (.t 1)⟩, ⟨(some 6), none, .mv (.t 10)⟩])
 (.ret)) (.skip)))
 (.seq (.ops [⟨(some 11), none, .mv (.t 1)⟩, ⟨(some 12), none, .mv (.t 0)⟩, ⟨(some 13), none, .mv (.t 2)⟩, ⟨(some 14), none, .mv (.t 1)⟩, ⟨(some 15), none, .bin 0 .sub (.t 13) (.t 14)⟩, ⟨(some 16), none, .bin 0 .add (.t 15) (.c (.int .i64 1))⟩, ⟨(some 17), none, .call 35 [(.t 12), (.t 16)]⟩, ⟨(some 18), none, .bin 0 .add (.t 11) (.t 17)⟩, ⟨(some 6), none, .mv (.t 18)⟩])
 (.ret)))⟩
theorem c31 : compF Go.Proofs.Tryz.prog 31 = some a31 := by kernel_rfl
def a35 : AFn := ⟨64, [.t 4], .seq (.ops [⟨(some 4), none, .mv (.c (.int .i64 0))⟩])
 (.seq (.ops [⟨(some 7), none, .mv (.t 0)⟩, ⟨(some 8), none, .nilchk (.t 7)⟩, ⟨(some 9), none, .fadr 1 (.t 8)⟩, ⟨(some 10), none, .load none (.t 9)⟩, ⟨(some 11), none, .bin 0 .add (.t 10) (.c (.int .i64 1))⟩, ⟨(some 12), none, .nilchk (.t 7)⟩, ⟨(some 13), none, .fadr 1 (.t 12)⟩, ⟨none, none, .store 1 (.t 13) (.t 11)⟩])
 (.seq (.seq (.ops [⟨(some 14), none, .mv (.t 0)⟩, ⟨(some 15), none, .nilchk (.t 14)⟩, ⟨(some 16), none, .fadr 0 (.t 15)⟩, ⟨(some 17), none, .load none (.t 16)⟩, ⟨(some 18), none, .len false (.t 17)⟩, ⟨(some 19), none, .bin 0 .eql (.t 18) (.c (.int .i64 0))⟩])
 (.cond (.t 19) (.seq (.ops [⟨(some 20), none, .mv (.t 0)⟩, ⟨(some 21), none, .nilchk (.t 20)⟩, ⟨(some 22), none, .fadr 1 (.t 21)⟩, ⟨(some 23), none, .load none (.t 22)⟩, ⟨(some 24), none, .bin 0 .mul (.t 23) (.c (.int .i64 7919))⟩, ⟨(some 25), none, .mv (.t 1)⟩, ⟨(some 26), none, .call 110 [(.t 24), (.t 25)]⟩, ⟨(some 4), none, .mv (.t 26)⟩])
 (.ret)) (.skip)))
 (.seq (.any [(⟨(some 27), none, .mv (.t 0)⟩, []), (⟨(some 28), none, .nilchk (.t 27)⟩, []), (⟨(some 29), none, .fadr 1 (.t 28)⟩, []), (⟨(some 30), none, .load none (.t 29)⟩, []), (⟨(some 31), none, .bin 0 .sub (.t 30) (.c (.int .i64 1))⟩, []), (⟨(some 32), none, .mv (.t 0)⟩, [0, 1, 2, 3, 4]), (⟨(some 33), none, .nilchk (.t 32)⟩, [0, 1, 2, 3, 4]), (⟨(some 34), none, .fadr 0 (.t 33)⟩, [0, 1, 2, 3, 4]), (⟨(some 35), none, .load none (.t 34)⟩, [0, 1, 2, 3, 4]), (⟨(some 36), none, .len false (.t 35)⟩, [0, 1, 2, 3, 4]), (⟨(some 37), none, .bin 0 .rem (.t 31) (.t 36)⟩, []), (⟨(some 5), none, .mv (.t 37)⟩, [])])
 (.seq (.any [(⟨(some 38), none, .mv (.t 0)⟩, []), (⟨(some 39), none, .nilchk (.t 38)⟩, []), (⟨(some 40), none, .fadr 1 (.t 39)⟩, []), (⟨(some 41), none, .load none (.t 40)⟩, []), (⟨(some 42), none, .bin 0 .sub (.t 41) (.c (.int .i64 1))⟩, []), (⟨(some 43), none, .mv (.t 0)⟩, [0, 1, 2, 3, 4]), (⟨(some 44), none, .nilchk (.t 43)⟩, [0, 1, 2, 3, 4]), (⟨(some 45), none, .fadr 0 (.t 44)⟩, [0, 1, 2, 3, 4]), (⟨(some 46), none, .load none (.t 45)⟩, [0, 1, 2, 3, 4]), (⟨(some 47), none, .len false (.t 46)⟩, [0, 1, 2, 3, 4]), (⟨(some 48), none, .bin 0 .quo (.t 42) (.t 47)⟩, []), (⟨(some 6), none, .mv (.t 48)⟩, [])])
 (.seq (.ops [⟨(some 49), none, .mv (.t 0)⟩, ⟨(some 50), none, .nilchk (.t 49)⟩, ⟨(some 51), none, .fadr 0 (.t 50)⟩, ⟨(some 52), none, .load none (.t 51)⟩, ⟨(some 53), none, .mv (.t 5)⟩, ⟨(some 54), none, .iadr 1 (.t 52) (.t 53)⟩, ⟨(some 55), none, .load none (.t 54)⟩, ⟨(some 56), none, .call 110 [(.t 55), (.c (.int .i64 1073741824))]⟩, ⟨(some 57), none, .mv (.t 6)⟩, ⟨(some 58), none, .mv (.t 5)⟩, ⟨(some 59), none, .bin 0 .add (.c (.int .i64 7919)) (.t 58)⟩, ⟨(some 60), none, .bin 0 .mul (.t 57) (.t 59)⟩, ⟨(some 61), none, .bin 0 .add (.t 56) (.t 60)⟩, ⟨(some 62), none, .mv (.t 1)⟩, ⟨(some 63), none, .call 110 [(.t 61), (.t 62)]⟩, ⟨(some 4), none, .mv (.t 63)⟩])
 (.ret))))))⟩
theorem c35 : compF Go.Proofs.Tryz.prog 35 = some a35 := by kernel_rfl
def a38 : AFn := ⟨9, [.t 4], .seq (.ops [⟨(some 4), none, .mv (.c (.bool false))⟩])
 (.seq (.ops [⟨(some 5), none, .mv (.t 0)⟩, ⟨(some 6), none, .mv (.t 1)⟩, ⟨(some 7), none, .call 115 [(.t 5), (.t 6)]⟩, ⟨(some 8), none, .bin 0 .geq (.t 7) (.c (.int .i64 0))⟩, ⟨(some 4), none, .mv (.t 8)⟩])
 (.ret))⟩
theorem c38 : compF Go.Proofs.Tryz.prog 38 = some a38 := by kernel_rfl
def a42 : AFn := ⟨21, [.c 6 (some 2)], .seq (.ops [⟨(some 6), none, .alloc 29 [(.lit true 0 []), (.lit true 0 [])]⟩])
 (.seq (.seq (.ops [⟨(some 8), none, .mv (.c (.int .i64 0))⟩])
 (.block 0 (.loop (.seq (.ops [⟨(some 9), none, .bin 0 .lss (.t 8) (.c (.int .i64 6))⟩])
 (.seq (.cond (.t 9) (.skip) (.exit 0))
 (.seq (.block 1 (.seq (.ops [⟨(some 10), none, .mv (.t 0)⟩, ⟨(some 11), none, .mv (.t 1)⟩, ⟨(some 12), none, .mv (.t 2)⟩, ⟨(some 13), none, .call 14 [(.t 10), (.t 11), (.t 12)]⟩, ⟨(some 7), none, .alloc 29 [(.lit true 0 []), (.lit true 0 [])]⟩, ⟨none, none, .store 2 (.t 7) (.t 13)⟩])
 (.seq (.ops [⟨(some 14), none, .load (some 2) (.t 7)⟩, ⟨(some 15), none, .call 17 [(.t 14)]⟩, ⟨(some 16), none, .bin 0 .eql (.t 15) (.c (.int .i64 0))⟩])
 (.cond (.t 16) (.seq (.ops [⟨(some 17), none, .load (some 2) (.t 7)⟩, ⟨none, none, .store 2 (.t 6) (.t 17)⟩])
 (.ret)) (.skip)))))
 (.ops [⟨(some 18), none, .bin 0 .add (.t 8) (.c (.int .i64 1))⟩, ⟨(some 8), none, .mv (.t 18)⟩])))))))
 (.seq (.ops [⟨(some 19), none, .bslice 9 1 1 [(.str [])] [(0, 1, (.c (.str [48])))]⟩, ⟨(some 20), none, .build [(.lit true 0 []), (.lit true 0 [])] [(0, 1, (.t 19))]⟩, ⟨none, none, .store 2 (.t 6) (.t 20)⟩])
 (.ret)))⟩
theorem c42 : compF Go.Proofs.Tryz.prog 42 = some a42 := by kernel_rfl
def a43 : AFn := ⟨50, [.t 0], .seq (.ops [⟨(some 0), none, .mv (.c (.bool false))⟩])
 (.seq (.ops [⟨(some 9), none, .call 119 [(.c (.int .i64 4)), (.c (.int .i64 1))]⟩, ⟨(some 8), none, .mv (.t 9)⟩, ⟨(some 10), none, .ext (.t 8) 0⟩, ⟨(some 11), none, .ext (.t 8) 1⟩, ⟨(some 1), none, .mv (.t 10)⟩, ⟨(some 2), none, .mv (.t 11)⟩])
 (.seq (.ops [⟨(some 13), none, .call 120 [(.c (.int .i64 3))]⟩, ⟨(some 12), none, .mv (.t 13)⟩, ⟨(some 14), none, .ext (.t 12) 0⟩, ⟨(some 15), none, .ext (.t 12) 1⟩, ⟨(some 3), none, .mv (.t 14)⟩, ⟨(some 4), none, .mv (.t 15)⟩])
 (.seq (.ops [⟨(some 17), none, .bslice 9 1 1 [(.str [])] [(0, 1, (.c (.str [49, 120])))]⟩, ⟨(some 18), none, .build [(.lit true 0 []), (.str [])] [(0, 1, (.t 17)), (1, 1, (.c (.str [49])))]⟩, ⟨(some 19), none, .call 121 [(.t 18)]⟩, ⟨(some 16), none, .mv (.t 19)⟩, ⟨(some 20), none, .ext (.t 16) 0⟩, ⟨(some 21), none, .ext (.t 16) 1⟩, ⟨(some 22), none, .ext (.t 16) 2⟩, ⟨(some 5), none, .alloc 41 [(.int .i64 0), (.int .i64 0)]⟩, ⟨none, none, .store 2 (.t 5) (.t 20)⟩, ⟨(some 6), none, .mv (.t 21)⟩, ⟨(some 7), none, .mv (.t 22)⟩])
 (.seq (.ops [⟨(some 23), none, .mv (.t 2)⟩, ⟨(some 24), none, .bin 0 .eql (.t 23) (.c (.int .i64 0))⟩, ⟨(some 25), none, .mv (.t 24)⟩, ⟨(some 26), (some (25, true)), .mv (.t 1)⟩, ⟨(some 27), (some (25, true)), .bin 1 .eql (.t 26) (.c (.str [49, 49, 48]))⟩, ⟨(some 28), none, .pick (.t 25) (.t 27) (.c (.bool false))⟩, ⟨(some 29), none, .mv (.t 28)⟩, ⟨(some 30), (some (29, true)), .mv (.t 4)⟩, ⟨(some 31), (some (29, true)), .bin 0 .eql (.t 30) (.c (.int .i64 0))⟩, ⟨(some 32), none, .pick (.t 29) (.t 31) (.c (.bool false))⟩, ⟨(some 33), none, .mv (.t 32)⟩, ⟨(some 34), (some (33, true)), .mv (.t 3)⟩, ⟨(some 35), (some (33, true)), .len false (.t 34)⟩, ⟨(some 36), (some (33, true)), .bin 0 .eql (.t 35) (.c (.int .i64 3))⟩, ⟨(some 37), none, .pick (.t 33) (.t 36) (.c (.bool false))⟩, ⟨(some 38), none, .mv (.t 37)⟩, ⟨(some 39), (some (38, true)), .mv (.t 7)⟩, ⟨(some 40), (some (38, true)), .bin 0 .eql (.t 39) (.c (.int .i64 0))⟩, ⟨(some 41), none, .pick (.t 38) (.t 40) (.c (.bool false))⟩, ⟨(some 42), none, .mv (.t 41)⟩, ⟨(some 43), (some (42, true)), .mv (.t 6)⟩, ⟨(some 44), none, .pick (.t 42) (.t 43) (.c (.bool false))⟩, ⟨(some 45), none, .mv (.t 44)⟩, ⟨(some 46), (some (45, true)), .load (some 2) (.t 5)⟩, ⟨(some 47), (some (45, true)), .build [(.int .i64 0), (.int .i64 0)] [(0, 1, (.c (.int .i64 1))), (1, 1, (.c (.int .i64 2)))]⟩, ⟨(some 48), (some (45, true)), .eqs false [0, 0] (.t 46) (.t 47)⟩, ⟨(some 49), none, .pick (.t 45) (.t 48) (.c (.bool false))⟩, ⟨(some 0), none, .mv (.t 49)⟩])
 (.ret)))))⟩
theorem c43 : compF Go.Proofs.Tryz.prog 43 = some a43 := by kernel_rfl
def a44 : AFn := ⟨9, [.t 4], .seq (.ops [⟨(some 4), none, .mv (.c (.bool false))⟩])
 (.seq (.ops [⟨(some 5), none, .mv (.t 0)⟩, ⟨(some 6), none, .mv (.t 1)⟩, ⟨(some 7), none, .call 35 [(.t 5), (.t 6)]⟩, ⟨(some 8), none, .bin 0 .eql (.t 7) (.c (.int .i64 0))⟩, ⟨(some 4), none, .mv (.t 8)⟩])
 (.ret))⟩
theorem c44 : compF Go.Proofs.Tryz.prog 44 = some a44 := by kernel_rfl
def a46 : AFn := ⟨103, [.t 4], .seq (.ops [⟨(some 3), none, .box 29 (.t 1)⟩, ⟨(some 4), none, .mv (.c (.lit true 0 []))⟩])
 (.seq (.ops [⟨(some 5), none, .mv (.c (.lit true 0 []))⟩])
 (.seq (.ops [⟨(some 9), none, .fadr 0 (.t 3)⟩, ⟨(some 10), none, .load none (.t 9)⟩, ⟨(some 6), none, .mv (.t 10)⟩])
 (.seq (.seq (.ops [⟨(some 11), none, .fadr 1 (.t 3)⟩, ⟨(some 12), none, .load none (.t 11)⟩, ⟨(some 13), none, .len false (.t 12)⟩, ⟨(some 14), none, .bin 0 .gtr (.t 13) (.c (.int .i64 0))⟩, ⟨(some 15), none, .mv (.t 14)⟩, ⟨(some 16), (some (15, true)), .mv (.t 0)⟩, ⟨(some 17), (some (15, true)), .call 44 [(.t 16), (.c (.int .i64 4))]⟩, ⟨(some 18), (some (15, true)), .un .not (.t 17)⟩, ⟨(some 19), none, .pick (.t 15) (.t 18) (.c (.bool false))⟩])
 (.cond (.t 19) (.any [(⟨(some 20), none, .fadr 1 (.t 3)⟩, []), (⟨(some 21), none, .load none (.t 20)⟩, []), (⟨(some 22), none, .mv (.t 0)⟩, [0, 1]), (⟨(some 23), none, .fadr 1 (.t 3)⟩, [0, 1, 2]), (⟨(some 24), none, .load none (.t 23)⟩, [0, 1, 2]), (⟨(some 25), none, .len false (.t 24)⟩, [0, 1, 2]), (⟨(some 26), none, .call 35 [(.t 22), (.t 25)]⟩, [0, 1]), (⟨(some 27), none, .iadr 2 (.t 21) (.t 26)⟩, []), (⟨(some 28), none, .fadr 1 (.t 27)⟩, []), (⟨(some 29), none, .load none (.t 28)⟩, []), (⟨(some 6), none, .mv (.t 29)⟩, [])]) (.skip)))
 (.seq (.seq (.ops [⟨(some 30), none, .fadr 0 (.t 3)⟩, ⟨(some 31), none, .load none (.t 30)⟩, ⟨(some 32), none, .len false (.t 31)⟩, ⟨(some 33), none, .mv (.c (.int .i64 0))⟩])
 (.block 0 (.loop (.seq (.ops [⟨(some 34), none, .bin 0 .lss (.t 33) (.t 32)⟩])
 (.seq (.cond (.t 34) (.skip) (.exit 0))
 (.seq (.block 1 (.seq (.ops [⟨(some 35), none, .mv (.t 33)⟩, ⟨(some 7), none, .mv (.t 35)⟩])
 (.seq (.ops [⟨(some 36), none, .mv (.t 0)⟩, ⟨(some 37), none, .call 44 [(.t 36), (.c (.int .i64 3))]⟩, ⟨(some 38), none, .un .not (.t 37)⟩, ⟨(some 39), none, .mv (.t 38)⟩, ⟨(some 40), (some (39, true)), .mv (.t 7)⟩, ⟨(some 41), (some (39, true)), .mv (.t 6)⟩, ⟨(some 42), (some (39, true)), .len false (.t 41)⟩, ⟨(some 43), (some (39, true)), .bin 0 .lss (.t 40) (.t 42)⟩, ⟨(some 44), none, .pick (.t 39) (.t 43) (.c (.bool false))⟩])
 (.cond (.t 44) (.any [(⟨(some 45), none, .mv (.t 5)⟩, []), (⟨(some 46), none, .mv (.t 7)⟩, [0]), (⟨(some 47), none, .mv (.t 0)⟩, [0, 1]), (⟨(some 48), none, .mv (.t 6)⟩, [0, 1, 2]), (⟨(some 49), none, .mv (.t 7)⟩, [0, 1, 2, 3]), (⟨(some 50), none, .iadr 1 (.t 48) (.t 49)⟩, [0, 1, 2]), (⟨(some 51), none, .load none (.t 50)⟩, [0, 1, 2]), (⟨(some 52), none, .mv (.t 6)⟩, [0, 1, 2, 3, 4, 5, 6]), (⟨(some 53), none, .mv (.t 7)⟩, [0, 1, 2, 3, 4, 5, 6, 7]), (⟨(some 54), none, .iadr 1 (.t 52) (.t 53)⟩, [0, 1, 2, 3, 4, 5, 6]), (⟨(some 55), none, .load none (.t 54)⟩, [0, 1, 2, 3, 4, 5, 6]), (⟨(some 56), none, .mv (.t 6)⟩, [0, 1, 2, 3, 4, 5, 6, 7, 8, 9, 10]), (⟨(some 57), none, .mv (.t 7)⟩, [0, 1, 2, 3, 4, 5, 6, 7, 8, 9, 10, 11]), (⟨(some 58), none, .iadr 1 (.t 56) (.t 57)⟩, [0, 1, 2, 3, 4, 5, 6, 7, 8, 9, 10]), (⟨(some 59), none, .load none (.t 58)⟩, [0, 1, 2, 3, 4, 5, 6, 7, 8, 9, 10]), (⟨(some 60), none, .bslice 9 1 5 [(.str [])] [(0, 1, (.t 51)), (1, 1, (.t 55)), (2, 1, (.t 59)), (3, 1, (.c (.str [48]))), (4, 1, (.c (.str [49])))]⟩, [0, 1, 2]), (⟨(some 61), none, .call 83 [(.t 47), (.t 60)]⟩, [0, 1]), (⟨(some 62), none, .build [(.int .i64 0), (.str [])] [(0, 1, (.t 46)), (1, 1, (.t 61))]⟩, [0]), (⟨(some 63), none, .bslice 69 2 1 [(.int .i64 0), (.str [])] [(0, 2, (.t 62))]⟩, [0]), (⟨(some 64), none, .app 69 2 24 (.t 45) (.t 63)⟩, []), (⟨(some 5), none, .mv (.t 64)⟩, [])]) (.skip)))))
 (.ops [⟨(some 65), none, .bin 0 .add (.t 33) (.c (.int .i64 1))⟩, ⟨(some 33), none, .mv (.t 65)⟩])))))))
 (.seq (.seq (.ops [⟨(some 66), none, .mv (.t 5)⟩, ⟨(some 67), none, .len false (.t 66)⟩, ⟨(some 68), none, .bin 0 .gtr (.t 67) (.c (.int .i64 0))⟩, ⟨(some 69), none, .mv (.t 68)⟩, ⟨(some 70), (some (69, true)), .mv (.t 0)⟩, ⟨(some 71), (some (69, true)), .call 44 [(.t 70), (.c (.int .i64 15))]⟩, ⟨(some 72), none, .pick (.t 69) (.t 71) (.c (.bool false))⟩])
 (.cond (.t 72) (.seq (.ops [⟨(some 73), none, .mv (.t 5)⟩, ⟨(some 74), none, .mv (.t 0)⟩, ⟨(some 75), none, .mv (.t 5)⟩, ⟨(some 76), none, .len false (.t 75)⟩, ⟨(some 77), none, .call 35 [(.t 74), (.t 76)]⟩, ⟨(some 78), none, .iadr 2 (.t 73) (.t 77)⟩, ⟨(some 8), none, .mv (.t 78)⟩])
 (.any [(⟨(some 79), none, .mv (.t 8)⟩, []), (⟨(some 80), none, .mv (.t 8)⟩, [0]), (⟨(some 81), none, .mv (.t 0)⟩, [0, 1]), (⟨(some 82), none, .mv (.t 8)⟩, [0, 1, 2]), (⟨(some 83), none, .nilchk (.t 82)⟩, [0, 1, 2]), (⟨(some 84), none, .fadr 0 (.t 83)⟩, [0, 1, 2]), (⟨(some 85), none, .load none (.t 84)⟩, [0, 1, 2]), (⟨(some 86), none, .fadr 0 (.t 3)⟩, [0, 1, 2, 3, 4, 5, 6]), (⟨(some 87), none, .load none (.t 86)⟩, [0, 1, 2, 3, 4, 5, 6]), (⟨(some 88), none, .len false (.t 87)⟩, [0, 1, 2, 3, 4, 5, 6]), (⟨(some 89), none, .bslice 3 1 4 [(.int .i64 0)] [(0, 1, (.t 85)), (1, 1, (.c (.int .i64 (-1)))), (2, 1, (.t 88)), (3, 1, (.c (.int .i64 0)))]⟩, [0, 1, 2]), (⟨(some 90), none, .call 54 [(.t 81), (.t 89)]⟩, [0, 1]), (⟨(some 91), none, .mv (.t 0)⟩, [0, 1, 2, 3, 4, 5, 6, 7, 8, 9, 10, 11]), (⟨(some 92), none, .mv (.t 8)⟩, [0, 1, 2, 3, 4, 5, 6, 7, 8, 9, 10, 11, 12]), (⟨(some 93), none, .nilchk (.t 92)⟩, [0, 1, 2, 3, 4, 5, 6, 7, 8, 9, 10, 11, 12]), (⟨(some 94), none, .fadr 1 (.t 93)⟩, [0, 1, 2, 3, 4, 5, 6, 7, 8, 9, 10, 11, 12]), (⟨(some 95), none, .load none (.t 94)⟩, [0, 1, 2, 3, 4, 5, 6, 7, 8, 9, 10, 11, 12]), (⟨(some 96), none, .bslice 9 1 3 [(.str [])] [(0, 1, (.t 95)), (1, 1, (.c (.str []))), (2, 1, (.c (.str [32])))]⟩, [0, 1, 2, 3, 4, 5, 6, 7, 8, 9, 10, 11, 12]), (⟨(some 97), none, .call 83 [(.t 91), (.t 96)]⟩, [0, 1]), (⟨(some 98), none, .nilchk (.t 79)⟩, [1]), (⟨(some 99), none, .fadr 0 (.t 98)⟩, [1]), (⟨none, none, .store 1 (.t 99) (.t 90)⟩, [1]), (⟨(some 100), none, .nilchk (.t 80)⟩, []), (⟨(some 101), none, .fadr 1 (.t 100)⟩, []), (⟨none, none, .store 1 (.t 101) (.t 97)⟩, [])])) (.skip)))
 (.seq (.ops [⟨(some 102), none, .mv (.t 5)⟩, ⟨(some 4), none, .mv (.t 102)⟩])
 (.ret)))))))⟩
def a51 : AFn := ⟨59, [.t 4, .t 5], .seq (.ops [⟨(some 2), none, .box 29 (.t 0)⟩, ⟨(some 4), none, .mv (.c (.lit true 0 []))⟩, ⟨(some 5), none, .mv (.c (.int .i64 0))⟩])
 (.seq (.ops [⟨(some 6), none, .mv (.c (.lit true 0 []))⟩])
 (.seq (.ops [⟨(some 7), none, .mv (.c (.int .i64 0))⟩])
 (.seq (.seq (.ops [⟨(some 13), none, .fadr 1 (.t 2)⟩, ⟨(some 14), none, .load none (.t 13)⟩, ⟨(some 15), none, .len false (.t 14)⟩, ⟨(some 16), none, .mv (.c (.int .i64 0))⟩])
 (.block 0 (.loop (.seq (.ops [⟨(some 17), none, .bin 0 .lss (.t 16) (.t 15)⟩])
 (.seq (.cond (.t 17) (.skip) (.exit 0))
 (.seq (.block 1 (.seq (.ops [⟨(some 18), none, .iadr 2 (.t 14) (.t 16)⟩, ⟨(some 19), none, .load (some 2) (.t 18)⟩, ⟨(some 9), none, .alloc 67 [(.str []), (.lit true 0 [])]⟩, ⟨none, none, .store 2 (.t 9) (.t 19)⟩])
 (.seq (.ops [⟨(some 10), none, .mv (.c (.int .i64 0))⟩])
 (.seq (.seq (.ops [⟨(some 20), none, .mv (.t 1)⟩, ⟨(some 21), none, .len false (.t 20)⟩, ⟨(some 22), none, .mv (.c (.int .i64 0))⟩])
 (.block 2 (.loop (.seq (.ops [⟨(some 23), none, .bin 0 .lss (.t 22) (.t 21)⟩])
 (.seq (.cond (.t 23) (.skip) (.exit 2))
 (.seq (.block 3 (.seq (.ops [⟨(some 24), none, .iadr 2 (.t 20) (.t 22)⟩, ⟨(some 25), none, .load (some 2) (.t 24)⟩, ⟨(some 12), none, .alloc 69 [(.int .i64 0), (.str [])]⟩, ⟨none, none, .store 2 (.t 12) (.t 25)⟩])
 (.any [(⟨(some 26), none, .mv (.t 10)⟩, []), (⟨(some 27), none, .fadr 1 (.t 9)⟩, [0]), (⟨(some 28), none, .load none (.t 27)⟩, [0]), (⟨(some 29), none, .fadr 0 (.t 12)⟩, [0, 1, 2]), (⟨(some 30), none, .load none (.t 29)⟩, [0, 1, 2]), (⟨(some 31), none, .iadr 1 (.t 28) (.t 30)⟩, [0]), (⟨(some 32), none, .load none (.t 31)⟩, [0]), (⟨(some 33), none, .fadr 1 (.t 12)⟩, [0, 1, 2, 3, 4, 5, 6]), (⟨(some 34), none, .load none (.t 33)⟩, [0, 1, 2, 3, 4, 5, 6]), (⟨(some 35), none, .bin 1 .neq (.t 32) (.t 34)⟩, [0]), (⟨(some 36), none, .call 133 [(.t 35)]⟩, [0]), (⟨(some 37), none, .bin 0 .add (.t 26) (.t 36)⟩, []), (⟨(some 10), none, .mv (.t 37)⟩, [])])))
 (.ops [⟨(some 38), none, .bin 0 .add (.t 22) (.c (.int .i64 1))⟩, ⟨(some 22), none, .mv (.t 38)⟩])))))))
 (.seq (.seq (.ops [⟨(some 39), none, .mv (.t 6)⟩, ⟨(some 40), none, .len false (.t 39)⟩, ⟨(some 41), none, .bin 0 .eql (.t 40) (.c (.int .i64 0))⟩, ⟨(some 42), none, .mv (.t 41)⟩, ⟨(some 43), (some (42, false)), .mv (.t 10)⟩, ⟨(some 44), (some (42, false)), .mv (.t 7)⟩, ⟨(some 45), (some (42, false)), .bin 0 .lss (.t 43) (.t 44)⟩, ⟨(some 46), none, .pick (.t 42) (.c (.bool true)) (.t 45)⟩])
 (.cond (.t 46) (.ops [⟨(some 47), none, .mv (.t 10)⟩, ⟨(some 6), none, .mv (.c (.lit true 0 []))⟩, ⟨(some 7), none, .mv (.t 47)⟩]) (.skip)))
 (.seq (.ops [⟨(some 48), none, .mv (.t 10)⟩, ⟨(some 49), none, .mv (.t 7)⟩, ⟨(some 50), none, .bin 0 .eql (.t 48) (.t 49)⟩])
 (.cond (.t 50) (.ops [⟨(some 51), none, .mv (.t 6)⟩, ⟨(some 52), none, .fadr 0 (.t 9)⟩, ⟨(some 53), none, .load none (.t 52)⟩, ⟨(some 54), none, .bslice 9 1 1 [(.str [])] [(0, 1, (.t 53))]⟩, ⟨(some 55), none, .app 9 1 16 (.t 51) (.t 54)⟩, ⟨(some 6), none, .mv (.t 55)⟩]) (.skip))))))))
 (.ops [⟨(some 56), none, .bin 0 .add (.t 16) (.c (.int .i64 1))⟩, ⟨(some 16), none, .mv (.t 56)⟩])))))))
 (.seq (.ops [⟨(some 57), none, .mv (.t 6)⟩, ⟨(some 58), none, .mv (.t 7)⟩, ⟨(some 4), none, .mv (.t 57)⟩, ⟨(some 5), none, .mv (.t 58)⟩])
 (.ret)))))⟩
def a53 : AFn := ⟨82, [.t 4, .t 5, .t 6], .seq (.ops [⟨(some 2), none, .box 29 (.t 0)⟩, ⟨(some 3), none, .box 65 (.t 1)⟩, ⟨(some 4), none, .mv (.c (.int .i64 0))⟩, ⟨(some 5), none, .mv (.c (.int .i64 0))⟩, ⟨(some 6), none, .mv (.c (.bool false))⟩])
 (.seq (.ops [⟨(some 16), none, .load (some 2) (.t 2)⟩, ⟨(some 17), none, .call 102 [(.t 16)]⟩, ⟨(some 18), none, .mkfn 140 [(.t 3)]⟩, ⟨(some 19), none, .call 122 [(.t 17), (.t 18)]⟩, ⟨(some 7), none, .mv (.t 19)⟩])
 (.seq (.ops [⟨(some 8), none, .mv (.c (.int .i64 (-1)))⟩, ⟨(some 9), none, .mv (.c (.int .i64 0))⟩, ⟨(some 10), none, .mv (.c (.int .i64 0))⟩])
 (.seq (.seq (.ops [⟨(some 20), none, .fadr 0 (.t 2)⟩, ⟨(some 21), none, .load none (.t 20)⟩, ⟨(some 22), none, .len false (.t 21)⟩, ⟨(some 23), none, .mv (.c (.int .i64 0))⟩])
 (.block 0 (.loop (.seq (.ops [⟨(some 24), none, .bin 0 .lss (.t 23) (.t 22)⟩])
 (.seq (.cond (.t 24) (.skip) (.exit 0))
 (.seq (.block 1 (.seq (.ops [⟨(some 25), none, .mv (.t 23)⟩, ⟨(some 11), none, .alloc 3 [(.int .i64 0)]⟩, ⟨none, none, .store 1 (.t 11) (.t 25)⟩])
 (.seq (.seq (.ops [⟨(some 26), none, .load none (.t 3)⟩, ⟨(some 27), none, .mkfn 141 [(.t 11)]⟩, ⟨(some 28), none, .call 125 [(.t 26), (.t 27)]⟩])
 (.cond (.t 28) (.exit 1) (.skip)))
 (.seq (.ops [⟨(some 29), none, .mmk .s (.int .i64 0)⟩, ⟨(some 12), none, .mv (.t 29)⟩])
 (.seq (.ops [⟨(some 13), none, .mv (.c (.int .i64 0))⟩])
 (.seq (.seq (.ops [⟨(some 30), none, .mv (.t 7)⟩, ⟨(some 31), none, .len false (.t 30)⟩, ⟨(some 32), none, .mv (.c (.int .i64 0))⟩])
 (.block 2 (.loop (.seq (.ops [⟨(some 33), none, .bin 0 .lss (.t 32) (.t 31)⟩])
 (.seq (.cond (.t 33) (.skip) (.exit 2))
 (.seq (.block 3 (.seq (.ops [⟨(some 34), none, .iadr 2 (.t 30) (.t 32)⟩, ⟨(some 35), none, .load (some 2) (.t 34)⟩, ⟨(some 15), none, .alloc 67 [(.str []), (.lit true 0 [])]⟩, ⟨none, none, .store 2 (.t 15) (.t 35)⟩])
 (.seq (.ops [⟨(some 36), none, .mv (.t 12)⟩, ⟨(some 37), none, .fadr 1 (.t 15)⟩, ⟨(some 38), none, .load none (.t 37)⟩, ⟨(some 39), none, .load none (.t 11)⟩, ⟨(some 40), none, .iadr 1 (.t 38) (.t 39)⟩, ⟨(some 41), none, .load none (.t 40)⟩, ⟨(some 42), none, .mlk false .s (.int .i64 0) (.t 36) (.t 41)⟩, ⟨(some 43), none, .bin 0 .add (.t 42) (.c (.int .i64 1))⟩, ⟨none, none, .mup .s (.t 36) (.t 41) (.t 43)⟩])
 (.ops [⟨(some 44), none, .mv (.t 13)⟩, ⟨(some 45), none, .mv (.t 12)⟩, ⟨(some 46), none, .fadr 1 (.t 15)⟩, ⟨(some 47), none, .load none (.t 46)⟩, ⟨(some 48), none, .load none (.t 11)⟩, ⟨(some 49), none, .iadr 1 (.t 47) (.t 48)⟩, ⟨(some 50), none, .load none (.t 49)⟩, ⟨(some 51), none, .mlk false .s (.int .i64 0) (.t 45) (.t 50)⟩, ⟨(some 52), none, .mm true (.t 44) [(.t 51)]⟩, ⟨(some 13), none, .mv (.t 52)⟩]))))
 (.ops [⟨(some 53), none, .bin 0 .add (.t 32) (.c (.int .i64 1))⟩, ⟨(some 32), none, .mv (.t 53)⟩])))))))
 (.seq (.ops [⟨(some 54), none, .mv (.t 8)⟩, ⟨(some 55), none, .bin 0 .lss (.t 54) (.c (.int .i64 0))⟩, ⟨(some 56), none, .mv (.t 55)⟩, ⟨(some 57), (some (56, false)), .mv (.t 13)⟩, ⟨(some 58), (some (56, false)), .mv (.t 9)⟩, ⟨(some 59), (some (56, false)), .call 143 [(.t 57), (.t 58)]⟩, ⟨(some 60), (some (56, false)), .mv (.t 10)⟩, ⟨(some 61), (some (56, false)), .mv (.t 12)⟩, ⟨(some 62), (some (56, false)), .mlen (.t 61)⟩, ⟨(some 63), (some (56, false)), .call 143 [(.t 60), (.t 62)]⟩, ⟨(some 64), (some (56, false)), .bslice 3 1 2 [(.int .i64 0)] [(0, 1, (.t 59)), (1, 1, (.t 63))]⟩, ⟨(some 65), (some (56, false)), .call 142 [(.t 64)]⟩, ⟨(some 66), (some (56, false)), .bin 0 .lss (.t 65) (.c (.int .i64 0))⟩, ⟨(some 67), none, .pick (.t 56) (.c (.bool true)) (.t 66)⟩])
 (.cond (.t 67) (.ops [⟨(some 68), none, .load none (.t 11)⟩, ⟨(some 69), none, .mv (.t 13)⟩, ⟨(some 70), none, .mv (.t 12)⟩, ⟨(some 71), none, .mlen (.t 70)⟩, ⟨(some 8), none, .mv (.t 68)⟩, ⟨(some 9), none, .mv (.t 69)⟩, ⟨(some 10), none, .mv (.t 71)⟩]) (.skip)))))))))
 (.ops [⟨(some 72), none, .bin 0 .add (.t 23) (.c (.int .i64 1))⟩, ⟨(some 23), none, .mv (.t 72)⟩])))))))
 (.seq (.seq (.ops [⟨(some 73), none, .mv (.t 8)⟩, ⟨(some 74), none, .bin 0 .lss (.t 73) (.c (.int .i64 0))⟩, ⟨(some 75), none, .mv (.t 74)⟩, ⟨(some 76), (some (75, false)), .mv (.t 7)⟩, ⟨(some 77), (some (75, false)), .len false (.t 76)⟩, ⟨(some 78), (some (75, false)), .bin 0 .lss (.t 77) (.c (.int .i64 2))⟩, ⟨(some 79), none, .pick (.t 75) (.c (.bool true)) (.t 78)⟩])
 (.cond (.t 79) (.seq (.ops [⟨(some 4), none, .mv (.c (.int .i64 0))⟩, ⟨(some 5), none, .mv (.c (.int .i64 0))⟩, ⟨(some 6), none, .mv (.c (.bool false))⟩])
 (.ret)) (.skip)))
 (.seq (.ops [⟨(some 80), none, .mv (.t 8)⟩, ⟨(some 81), none, .mv (.t 9)⟩, ⟨(some 4), none, .mv (.t 80)⟩, ⟨(some 5), none, .mv (.t 81)⟩, ⟨(some 6), none, .mv (.c (.bool true))⟩])
 (.ret))))))⟩
def a61 : AFn := ⟨9, [.t 4], .seq (.ops [⟨(some 4), none, .mv (.c (.bool false))⟩])
 (.seq (.ops [⟨(some 5), none, .mv (.t 0)⟩, ⟨(some 6), none, .mv (.t 1)⟩, ⟨(some 7), none, .call 151 [(.t 5), (.t 6)]⟩, ⟨(some 8), none, .bin 0 .geq (.t 7) (.c (.int .i64 0))⟩, ⟨(some 4), none, .mv (.t 8)⟩])
 (.ret))⟩
theorem c61 : compF Go.Proofs.Tryz.prog 61 = some a61 := by kernel_rfl
def a63 : AFn := ⟨68, [.t 2], .seq (.ops [⟨(some 1), none, .box 29 (.t 0)⟩, ⟨(some 2), none, .mv (.c (.int .i64 0))⟩])
 (.seq (.block 0 (.seq (.ops [⟨(some 7), none, .fadr 0 (.t 1)⟩, ⟨(some 8), none, .load none (.t 7)⟩, ⟨(some 9), none, .len false (.t 8)⟩, ⟨(some 10), none, .bin 0 .eql (.t 9) (.c (.int .i64 0))⟩, ⟨(some 6), none, .mv (.t 10)⟩])
 (.cond (.t 6) (.seq (.ops [⟨(some 2), none, .mv (.c (.int .i64 8))⟩])
 (.ret)) (.seq (.ops [⟨(some 12), none, .fadr 0 (.t 1)⟩, ⟨(some 13), none, .load none (.t 12)⟩, ⟨(some 14), none, .len false (.t 13)⟩, ⟨(some 15), none, .bin 0 .gtr (.t 14) (.c (.int .i64 100))⟩, ⟨(some 16), none, .mv (.t 15)⟩, ⟨(some 17), (some (16, false)), .fadr 1 (.t 1)⟩, ⟨(some 18), (some (16, false)), .load none (.t 17)⟩, ⟨(some 19), (some (16, false)), .len false (.t 18)⟩, ⟨(some 20), (some (16, false)), .bin 0 .gtr (.t 19) (.c (.int .i64 300))⟩, ⟨(some 21), none, .pick (.t 16) (.c (.bool true)) (.t 20)⟩, ⟨(some 11), none, .mv (.t 21)⟩])
 (.cond (.t 11) (.seq (.ops [⟨(some 2), none, .mv (.c (.int .i64 2))⟩])
 (.ret)) (.skip))))))
 (.seq (.ops [⟨(some 3), none, .mv (.c (.fn 152 []))⟩])
 (.seq (.seq (.ops [⟨(some 22), none, .fadr 0 (.t 1)⟩, ⟨(some 23), none, .load none (.t 22)⟩, ⟨(some 24), none, .mv (.t 3)⟩, ⟨(some 25), none, .call 61 [(.t 23), (.t 24)]⟩])
 (.cond (.t 25) (.seq (.ops [⟨(some 2), none, .mv (.c (.int .i64 9))⟩])
 (.ret)) (.skip)))
 (.seq (.seq (.ops [⟨(some 26), none, .fadr 1 (.t 1)⟩, ⟨(some 27), none, .load none (.t 26)⟩, ⟨(some 28), none, .len false (.t 27)⟩, ⟨(some 29), none, .mv (.c (.int .i64 0))⟩])
 (.block 1 (.loop (.seq (.ops [⟨(some 30), none, .bin 0 .lss (.t 29) (.t 28)⟩])
 (.seq (.cond (.t 30) (.skip) (.exit 1))
 (.seq (.block 2 (.seq (.ops [⟨(some 31), none, .mv (.t 29)⟩, ⟨(some 32), none, .iadr 2 (.t 27) (.t 29)⟩, ⟨(some 33), none, .load (some 2) (.t 32)⟩, ⟨(some 5), none, .alloc 67 [(.str []), (.lit true 0 [])]⟩, ⟨(some 4), none, .mv (.t 31)⟩, ⟨none, none, .store 2 (.t 5) (.t 33)⟩])
 (.block 3 (.seq (.ops [⟨(some 35), none, .fadr 0 (.t 5)⟩, ⟨(some 36), none, .load none (.t 35)⟩, ⟨(some 37), none, .call 154 [(.t 36)]⟩, ⟨(some 38), none, .un .not (.t 37)⟩, ⟨(some 34), none, .mv (.t 38)⟩])
 (.cond (.t 34) (.seq (.ops [⟨(some 2), none, .mv (.c (.int .i64 5))⟩])
 (.ret)) (.seq (.ops [⟨(some 40), none, .fadr 1 (.t 5)⟩, ⟨(some 41), none, .load none (.t 40)⟩, ⟨(some 42), none, .len false (.t 41)⟩, ⟨(some 43), none, .fadr 0 (.t 1)⟩, ⟨(some 44), none, .load none (.t 43)⟩, ⟨(some 45), none, .len false (.t 44)⟩, ⟨(some 46), none, .bin 0 .neq (.t 42) (.t 45)⟩, ⟨(some 39), none, .mv (.t 46)⟩])
 (.cond (.t 39) (.seq (.ops [⟨(some 2), none, .mv (.c (.int .i64 3))⟩])
 (.ret)) (.seq (.ops [⟨(some 48), none, .fadr 1 (.t 5)⟩, ⟨(some 49), none, .load none (.t 48)⟩, ⟨(some 50), none, .mv (.t 3)⟩, ⟨(some 51), none, .call 61 [(.t 49), (.t 50)]⟩, ⟨(some 47), none, .mv (.t 51)⟩])
 (.cond (.t 47) (.seq (.ops [⟨(some 2), none, .mv (.c (.int .i64 9))⟩])
 (.ret)) (.seq (.any [(⟨(some 53), none, .mv (.t 4)⟩, []), (⟨(some 54), none, .bin 0 .gtr (.t 53) (.c (.int .i64 0))⟩, []), (⟨(some 55), none, .mv (.t 54)⟩, []), (⟨(some 56), (some (55, true)), .fadr 0 (.t 5)⟩, []), (⟨(some 57), (some (55, true)), .load none (.t 56)⟩, []), (⟨(some 58), (some (55, true)), .fadr 1 (.t 1)⟩, [3, 4]), (⟨(some 59), (some (55, true)), .load none (.t 58)⟩, [3, 4]), (⟨(some 60), (some (55, true)), .mv (.t 4)⟩, [3, 4, 5, 6]), (⟨(some 61), (some (55, true)), .bin 0 .sub (.t 60) (.c (.int .i64 1))⟩, [3, 4, 5, 6]), (⟨(some 62), (some (55, true)), .iadr 2 (.t 59) (.t 61)⟩, [3, 4]), (⟨(some 63), (some (55, true)), .fadr 0 (.t 62)⟩, [3, 4]), (⟨(some 64), (some (55, true)), .load none (.t 63)⟩, [3, 4]), (⟨(some 65), (some (55, true)), .bin 1 .leq (.t 57) (.t 64)⟩, []), (⟨(some 66), none, .pick (.t 55) (.t 65) (.c (.bool false))⟩, []), (⟨(some 52), none, .mv (.t 66)⟩, [])])
 (.cond (.t 52) (.seq (.ops [⟨(some 2), none, .mv (.c (.int .i64 7))⟩])
 (.ret)) (.skip))))))))))))
 (.ops [⟨(some 67), none, .bin 0 .add (.t 29) (.c (.int .i64 1))⟩, ⟨(some 29), none, .mv (.t 67)⟩])))))))
 (.seq (.ops [⟨(some 2), none, .mv (.c (.int .i64 0))⟩])
 (.ret))))))⟩
theorem c63 : compF Go.Proofs.Tryz.prog 63 = some a63 := by kernel_rfl
def a74 : AFn := ⟨43, [.t 4], .seq (.ops [⟨(some 4), none, .mv (.c (.lit true 0 []))⟩])
 (.seq (.ops [⟨(some 5), none, .mv (.c (.lit true 0 []))⟩])
 (.seq (.seq (.ops [⟨(some 9), none, .mv (.t 1)⟩, ⟨(some 10), none, .mv (.c (.int .i64 0))⟩])
 (.block 0 (.loop (.seq (.ops [⟨(some 11), none, .bin 0 .lss (.t 10) (.t 9)⟩])
 (.seq (.cond (.t 11) (.skip) (.exit 0))
 (.seq (.block 1 (.seq (.ops [⟨(some 12), none, .mv (.t 10)⟩, ⟨(some 6), none, .mv (.t 12)⟩])
 (.ops [⟨(some 13), none, .mv (.t 5)⟩, ⟨(some 14), none, .mv (.t 6)⟩, ⟨(some 15), none, .bslice 3 1 1 [(.int .i64 0)] [(0, 1, (.t 14))]⟩, ⟨(some 16), none, .app 3 1 8 (.t 13) (.t 15)⟩, ⟨(some 5), none, .mv (.t 16)⟩])))
 (.ops [⟨(some 17), none, .bin 0 .add (.t 10) (.c (.int .i64 1))⟩, ⟨(some 10), none, .mv (.t 17)⟩])))))))
 (.seq (.seq (.ops [⟨(some 18), none, .mv (.t 1)⟩, ⟨(some 19), none, .bin 0 .sub (.t 18) (.c (.int .i64 1))⟩, ⟨(some 7), none, .mv (.t 19)⟩])
 (.block 2 (.loop (.seq (.seq (.ops [⟨(some 20), none, .mv (.t 7)⟩, ⟨(some 21), none, .bin 0 .gtr (.t 20) (.c (.int .i64 0))⟩])
 (.cond (.t 21) (.skip) (.exit 2)))
 (.seq (.block 3 (.seq (.ops [⟨(some 24), none, .mv (.t 0)⟩, ⟨(some 25), none, .mv (.t 7)⟩, ⟨(some 26), none, .bin 0 .add (.t 25) (.c (.int .i64 1))⟩, ⟨(some 27), none, .call 35 [(.t 24), (.t 26)]⟩, ⟨(some 8), none, .mv (.t 27)⟩])
 (.any [(⟨(some 28), none, .mv (.t 5)⟩, []), (⟨(some 29), none, .mv (.t 7)⟩, [0]), (⟨(some 30), none, .mv (.t 5)⟩, [0, 1]), (⟨(some 31), none, .mv (.t 8)⟩, [0, 1, 2]), (⟨(some 32), none, .mv (.t 5)⟩, [0, 1, 2, 3]), (⟨(some 33), none, .mv (.t 8)⟩, [0, 1, 2, 3, 4]), (⟨(some 34), none, .iadr 1 (.t 32) (.t 33)⟩, [0, 1, 2, 3]), (⟨(some 35), none, .load none (.t 34)⟩, [0, 1, 2, 3]), (⟨(some 36), none, .mv (.t 5)⟩, [0, 1, 2, 3, 4, 5, 6, 7]), (⟨(some 37), none, .mv (.t 7)⟩, [0, 1, 2, 3, 4, 5, 6, 7, 8]), (⟨(some 38), none, .iadr 1 (.t 36) (.t 37)⟩, [0, 1, 2, 3, 4, 5, 6, 7]), (⟨(some 39), none, .load none (.t 38)⟩, [0, 1, 2, 3, 4, 5, 6, 7]), (⟨(some 40), none, .iadr 1 (.t 28) (.t 29)⟩, [2, 3]), (⟨none, none, .store 1 (.t 40) (.t 35)⟩, [2, 3]), (⟨(some 41), none, .iadr 1 (.t 30) (.t 31)⟩, []), (⟨none, none, .store 1 (.t 41) (.t 39)⟩, [])])))
 (.ops [⟨(some 22), none, .mv (.t 7)⟩, ⟨(some 23), none, .bin 0 .sub (.t 22) (.c (.int .i64 1))⟩, ⟨(some 7), none, .mv (.t 23)⟩]))))))
 (.seq (.ops [⟨(some 42), none, .mv (.t 5)⟩, ⟨(some 4), none, .mv (.t 42)⟩])
 (.ret)))))⟩
theorem c74 : compF Go.Proofs.Tryz.prog 74 = some a74 := by kernel_rfl
def a76 : AFn := ⟨36, [.t 2], .seq (.ops [⟨(some 2), none, .mv (.c (.lit true 0 []))⟩])
 (.seq (.ops [⟨(some 3), none, .mv (.c (.int .i64 0))⟩])
 (.seq (.seq (.ops [⟨(some 9), none, .mv (.t 0)⟩, ⟨(some 10), none, .len false (.t 9)⟩, ⟨(some 11), none, .mv (.c (.int .i64 0))⟩])
 (.block 0 (.loop (.seq (.ops [⟨(some 12), none, .bin 0 .lss (.t 11) (.t 10)⟩])
 (.seq (.cond (.t 12) (.skip) (.exit 0))
 (.seq (.block 1 (.seq (.ops [⟨(some 13), none, .iadr 1 (.t 9) (.t 11)⟩, ⟨(some 14), none, .load none (.t 13)⟩, ⟨(some 5), none, .mv (.t 14)⟩])
 (.seq (.ops [⟨(some 15), none, .mv (.t 3)⟩, ⟨(some 16), none, .mv (.t 5)⟩, ⟨(some 17), none, .len false (.t 16)⟩, ⟨(some 18), none, .bin 0 .add (.t 15) (.t 17)⟩, ⟨(some 3), none, .mv (.t 18)⟩])
 (.seq (.ops [⟨(some 19), none, .mv (.t 3)⟩, ⟨(some 20), none, .bin 0 .lss (.t 19) (.c (.int .i64 0))⟩])
 (.cond (.t 20) (.ops [⟨(some 21), none, .bad⟩, ⟨none, none, .bad⟩]) (.skip))))))
 (.ops [⟨(some 22), none, .bin 0 .add (.t 11) (.c (.int .i64 1))⟩, ⟨(some 11), none, .mv (.t 22)⟩])))))))
 (.seq (.ops [⟨(some 23), none, .mv (.t 3)⟩, ⟨(some 24), none, .call 171 [(.c (.lit true 0 [])), (.t 23)]⟩, ⟨(some 6), none, .mv (.t 24)⟩])
 (.seq (.seq (.ops [⟨(some 25), none, .mv (.t 0)⟩, ⟨(some 26), none, .len false (.t 25)⟩, ⟨(some 27), none, .mv (.c (.int .i64 0))⟩])
 (.block 2 (.loop (.seq (.ops [⟨(some 28), none, .bin 0 .lss (.t 27) (.t 26)⟩])
 (.seq (.cond (.t 28) (.skip) (.exit 2))
 (.seq (.block 3 (.seq (.ops [⟨(some 29), none, .iadr 1 (.t 25) (.t 27)⟩, ⟨(some 30), none, .load none (.t 29)⟩, ⟨(some 8), none, .mv (.t 30)⟩])
 (.ops [⟨(some 31), none, .mv (.t 6)⟩, ⟨(some 32), none, .mv (.t 8)⟩, ⟨(some 33), none, .app 9 1 16 (.t 31) (.t 32)⟩, ⟨(some 6), none, .mv (.t 33)⟩])))
 (.ops [⟨(some 34), none, .bin 0 .add (.t 27) (.c (.int .i64 1))⟩, ⟨(some 27), none, .mv (.t 34)⟩])))))))
 (.seq (.ops [⟨(some 35), none, .mv (.t 6)⟩, ⟨(some 2), none, .mv (.t 35)⟩])
 (.ret))))))⟩
theorem c76 : compF Go.Proofs.Tryz.prog 76 = some a76 := by kernel_rfl
def a77 : AFn := ⟨61, [.t 2], .seq (.ops [⟨(some 2), none, .mv (.c (.lit true 0 []))⟩])
 (.seq (.seq (.ops [⟨(some 6), none, .mv (.t 0)⟩, ⟨(some 7), none, .len false (.t 6)⟩, ⟨(some 8), none, .bin 0 .lss (.t 7) (.c (.int .i64 2))⟩])
 (.cond (.t 8) (.seq (.ops [⟨(some 9), none, .mv (.t 0)⟩, ⟨(some 2), none, .mv (.t 9)⟩])
 (.ret)) (.skip)))
 (.seq (.seq (.ops [⟨(some 3), none, .mv (.c (.int .i64 1))⟩])
 (.block 0 (.loop (.seq (.seq (.ops [⟨(some 10), none, .mv (.t 3)⟩, ⟨(some 11), none, .mv (.t 0)⟩, ⟨(some 12), none, .len false (.t 11)⟩, ⟨(some 13), none, .bin 0 .lss (.t 10) (.t 12)⟩])
 (.cond (.t 13) (.skip) (.exit 0)))
 (.seq (.block 1 (.seq (.any [(⟨(some 16), none, .mv (.t 0)⟩, []), (⟨(some 17), none, .mv (.t 3)⟩, [0]), (⟨(some 18), none, .iadr 1 (.t 16) (.t 17)⟩, []), (⟨(some 19), none, .load none (.t 18)⟩, []), (⟨(some 20), none, .mv (.t 0)⟩, [0, 1, 2, 3]), (⟨(some 21), none, .mv (.t 3)⟩, [0, 1, 2, 3, 4]), (⟨(some 22), none, .bin 0 .sub (.t 21) (.c (.int .i64 1))⟩, [0, 1, 2, 3, 4]), (⟨(some 23), none, .iadr 1 (.t 20) (.t 22)⟩, [0, 1, 2, 3]), (⟨(some 24), none, .load none (.t 23)⟩, [0, 1, 2, 3]), (⟨(some 25), none, .bin 1 .eql (.t 19) (.t 24)⟩, [])])
 (.cond (.t 25) (.seq (.ops [⟨(some 26), none, .mv (.t 0)⟩, ⟨(some 27), none, .mv (.t 3)⟩, ⟨(some 28), none, .slc 1 (.t 26) (some (.t 27)) none⟩, ⟨(some 4), none, .mv (.t 28)⟩])
 (.seq (.seq (.ops [⟨(some 5), none, .mv (.c (.int .i64 1))⟩])
 (.block 2 (.loop (.seq (.seq (.ops [⟨(some 29), none, .mv (.t 5)⟩, ⟨(some 30), none, .mv (.t 4)⟩, ⟨(some 31), none, .len false (.t 30)⟩, ⟨(some 32), none, .bin 0 .lss (.t 29) (.t 31)⟩])
 (.cond (.t 32) (.skip) (.exit 2)))
 (.seq (.block 3 (.seq (.any [(⟨(some 35), none, .mv (.t 4)⟩, []), (⟨(some 36), none, .mv (.t 5)⟩, [0]), (⟨(some 37), none, .iadr 1 (.t 35) (.t 36)⟩, []), (⟨(some 38), none, .load none (.t 37)⟩, []), (⟨(some 39), none, .mv (.t 4)⟩, [0, 1, 2, 3]), (⟨(some 40), none, .mv (.t 5)⟩, [0, 1, 2, 3, 4]), (⟨(some 41), none, .bin 0 .sub (.t 40) (.c (.int .i64 1))⟩, [0, 1, 2, 3, 4]), (⟨(some 42), none, .iadr 1 (.t 39) (.t 41)⟩, [0, 1, 2, 3]), (⟨(some 43), none, .load none (.t 42)⟩, [0, 1, 2, 3]), (⟨(some 44), none, .bin 1 .neq (.t 38) (.t 43)⟩, [])])
 (.cond (.t 44) (.seq (.ops [⟨(some 45), none, .mv (.t 0)⟩, ⟨(some 46), none, .mv (.t 3)⟩, ⟨(some 47), none, .mv (.t 4)⟩, ⟨(some 48), none, .mv (.t 5)⟩, ⟨(some 49), none, .iadr 1 (.t 47) (.t 48)⟩, ⟨(some 50), none, .load none (.t 49)⟩, ⟨(some 51), none, .iadr 1 (.t 45) (.t 46)⟩, ⟨none, none, .store 1 (.t 51) (.t 50)⟩])
 (.ops [⟨(some 52), none, .mv (.t 3)⟩, ⟨(some 53), none, .bin 0 .add (.t 52) (.c (.int .i64 1))⟩, ⟨(some 3), none, .mv (.t 53)⟩])) (.skip))))
 (.ops [⟨(some 33), none, .mv (.t 5)⟩, ⟨(some 34), none, .bin 0 .add (.t 33) (.c (.int .i64 1))⟩, ⟨(some 5), none, .mv (.t 34)⟩]))))))
 (.seq (.ops [⟨(some 54), none, .mv (.t 0)⟩, ⟨(some 55), none, .mv (.t 3)⟩, ⟨(some 56), none, .slc 1 (.t 54) (some (.t 55)) none⟩, ⟨none, none, .clr [(.str [])] (.t 56)⟩])
 (.seq (.ops [⟨(some 57), none, .mv (.t 0)⟩, ⟨(some 58), none, .mv (.t 3)⟩, ⟨(some 59), none, .slc 1 (.t 57) none (some (.t 58))⟩, ⟨(some 2), none, .mv (.t 59)⟩])
 (.ret))))) (.skip))))
 (.ops [⟨(some 14), none, .mv (.t 3)⟩, ⟨(some 15), none, .bin 0 .add (.t 14) (.c (.int .i64 1))⟩, ⟨(some 3), none, .mv (.t 15)⟩]))))))
 (.seq (.ops [⟨(some 60), none, .mv (.t 0)⟩, ⟨(some 2), none, .mv (.t 60)⟩])
 (.ret))))⟩
theorem c77 : compF Go.Proofs.Tryz.prog 77 = some a77 := by kernel_rfl
def a78 : AFn := ⟨9, [.t 2], .seq (.ops [⟨(some 2), none, .mv (.c (.lit true 0 []))⟩])
 (.seq (.ops [⟨(some 4), none, .mv (.t 0)⟩, ⟨(some 5), none, .call 172 [(.t 4)]⟩, ⟨(some 3), none, .mv (.t 5)⟩])
 (.seq (.ops [⟨(some 6), none, .mv (.t 3)⟩, ⟨(some 7), none, .call 173 [(.t 6)]⟩])
 (.seq (.ops [⟨(some 8), none, .mv (.t 3)⟩, ⟨(some 2), none, .mv (.t 8)⟩])
 (.ret))))⟩
theorem c78 : compF Go.Proofs.Tryz.prog 78 = some a78 := by kernel_rfl
def a80 : AFn := ⟨9, [.t 4], .seq (.ops [⟨(some 4), none, .mv (.c (.bool false))⟩])
 (.seq (.ops [⟨(some 5), none, .mv (.t 0)⟩, ⟨(some 6), none, .mv (.t 1)⟩, ⟨(some 7), none, .call 175 [(.t 5), (.t 6)]⟩, ⟨(some 8), none, .bin 0 .geq (.t 7) (.c (.int .i64 0))⟩, ⟨(some 4), none, .mv (.t 8)⟩])
 (.ret))⟩
theorem c80 : compF Go.Proofs.Tryz.prog 80 = some a80 := by kernel_rfl
def a81 : AFn := ⟨13, [.t 4], .seq (.ops [⟨(some 4), none, .mv (.c (.bool false))⟩])
 (.seq (.ops [⟨(some 5), none, .mv (.t 0)⟩, ⟨(some 6), none, .load none (.t 1)⟩, ⟨(some 7), none, .call 38 [(.t 5), (.t 6)]⟩, ⟨(some 8), none, .mv (.t 7)⟩, ⟨(some 9), (some (8, true)), .mv (.t 0)⟩, ⟨(some 10), (some (8, true)), .load none (.t 2)⟩, ⟨(some 11), (some (8, true)), .call 38 [(.t 9), (.t 10)]⟩, ⟨(some 12), none, .pick (.t 8) (.t 11) (.c (.bool false))⟩, ⟨(some 4), none, .mv (.t 12)⟩])
 (.ret))⟩
theorem c81 : compF Go.Proofs.Tryz.prog 81 = some a81 := by kernel_rfl
def a82 : AFn := ⟨5, [.t 1], .seq (.ops [⟨(some 1), none, .mv (.c (.str []))⟩])
 (.seq (.ops [⟨(some 2), none, .load none (.t 0)⟩, ⟨(some 3), none, .bslice 9 1 5 [(.str [])] [(0, 1, (.c (.str [48]))), (1, 1, (.c (.str [48]))), (2, 1, (.c (.str [49]))), (3, 1, (.c (.str [49]))), (4, 1, (.c (.str [120, 126])))]⟩, ⟨(some 4), none, .call 83 [(.t 2), (.t 3)]⟩, ⟨(some 1), none, .mv (.t 4)⟩])
 (.ret))⟩
theorem c82 : compF Go.Proofs.Tryz.prog 82 = some a82 := by kernel_rfl
def a83 : AFn := ⟨12, [.t 4], .seq (.ops [⟨(some 4), none, .mv (.c (.str []))⟩])
 (.seq (.ops [⟨(some 5), none, .mv (.t 1)⟩, ⟨(some 6), none, .mv (.t 0)⟩, ⟨(some 7), none, .mv (.t 1)⟩, ⟨(some 8), none, .len false (.t 7)⟩, ⟨(some 9), none, .call 35 [(.t 6), (.t 8)]⟩, ⟨(some 10), none, .iadr 1 (.t 5) (.t 9)⟩, ⟨(some 11), none, .load none (.t 10)⟩, ⟨(some 4), none, .mv (.t 11)⟩])
 (.ret))⟩
theorem c83 : compF Go.Proofs.Tryz.prog 83 = some a83 := by kernel_rfl
def a85 : AFn := ⟨80, [], .seq (.seq (.ops [⟨(some 5), none, .mv (.t 1)⟩, ⟨(some 6), none, .nilchk (.t 5)⟩, ⟨(some 7), none, .fadr 1 (.t 6)⟩, ⟨(some 8), none, .load none (.t 7)⟩, ⟨(some 9), none, .len false (.t 8)⟩, ⟨(some 10), none, .bin 0 .eql (.t 9) (.c (.int .i64 0))⟩, ⟨(some 11), none, .mv (.t 10)⟩, ⟨(some 12), (some (11, false)), .mv (.t 0)⟩, ⟨(some 13), (some (11, false)), .call 44 [(.t 12), (.c (.int .i64 4))]⟩, ⟨(some 14), none, .pick (.t 11) (.c (.bool true)) (.t 13)⟩])
 (.cond (.t 14) (.seq (.any [(⟨(some 15), none, .mv (.t 1)⟩, []), (⟨(some 16), none, .nilchk (.t 15)⟩, []), (⟨(some 17), none, .fadr 0 (.t 16)⟩, []), (⟨(some 18), none, .load none (.t 17)⟩, []), (⟨(some 19), none, .mv (.t 0)⟩, [0, 1, 2, 3]), (⟨(some 20), none, .mv (.t 1)⟩, [0, 1, 2, 3, 4]), (⟨(some 21), none, .nilchk (.t 20)⟩, [0, 1, 2, 3, 4]), (⟨(some 22), none, .fadr 0 (.t 21)⟩, [0, 1, 2, 3, 4]), (⟨(some 23), none, .load none (.t 22)⟩, [0, 1, 2, 3, 4]), (⟨(some 24), none, .len false (.t 23)⟩, [0, 1, 2, 3, 4]), (⟨(some 25), none, .call 35 [(.t 19), (.t 24)]⟩, [0, 1, 2, 3]), (⟨(some 26), none, .mv (.t 0)⟩, [0, 1, 2, 3, 4, 5, 6, 7, 8, 9, 10]), (⟨(some 27), none, .call 177 [(.c (.str [48])), (.c (.int .i64 101))]⟩, [0, 1, 2, 3, 11]), (⟨(some 28), none, .bslice 9 1 4 [(.str [])] [(0, 1, (.c (.str []))), (1, 1, (.c (.str [32]))), (2, 1, (.c (.str [195, 169]))), (3, 1, (.t 27))]⟩, [0, 1, 2, 3, 11]), (⟨(some 29), none, .call 83 [(.t 26), (.t 28)]⟩, [0, 1, 2, 3]), (⟨(some 30), none, .iadr 1 (.t 18) (.t 25)⟩, []), (⟨none, none, .store 1 (.t 30) (.t 29)⟩, [])])
 (.ret)) (.skip)))
 (.seq (.any [(⟨(some 31), none, .mv (.t 1)⟩, []), (⟨(some 32), none, .nilchk (.t 31)⟩, []), (⟨(some 33), none, .fadr 1 (.t 32)⟩, []), (⟨(some 34), none, .load none (.t 33)⟩, []), (⟨(some 35), none, .mv (.t 0)⟩, [0, 1, 2, 3]), (⟨(some 36), none, .mv (.t 1)⟩, [0, 1, 2, 3, 4]), (⟨(some 37), none, .nilchk (.t 36)⟩, [0, 1, 2, 3, 4]), (⟨(some 38), none, .fadr 1 (.t 37)⟩, [0, 1, 2, 3, 4]), (⟨(some 39), none, .load none (.t 38)⟩, [0, 1, 2, 3, 4]), (⟨(some 40), none, .len false (.t 39)⟩, [0, 1, 2, 3, 4]), (⟨(some 41), none, .call 35 [(.t 35), (.t 40)]⟩, [0, 1, 2, 3]), (⟨(some 42), none, .iadr 2 (.t 34) (.t 41)⟩, []), (⟨(some 4), none, .mv (.t 42)⟩, [])])
 (.seq (.ops [⟨(some 43), none, .mv (.t 0)⟩, ⟨(some 44), none, .call 35 [(.t 43), (.c (.int .i64 3))]⟩])
 (.block 0 (.seq (.ops [⟨(some 61), none, .bin 0 .eql (.t 44) (.c (.int .i64 0))⟩, ⟨(some 60), none, .mv (.t 61)⟩])
 (.cond (.t 60) (.ops [⟨(some 62), none, .mv (.t 4)⟩, ⟨(some 63), none, .mv (.t 0)⟩, ⟨(some 64), none, .bslice 9 1 3 [(.str [])] [(0, 1, (.c (.str []))), (1, 1, (.c (.str [102, 48]))), (2, 1, (.c (.str [70])))]⟩, ⟨(some 65), none, .call 83 [(.t 63), (.t 64)]⟩, ⟨(some 66), none, .nilchk (.t 62)⟩, ⟨(some 67), none, .fadr 0 (.t 66)⟩, ⟨none, none, .store 1 (.t 67) (.t 65)⟩]) (.seq (.ops [⟨(some 69), none, .bin 0 .eql (.t 44) (.c (.int .i64 1))⟩, ⟨(some 68), none, .mv (.t 69)⟩])
 (.cond (.t 68) (.ops [⟨(some 70), none, .mv (.t 4)⟩, ⟨(some 71), none, .mv (.t 4)⟩, ⟨(some 72), none, .nilchk (.t 71)⟩, ⟨(some 73), none, .fadr 1 (.t 72)⟩, ⟨(some 74), none, .load none (.t 73)⟩, ⟨(some 75), none, .call 100 [(.t 74)]⟩, ⟨(some 76), none, .bslice 9 1 1 [(.str [])] [(0, 1, (.c (.str [48])))]⟩, ⟨(some 77), none, .app 9 1 16 (.t 75) (.t 76)⟩, ⟨(some 78), none, .nilchk (.t 70)⟩, ⟨(some 79), none, .fadr 1 (.t 78)⟩, ⟨none, none, .store 1 (.t 79) (.t 77)⟩]) (.any [(⟨(some 45), none, .mv (.t 4)⟩, []), (⟨(some 46), none, .nilchk (.t 45)⟩, []), (⟨(some 47), none, .fadr 1 (.t 46)⟩, []), (⟨(some 48), none, .load none (.t 47)⟩, []), (⟨(some 49), none, .mv (.t 0)⟩, [0, 1, 2, 3]), (⟨(some 50), none, .mv (.t 4)⟩, [0, 1, 2, 3, 4]), (⟨(some 51), none, .nilchk (.t 50)⟩, [0, 1, 2, 3, 4]), (⟨(some 52), none, .fadr 1 (.t 51)⟩, [0, 1, 2, 3, 4]), (⟨(some 53), none, .load none (.t 52)⟩, [0, 1, 2, 3, 4]), (⟨(some 54), none, .len false (.t 53)⟩, [0, 1, 2, 3, 4]), (⟨(some 55), none, .call 35 [(.t 49), (.t 54)]⟩, [0, 1, 2, 3]), (⟨(some 56), none, .mv (.t 0)⟩, [0, 1, 2, 3, 4, 5, 6, 7, 8, 9, 10]), (⟨(some 57), none, .bslice 9 1 3 [(.str [])] [(0, 1, (.c (.str []))), (1, 1, (.c (.str [97, 32, 98]))), (2, 1, (.c (.str [49])))]⟩, [0, 1, 2, 3, 4, 5, 6, 7, 8, 9, 10, 11]), (⟨(some 58), none, .call 83 [(.t 56), (.t 57)]⟩, [0, 1, 2, 3]), (⟨(some 59), none, .iadr 1 (.t 48) (.t 55)⟩, []), (⟨none, none, .store 1 (.t 59) (.t 58)⟩, [])]))))))))⟩
theorem c85 : compF Go.Proofs.Tryz.prog 85 = some a85 := by kernel_rfl
def a86 : AFn := ⟨6, [.t 2], .seq (.ops [⟨(some 2), none, .mv (.c (.bool false))⟩])
 (.seq (.ops [⟨(some 3), none, .mv (.t 0)⟩, ⟨(some 4), none, .call 87 [(.t 3)]⟩, ⟨(some 5), none, .un .not (.t 4)⟩, ⟨(some 2), none, .mv (.t 5)⟩])
 (.ret))⟩
theorem c86 : compF Go.Proofs.Tryz.prog 86 = some a86 := by kernel_rfl
def a87 : AFn := ⟨12, [.t 2], .seq (.ops [⟨(some 2), none, .mv (.c (.bool false))⟩])
 (.seq (.ops [⟨(some 3), none, .mv (.t 0)⟩, ⟨(some 4), none, .len true (.t 3)⟩, ⟨(some 5), none, .call 98 [(.t 4), (.c (.int .i64 1)), (.c (.int .i64 100))]⟩, ⟨(some 6), none, .mv (.t 5)⟩, ⟨(some 7), (some (6, true)), .mv (.t 0)⟩, ⟨(some 8), (some (6, true)), .s2b (.t 7)⟩, ⟨(some 9), (some (6, true)), .call 178 [(.t 8), (.c (.fn 179 []))]⟩, ⟨(some 10), (some (6, true)), .un .not (.t 9)⟩, ⟨(some 11), none, .pick (.t 6) (.t 10) (.c (.bool false))⟩, ⟨(some 2), none, .mv (.t 11)⟩])
 (.ret))⟩
theorem c87 : compF Go.Proofs.Tryz.prog 87 = some a87 := by kernel_rfl
def a88 : AFn := ⟨17, [.t 2], .seq (.ops [⟨(some 2), none, .mv (.c (.bool false))⟩])
 (.seq (.ops [⟨(some 3), none, .mv (.t 0)⟩, ⟨(some 4), none, .len true (.t 3)⟩, ⟨(some 5), none, .call 98 [(.t 4), (.c (.int .i64 1)), (.c (.int .i64 40))]⟩, ⟨(some 6), none, .mv (.t 5)⟩, ⟨(some 7), (some (6, true)), .mv (.t 0)⟩, ⟨(some 8), (some (6, true)), .call 180 [(.t 7), (.c (.str [97, 98, 99, 100, 101, 102, 103, 104, 105, 106, 107, 108, 109, 110, 111, 112, 113, 114, 115, 116, 117, 118, 119, 120, 121, 122, 48, 49, 50, 51, 52, 53, 54, 55, 56, 57, 45, 95]))]⟩, ⟨(some 9), (some (6, true)), .bin 1 .eql (.t 8) (.c (.str []))⟩, ⟨(some 10), none, .pick (.t 6) (.t 9) (.c (.bool false))⟩, ⟨(some 11), none, .mv (.t 10)⟩, ⟨(some 12), (some (11, true)), .mv (.t 0)⟩, ⟨(some 13), (some (11, true)), .idxs (.t 12) (.c (.int .i64 0))⟩, ⟨(some 14), (some (11, true)), .call 181 [(.c (.str [97, 98, 99, 100, 101, 102, 103, 104, 105, 106, 107, 108, 109, 110, 111, 112, 113, 114, 115, 116, 117, 118, 119, 120, 121, 122])), (.t 13)]⟩, ⟨(some 15), (some (11, true)), .bin 0 .geq (.t 14) (.c (.int .i64 0))⟩, ⟨(some 16), none, .pick (.t 11) (.t 15) (.c (.bool false))⟩, ⟨(some 2), none, .mv (.t 16)⟩])
 (.ret))⟩
theorem c88 : compF Go.Proofs.Tryz.prog 88 = some a88 := by kernel_rfl
def a89 : AFn := ⟨37, [.t 4], .seq (.ops [⟨(some 2), none, .box 29 (.t 0)⟩, ⟨(some 4), none, .mv (.c (.int .i64 0))⟩])
 (.seq (.seq (.ops [⟨(some 8), none, .load (some 2) (.t 2)⟩, ⟨(some 9), none, .call 63 [(.t 8)]⟩, ⟨(some 5), none, .mv (.t 9)⟩])
 (.seq (.ops [⟨(some 10), none, .mv (.t 5)⟩, ⟨(some 11), none, .bin 0 .neq (.t 10) (.c (.int .i64 0))⟩])
 (.cond (.t 11) (.seq (.ops [⟨(some 12), none, .mv (.t 5)⟩, ⟨(some 4), none, .mv (.t 12)⟩])
 (.ret)) (.skip))))
 (.seq (.seq (.ops [⟨(some 13), none, .mv (.t 1)⟩, ⟨(some 14), none, .len false (.t 13)⟩, ⟨(some 15), none, .bin 0 .gtr (.t 14) (.c (.int .i64 100))⟩])
 (.cond (.t 15) (.seq (.ops [⟨(some 4), none, .mv (.c (.int .i64 2))⟩])
 (.ret)) (.skip)))
 (.seq (.seq (.ops [⟨(some 16), none, .mv (.t 1)⟩, ⟨(some 17), none, .len false (.t 16)⟩, ⟨(some 18), none, .mv (.c (.int .i64 0))⟩])
 (.block 0 (.loop (.seq (.ops [⟨(some 19), none, .bin 0 .lss (.t 18) (.t 17)⟩])
 (.seq (.cond (.t 19) (.skip) (.exit 0))
 (.seq (.block 1 (.seq (.ops [⟨(some 20), none, .mv (.t 18)⟩, ⟨(some 21), none, .iadr 1 (.t 16) (.t 18)⟩, ⟨(some 22), none, .load none (.t 21)⟩, ⟨(some 6), none, .mv (.t 20)⟩, ⟨(some 7), none, .mv (.t 22)⟩])
 (.block 2 (.seq (.ops [⟨(some 24), none, .mv (.t 7)⟩, ⟨(some 25), none, .fadr 0 (.t 2)⟩, ⟨(some 26), none, .load none (.t 25)⟩, ⟨(some 27), none, .len false (.t 26)⟩, ⟨(some 28), none, .bin 0 .sub (.t 27) (.c (.int .i64 1))⟩, ⟨(some 29), none, .call 155 [(.t 24), (.c (.int .i64 0)), (.t 28)]⟩, ⟨(some 23), none, .mv (.t 29)⟩])
 (.cond (.t 23) (.seq (.ops [⟨(some 4), none, .mv (.c (.int .i64 1))⟩])
 (.ret)) (.seq (.ops [⟨(some 31), none, .mv (.t 1)⟩, ⟨(some 32), none, .mv (.t 6)⟩, ⟨(some 33), none, .slc 1 (.t 31) none (some (.t 32))⟩, ⟨(some 34), none, .mv (.t 7)⟩, ⟨(some 35), none, .call 99 [(.t 33), (.t 34)]⟩, ⟨(some 30), none, .mv (.t 35)⟩])
 (.cond (.t 30) (.seq (.ops [⟨(some 4), none, .mv (.c (.int .i64 6))⟩])
 (.ret)) (.skip))))))))
 (.ops [⟨(some 36), none, .bin 0 .add (.t 18) (.c (.int .i64 1))⟩, ⟨(some 18), none, .mv (.t 36)⟩])))))))
 (.seq (.ops [⟨(some 4), none, .mv (.c (.int .i64 0))⟩])
 (.ret)))))⟩
theorem c89 : compF Go.Proofs.Tryz.prog 89 = some a89 := by kernel_rfl
def a93 : AFn := ⟨52, [.t 4], .seq (.ops [⟨(some 2), none, .box 29 (.t 0)⟩, ⟨(some 4), none, .mv (.c (.lit true 0 []))⟩])
 (.seq (.ops [⟨(some 12), none, .mmk .s (.int .i64 0)⟩, ⟨(some 5), none, .mv (.t 12)⟩])
 (.seq (.ops [⟨(some 6), none, .mv (.c (.lit true 0 []))⟩])
 (.seq (.seq (.ops [⟨(some 13), none, .load (some 2) (.t 2)⟩, ⟨(some 14), none, .call 129 [(.t 13)]⟩, ⟨(some 15), none, .len false (.t 14)⟩, ⟨(some 16), none, .mv (.c (.int .i64 0))⟩])
 (.block 0 (.loop (.seq (.ops [⟨(some 17), none, .bin 0 .lss (.t 16) (.t 15)⟩])
 (.seq (.cond (.t 17) (.skip) (.exit 0))
 (.seq (.block 1 (.seq (.ops [⟨(some 18), none, .iadr 2 (.t 14) (.t 16)⟩, ⟨(some 19), none, .load (some 2) (.t 18)⟩, ⟨(some 8), none, .alloc 67 [(.str []), (.lit true 0 [])]⟩, ⟨none, none, .store 2 (.t 8) (.t 19)⟩])
 (.seq (.ops [⟨(some 20), none, .load (some 2) (.t 8)⟩, ⟨(some 21), none, .mv (.t 1)⟩, ⟨(some 22), none, .call 183 [(.t 20), (.t 21)]⟩, ⟨(some 9), none, .mv (.t 22)⟩])
 (.seq (.ops [⟨(some 24), none, .mv (.t 5)⟩, ⟨(some 25), none, .mv (.t 9)⟩, ⟨(some 26), none, .mlk true .s (.int .i64 0) (.t 24) (.t 25)⟩, ⟨(some 23), none, .mv (.t 26)⟩, ⟨(some 27), none, .ext (.t 23) 0⟩, ⟨(some 28), none, .ext (.t 23) 1⟩, ⟨(some 10), none, .mv (.t 27)⟩, ⟨(some 11), none, .mv (.t 28)⟩])
 (.seq (.seq (.ops [⟨(some 29), none, .mv (.t 11)⟩, ⟨(some 30), none, .un .not (.t 29)⟩])
 (.cond (.t 30) (.seq (.ops [⟨(some 31), none, .mv (.t 6)⟩, ⟨(some 32), none, .len false (.t 31)⟩, ⟨(some 10), none, .mv (.t 32)⟩])
 (.seq (.ops [⟨(some 33), none, .mv (.t 5)⟩, ⟨(some 34), none, .mv (.t 9)⟩, ⟨(some 35), none, .mv (.t 10)⟩, ⟨none, none, .mup .s (.t 33) (.t 34) (.t 35)⟩])
 (.ops [⟨(some 36), none, .mv (.t 6)⟩, ⟨(some 37), none, .bnil 26 9 1 1 [(.lit true 0 [])] [(.str [])] [(0, 1, (.c (.lit true 0 [])))]⟩, ⟨(some 38), none, .app 26 1 24 (.t 36) (.t 37)⟩, ⟨(some 6), none, .mv (.t 38)⟩]))) (.skip)))
 (.any [(⟨(some 39), none, .mv (.t 6)⟩, []), (⟨(some 40), none, .mv (.t 10)⟩, [0]), (⟨(some 41), none, .mv (.t 6)⟩, [0, 1]), (⟨(some 42), none, .mv (.t 10)⟩, [0, 1, 2]), (⟨(some 43), none, .iadr 1 (.t 41) (.t 42)⟩, [0, 1]), (⟨(some 44), none, .load none (.t 43)⟩, [0, 1]), (⟨(some 45), none, .fadr 0 (.t 8)⟩, [0, 1, 2, 3, 4, 5]), (⟨(some 46), none, .load none (.t 45)⟩, [0, 1, 2, 3, 4, 5]), (⟨(some 47), none, .bslice 9 1 1 [(.str [])] [(0, 1, (.t 46))]⟩, [0, 1, 2, 3, 4, 5]), (⟨(some 48), none, .app 9 1 16 (.t 44) (.t 47)⟩, [0, 1]), (⟨(some 49), none, .iadr 1 (.t 39) (.t 40)⟩, []), (⟨none, none, .store 1 (.t 49) (.t 48)⟩, [])]))))))
 (.ops [⟨(some 50), none, .bin 0 .add (.t 16) (.c (.int .i64 1))⟩, ⟨(some 16), none, .mv (.t 50)⟩])))))))
 (.seq (.ops [⟨(some 51), none, .mv (.t 6)⟩, ⟨(some 4), none, .mv (.t 51)⟩])
 (.ret)))))⟩
theorem c93 : compF Go.Proofs.Tryz.prog 93 = some a93 := by kernel_rfl
def a94 : AFn := ⟨19, [.c 4 (some 2)], .seq (.ops [⟨(some 4), none, .alloc 41 [(.int .i64 0), (.int .i64 0)]⟩])
 (.seq (.ops [⟨(some 6), none, .mv (.t 0)⟩, ⟨(some 7), none, .mv (.t 0)⟩, ⟨(some 8), none, .un .neg (.t 7)⟩, ⟨(some 9), none, .mm true (.t 6) [(.t 8)]⟩, ⟨(some 10), none, .mv (.t 1)⟩, ⟨(some 11), none, .call 184 [(.t 9), (.t 10)]⟩, ⟨(some 5), none, .mv (.t 11)⟩])
 (.seq (.any [(⟨(some 12), none, .mv (.t 0)⟩, []), (⟨(some 13), none, .mv (.t 5)⟩, [0]), (⟨(some 14), none, .bin 0 .quo (.t 12) (.t 13)⟩, []), (⟨(some 15), none, .mv (.t 1)⟩, [0, 1, 2]), (⟨(some 16), none, .mv (.t 5)⟩, [0, 1, 2, 3]), (⟨(some 17), none, .bin 0 .quo (.t 15) (.t 16)⟩, [0, 1, 2]), (⟨(some 18), none, .build [(.int .i64 0), (.int .i64 0)] [(0, 1, (.t 14)), (1, 1, (.t 17))]⟩, []), (⟨none, none, .store 2 (.t 4) (.t 18)⟩, [])])
 (.ret)))⟩
theorem c94 : compF Go.Proofs.Tryz.prog 94 = some a94 := by kernel_rfl
def a95 : AFn := ⟨21, [.t 4], .seq (.ops [⟨(some 2), none, .box 29 (.t 0)⟩, ⟨(some 4), none, .mv (.c (.lit true 0 []))⟩])
 (.seq (.seq (.ops [⟨(some 7), none, .fadr 1 (.t 2)⟩, ⟨(some 8), none, .load none (.t 7)⟩, ⟨(some 9), none, .len false (.t 8)⟩, ⟨(some 10), none, .mv (.c (.int .i64 0))⟩])
 (.block 0 (.loop (.seq (.ops [⟨(some 11), none, .bin 0 .lss (.t 10) (.t 9)⟩])
 (.seq (.cond (.t 11) (.skip) (.exit 0))
 (.seq (.block 1 (.seq (.ops [⟨(some 12), none, .iadr 2 (.t 8) (.t 10)⟩, ⟨(some 13), none, .load (some 2) (.t 12)⟩, ⟨(some 6), none, .alloc 67 [(.str []), (.lit true 0 [])]⟩, ⟨none, none, .store 2 (.t 6) (.t 13)⟩])
 (.seq (.ops [⟨(some 14), none, .fadr 0 (.t 6)⟩, ⟨(some 15), none, .load none (.t 14)⟩, ⟨(some 16), none, .mv (.t 1)⟩, ⟨(some 17), none, .bin 1 .eql (.t 15) (.t 16)⟩])
 (.cond (.t 17) (.seq (.ops [⟨(some 18), none, .fadr 1 (.t 6)⟩, ⟨(some 19), none, .load none (.t 18)⟩, ⟨(some 4), none, .mv (.t 19)⟩])
 (.ret)) (.skip)))))
 (.ops [⟨(some 20), none, .bin 0 .add (.t 10) (.c (.int .i64 1))⟩, ⟨(some 10), none, .mv (.t 20)⟩])))))))
 (.seq (.ops [⟨(some 4), none, .mv (.c (.lit true 0 []))⟩])
 (.ret)))⟩
theorem c95 : compF Go.Proofs.Tryz.prog 95 = some a95 := by kernel_rfl
def a98 : AFn := ⟨15, [.t 6], .seq (.ops [⟨(some 6), none, .mv (.c (.bool false))⟩])
 (.seq (.ops [⟨(some 7), none, .mv (.t 1)⟩, ⟨(some 8), none, .mv (.t 0)⟩, ⟨(some 9), none, .bin 0 .leq (.t 7) (.t 8)⟩, ⟨(some 10), none, .mv (.t 9)⟩, ⟨(some 11), (some (10, true)), .mv (.t 0)⟩, ⟨(some 12), (some (10, true)), .mv (.t 2)⟩, ⟨(some 13), (some (10, true)), .bin 0 .leq (.t 11) (.t 12)⟩, ⟨(some 14), none, .pick (.t 10) (.t 13) (.c (.bool false))⟩, ⟨(some 6), none, .mv (.t 14)⟩])
 (.ret))⟩
theorem c98 : compF Go.Proofs.Tryz.prog 98 = some a98 := by kernel_rfl
def a99 : AFn := ⟨9, [.t 4], .seq (.ops [⟨(some 4), none, .mv (.c (.bool false))⟩])
 (.seq (.ops [⟨(some 5), none, .mv (.t 0)⟩, ⟨(some 6), none, .mv (.t 1)⟩, ⟨(some 7), none, .call 186 [(.t 5), (.t 6)]⟩, ⟨(some 8), none, .bin 0 .geq (.t 7) (.c (.int .i64 0))⟩, ⟨(some 4), none, .mv (.t 8)⟩])
 (.ret))⟩
theorem c99 : compF Go.Proofs.Tryz.prog 99 = some a99 := by kernel_rfl
def a100 : AFn := ⟨8, [.t 2], .seq (.ops [⟨(some 2), none, .mv (.c (.lit true 0 []))⟩])
 (.seq (.seq (.ops [⟨(some 3), none, .mv (.t 0)⟩, ⟨(some 4), none, .bin 3 .eql (.t 3) (.c (.lit true 0 []))⟩])
 (.cond (.t 4) (.seq (.ops [⟨(some 2), none, .mv (.c (.lit true 0 []))⟩])
 (.ret)) (.skip)))
 (.seq (.ops [⟨(some 5), none, .bslice 9 1 0 [(.str [])] []⟩, ⟨(some 6), none, .mv (.t 0)⟩, ⟨(some 7), none, .app 9 1 16 (.t 5) (.t 6)⟩, ⟨(some 2), none, .mv (.t 7)⟩])
 (.ret)))⟩
theorem c100 : compF Go.Proofs.Tryz.prog 100 = some a100 := by kernel_rfl
def a110 : AFn := ⟨16, [.t 4], .seq (.ops [⟨(some 4), none, .mv (.c (.int .i64 0))⟩])
 (.seq (.seq (.ops [⟨(some 5), none, .mv (.t 1)⟩, ⟨(some 6), none, .bin 0 .lss (.t 5) (.c (.int .i64 1))⟩])
 (.cond (.t 6) (.seq (.ops [⟨(some 4), none, .mv (.c (.int .i64 0))⟩])
 (.ret)) (.skip)))
 (.seq (.ops [⟨(some 7), none, .mv (.t 0)⟩, ⟨(some 8), none, .mv (.t 1)⟩, ⟨(some 9), none, .bin 0 .rem (.t 7) (.t 8)⟩, ⟨(some 0), none, .mv (.t 9)⟩])
 (.seq (.seq (.ops [⟨(some 10), none, .mv (.t 0)⟩, ⟨(some 11), none, .bin 0 .lss (.t 10) (.c (.int .i64 0))⟩])
 (.cond (.t 11) (.ops [⟨(some 12), none, .mv (.t 0)⟩, ⟨(some 13), none, .mv (.t 1)⟩, ⟨(some 14), none, .bin 0 .add (.t 12) (.t 13)⟩, ⟨(some 0), none, .mv (.t 14)⟩]) (.skip)))
 (.seq (.ops [⟨(some 15), none, .mv (.t 0)⟩, ⟨(some 4), none, .mv (.t 15)⟩])
 (.ret)))))⟩
theorem c110 : compF Go.Proofs.Tryz.prog 110 = some a110 := by kernel_rfl
def a115 : AFn := ⟨19, [.t 4], .seq (.ops [⟨(some 4), none, .mv (.c (.int .i64 0))⟩])
 (.seq (.seq (.ops [⟨(some 6), none, .mv (.t 0)⟩, ⟨(some 7), none, .len false (.t 6)⟩, ⟨(some 8), none, .mv (.c (.int .i64 0))⟩])
 (.block 0 (.loop (.seq (.ops [⟨(some 9), none, .bin 0 .lss (.t 8) (.t 7)⟩])
 (.seq (.cond (.t 9) (.skip) (.exit 0))
 (.seq (.block 1 (.seq (.ops [⟨(some 10), none, .mv (.t 8)⟩, ⟨(some 5), none, .mv (.t 10)⟩])
 (.seq (.ops [⟨(some 11), none, .mv (.t 1)⟩, ⟨(some 12), none, .mv (.t 0)⟩, ⟨(some 13), none, .mv (.t 5)⟩, ⟨(some 14), none, .iadr 1 (.t 12) (.t 13)⟩, ⟨(some 15), none, .load none (.t 14)⟩, ⟨(some 16), none, .bin 1 .eql (.t 11) (.t 15)⟩])
 (.cond (.t 16) (.seq (.ops [⟨(some 17), none, .mv (.t 5)⟩, ⟨(some 4), none, .mv (.t 17)⟩])
 (.ret)) (.skip)))))
 (.ops [⟨(some 18), none, .bin 0 .add (.t 8) (.c (.int .i64 1))⟩, ⟨(some 8), none, .mv (.t 18)⟩])))))))
 (.seq (.ops [⟨(some 4), none, .mv (.c (.int .i64 (-1)))⟩])
 (.ret)))⟩
theorem c115 : compF Go.Proofs.Tryz.prog 115 = some a115 := by kernel_rfl
def a119 : AFn := ⟨17, [.t 4, .t 5], .seq (.ops [⟨(some 4), none, .mv (.c (.str []))⟩, ⟨(some 5), none, .mv (.c (.int .i64 0))⟩])
 (.seq (.seq (.ops [⟨(some 6), none, .mv (.t 0)⟩, ⟨(some 7), none, .call 195 [(.t 6)]⟩, ⟨(some 8), none, .un .not (.t 7)⟩, ⟨(some 9), none, .mv (.t 8)⟩, ⟨(some 10), (some (9, false)), .mv (.t 1)⟩, ⟨(some 11), (some (9, false)), .call 195 [(.t 10)]⟩, ⟨(some 12), (some (9, false)), .un .not (.t 11)⟩, ⟨(some 13), none, .pick (.t 9) (.c (.bool true)) (.t 12)⟩])
 (.cond (.t 13) (.seq (.ops [⟨(some 4), none, .mv (.c (.str []))⟩, ⟨(some 5), none, .mv (.c (.int .i64 1))⟩])
 (.ret)) (.skip)))
 (.seq (.ops [⟨(some 14), none, .mv (.t 0)⟩, ⟨(some 15), none, .mv (.t 1)⟩, ⟨(some 16), none, .call 196 [(.t 14), (.t 15)]⟩, ⟨(some 4), none, .mv (.t 16)⟩, ⟨(some 5), none, .mv (.c (.int .i64 0))⟩])
 (.ret)))⟩
theorem c119 : compF Go.Proofs.Tryz.prog 119 = some a119 := by kernel_rfl
def a120 : AFn := ⟨30, [.t 2, .t 3], .seq (.ops [⟨(some 1), none, .box 3 (.t 0)⟩, ⟨(some 2), none, .mv (.c (.lit true 0 []))⟩, ⟨(some 3), none, .mv (.c (.int .i64 0))⟩])
 (.seq (.seq (.ops [⟨(some 8), none, .load none (.t 1)⟩, ⟨(some 9), none, .call 197 [(.t 8)]⟩, ⟨(some 4), none, .mv (.t 9)⟩])
 (.seq (.ops [⟨(some 10), none, .mv (.t 4)⟩, ⟨(some 11), none, .bin 0 .neq (.t 10) (.c (.int .i64 0))⟩])
 (.cond (.t 11) (.seq (.ops [⟨(some 12), none, .mv (.t 4)⟩, ⟨(some 2), none, .mv (.c (.lit true 0 []))⟩, ⟨(some 3), none, .mv (.t 12)⟩])
 (.ret)) (.skip))))
 (.seq (.ops [⟨(some 13), none, .mkfn 199 [(.t 1)]⟩, ⟨(some 14), none, .call 198 [(.c (.int .i64 0)), (.t 13)]⟩, ⟨(some 5), none, .mv (.t 14)⟩])
 (.seq (.ops [⟨(some 6), none, .mv (.c (.lit true 0 []))⟩])
 (.seq (.seq (.ops [⟨(some 15), none, .load none (.t 1)⟩, ⟨(some 16), none, .mv (.c (.int .i64 0))⟩])
 (.block 0 (.loop (.seq (.ops [⟨(some 17), none, .bin 0 .lss (.t 16) (.t 15)⟩])
 (.seq (.cond (.t 17) (.skip) (.exit 0))
 (.seq (.block 1 (.seq (.ops [⟨(some 18), none, .mv (.t 16)⟩, ⟨(some 7), none, .mv (.t 18)⟩])
 (.ops [⟨(some 19), none, .mv (.t 6)⟩, ⟨(some 20), none, .mv (.t 7)⟩, ⟨(some 21), none, .bin 0 .add (.t 20) (.c (.int .i64 1))⟩, ⟨(some 22), none, .mv (.t 5)⟩, ⟨(some 23), none, .call 200 [(.t 21), (.t 22)]⟩, ⟨(some 24), none, .bslice 9 1 1 [(.str [])] [(0, 1, (.t 23))]⟩, ⟨(some 25), none, .app 9 1 16 (.t 19) (.t 24)⟩, ⟨(some 6), none, .mv (.t 25)⟩])))
 (.ops [⟨(some 26), none, .bin 0 .add (.t 16) (.c (.int .i64 1))⟩, ⟨(some 16), none, .mv (.t 26)⟩])))))))
 (.seq (.ops [⟨(some 27), none, .mv (.t 6)⟩, ⟨(some 28), none, .mv (.t 5)⟩, ⟨(some 29), none, .call 201 [(.t 27), (.t 28)]⟩, ⟨(some 2), none, .mv (.t 29)⟩, ⟨(some 3), none, .mv (.c (.int .i64 0))⟩])
 (.ret))))))⟩
theorem c120 : compF Go.Proofs.Tryz.prog 120 = some a120 := by kernel_rfl
def a121 : AFn := ⟨27, [.c 2 (some 2), .t 3, .t 4], .seq (.ops [⟨(some 1), none, .box 157 (.t 0)⟩, ⟨(some 2), none, .alloc 41 [(.int .i64 0), (.int .i64 0)]⟩, ⟨(some 3), none, .mv (.c (.bool false))⟩, ⟨(some 4), none, .mv (.c (.int .i64 0))⟩])
 (.seq (.seq (.ops [⟨(some 8), none, .load (some 2) (.t 1)⟩, ⟨(some 9), none, .call 202 [(.t 8)]⟩, ⟨(some 5), none, .mv (.t 9)⟩])
 (.seq (.ops [⟨(some 10), none, .mv (.t 5)⟩, ⟨(some 11), none, .bin 0 .neq (.t 10) (.c (.int .i64 0))⟩])
 (.cond (.t 11) (.seq (.ops [⟨(some 12), none, .build [(.int .i64 0), (.int .i64 0)] []⟩, ⟨(some 13), none, .mv (.t 5)⟩, ⟨none, none, .store 2 (.t 2) (.t 12)⟩, ⟨(some 3), none, .mv (.c (.bool false))⟩, ⟨(some 4), none, .mv (.t 13)⟩])
 (.ret)) (.skip))))
 (.seq (.any [(⟨(some 15), none, .load (some 2) (.t 1)⟩, []), (⟨(some 16), none, .load (some 2) (.t 1)⟩, [0]), (⟨(some 17), none, .call 204 [(.t 16)]⟩, [0]), (⟨(some 18), none, .call 203 [(.t 15), (.t 17)]⟩, []), (⟨(some 14), none, .mv (.t 18)⟩, []), (⟨(some 19), none, .ext (.t 14) 0⟩, []), (⟨(some 20), none, .ext (.t 14) 1⟩, [5]), (⟨(some 6), none, .mv (.t 19)⟩, [6]), (⟨(some 7), none, .mv (.t 20)⟩, [])])
 (.seq (.seq (.ops [⟨(some 21), none, .mv (.t 7)⟩, ⟨(some 22), none, .bin 0 .eql (.t 21) (.c (.int .i64 0))⟩])
 (.cond (.t 22) (.seq (.ops [⟨(some 23), none, .build [(.int .i64 0), (.int .i64 0)] []⟩, ⟨none, none, .store 2 (.t 2) (.t 23)⟩, ⟨(some 3), none, .mv (.c (.bool false))⟩, ⟨(some 4), none, .mv (.c (.int .i64 0))⟩])
 (.ret)) (.skip)))
 (.seq (.ops [⟨(some 24), none, .mv (.t 6)⟩, ⟨(some 25), none, .mv (.t 7)⟩, ⟨(some 26), none, .call 94 [(.t 24), (.t 25)]⟩, ⟨none, none, .store 2 (.t 2) (.t 26)⟩, ⟨(some 3), none, .mv (.c (.bool true))⟩, ⟨(some 4), none, .mv (.c (.int .i64 0))⟩])
 (.ret)))))⟩
theorem c121 : compF Go.Proofs.Tryz.prog 121 = some a121 := by kernel_rfl
def a124 : AFn := ⟨9, [.t 5], .seq (.ops [⟨(some 4), none, .box 67 (.t 0)⟩, ⟨(some 5), none, .mv (.c (.bool false))⟩])
 (.seq (.ops [⟨(some 6), none, .load none (.t 1)⟩, ⟨(some 7), none, .mkfn 126 [(.t 2), (.t 4), (.t 3)]⟩, ⟨(some 8), none, .call 125 [(.t 6), (.t 7)]⟩, ⟨(some 5), none, .mv (.t 8)⟩])
 (.ret))⟩
def a127 : AFn := ⟨8, [.t 2], .seq (.ops [⟨(some 2), none, .mv (.c (.int .i64 0))⟩])
 (.seq (.cond (.c (.bool false)) (.seq (.ops [⟨(some 3), none, .mv (.t 0)⟩, ⟨(some 4), none, .conv .u32 (.t 3)⟩, ⟨(some 5), none, .call 206 [(.t 4)]⟩, ⟨(some 2), none, .mv (.t 5)⟩])
 (.ret)) (.skip))
 (.seq (.ops [⟨(some 6), none, .mv (.t 0)⟩, ⟨(some 7), none, .call 207 [(.t 6)]⟩, ⟨(some 2), none, .mv (.t 7)⟩])
 (.ret)))⟩
def a129 : AFn := ⟨10, [.t 2], .seq (.ops [⟨(some 1), none, .box 29 (.t 0)⟩, ⟨(some 2), none, .mv (.c (.lit true 0 []))⟩])
 (.seq (.ops [⟨(some 3), none, .fadr 0 (.t 1)⟩, ⟨(some 4), none, .load none (.t 3)⟩, ⟨(some 5), none, .build [(.str []), (.lit true 0 [])] [(0, 1, (.c (.str []))), (1, 1, (.t 4))]⟩, ⟨(some 6), none, .bslice 67 2 1 [(.str []), (.lit true 0 [])] [(0, 2, (.t 5))]⟩, ⟨(some 7), none, .fadr 1 (.t 1)⟩, ⟨(some 8), none, .load none (.t 7)⟩, ⟨(some 9), none, .app 67 2 40 (.t 6) (.t 8)⟩, ⟨(some 2), none, .mv (.t 9)⟩])
 (.ret))⟩
theorem c129 : compF Go.Proofs.Tryz.prog 129 = some a129 := by kernel_rfl
def a131 : AFn := ⟨8, [.t 3], .seq (.ops [⟨(some 2), none, .box 69 (.t 0)⟩, ⟨(some 3), none, .mv (.c (.bool false))⟩])
 (.seq (.ops [⟨(some 4), none, .fadr 0 (.t 2)⟩, ⟨(some 5), none, .load none (.t 4)⟩, ⟨(some 6), none, .load none (.t 1)⟩, ⟨(some 7), none, .bin 0 .eql (.t 5) (.t 6)⟩, ⟨(some 3), none, .mv (.t 7)⟩])
 (.ret))⟩
def a138 : AFn := ⟨22, [.t 4], .seq (.ops [⟨(some 4), none, .mv (.c (.lit true 0 []))⟩])
 (.seq (.ops [⟨(some 5), none, .mv (.c (.lit true 0 []))⟩])
 (.seq (.seq (.ops [⟨(some 7), none, .mv (.t 1)⟩, ⟨(some 8), none, .mv (.c (.int .i64 0))⟩])
 (.block 0 (.loop (.seq (.ops [⟨(some 9), none, .bin 0 .lss (.t 8) (.t 7)⟩])
 (.seq (.cond (.t 9) (.skip) (.exit 0))
 (.seq (.block 1 (.seq (.ops [⟨(some 10), none, .mv (.t 8)⟩, ⟨(some 6), none, .mv (.t 10)⟩])
 (.seq (.ops [⟨(some 11), none, .mv (.t 0)⟩, ⟨(some 12), none, .mv (.t 6)⟩, ⟨(some 13), none, .bin 0 .shr (.t 11) (.t 12)⟩, ⟨(some 14), none, .bin 0 .rem (.t 13) (.c (.int .i64 2))⟩, ⟨(some 15), none, .bin 0 .eql (.t 14) (.c (.int .i64 1))⟩])
 (.cond (.t 15) (.ops [⟨(some 16), none, .mv (.t 5)⟩, ⟨(some 17), none, .mv (.t 6)⟩, ⟨(some 18), none, .bslice 3 1 1 [(.int .i64 0)] [(0, 1, (.t 17))]⟩, ⟨(some 19), none, .app 3 1 8 (.t 16) (.t 18)⟩, ⟨(some 5), none, .mv (.t 19)⟩]) (.skip)))))
 (.ops [⟨(some 20), none, .bin 0 .add (.t 8) (.c (.int .i64 1))⟩, ⟨(some 8), none, .mv (.t 20)⟩])))))))
 (.seq (.ops [⟨(some 21), none, .mv (.t 5)⟩, ⟨(some 4), none, .mv (.t 21)⟩])
 (.ret))))⟩
def a139 : AFn := ⟨40, [.t 4], .seq (.ops [⟨(some 4), none, .mv (.c (.lit true 0 []))⟩])
 (.seq (.ops [⟨(some 8), none, .mv (.t 0)⟩, ⟨(some 9), none, .bin 0 .shl (.c (.int .i64 1)) (.t 8)⟩, ⟨(some 10), none, .bin 0 .sub (.t 9) (.c (.int .i64 1))⟩, ⟨(some 11), none, .mv (.t 0)⟩, ⟨(some 12), none, .call 138 [(.t 10), (.t 11)]⟩, ⟨(some 5), none, .mv (.t 12)⟩])
 (.seq (.seq (.ops [⟨(some 13), none, .mv (.t 0)⟩, ⟨(some 14), none, .bin 0 .shl (.c (.int .i64 1)) (.t 13)⟩, ⟨(some 15), none, .mv (.c (.int .i64 0))⟩])
 (.block 0 (.loop (.seq (.ops [⟨(some 16), none, .bin 0 .lss (.t 15) (.t 14)⟩])
 (.seq (.cond (.t 16) (.skip) (.exit 0))
 (.seq (.block 1 (.seq (.ops [⟨(some 17), none, .mv (.t 15)⟩, ⟨(some 6), none, .mv (.t 17)⟩])
 (.seq (.ops [⟨(some 18), none, .mv (.t 6)⟩, ⟨(some 19), none, .mv (.t 0)⟩, ⟨(some 20), none, .call 138 [(.t 18), (.t 19)]⟩, ⟨(some 7), none, .mv (.t 20)⟩])
 (.seq (.ops [⟨(some 21), none, .mv (.t 7)⟩, ⟨(some 22), none, .len false (.t 21)⟩, ⟨(some 23), none, .mv (.t 5)⟩, ⟨(some 24), none, .len false (.t 23)⟩, ⟨(some 25), none, .call 143 [(.t 22), (.t 24)]⟩, ⟨(some 26), none, .mv (.t 7)⟩, ⟨(some 27), none, .mv (.t 5)⟩, ⟨(some 28), none, .call 210 [(.t 26), (.t 27)]⟩, ⟨(some 29), none, .bslice 3 1 2 [(.int .i64 0)] [(0, 1, (.t 25)), (1, 1, (.t 28))]⟩, ⟨(some 30), none, .call 142 [(.t 29)]⟩, ⟨(some 31), none, .bin 0 .lss (.t 30) (.c (.int .i64 0))⟩, ⟨(some 32), none, .mv (.t 31)⟩, ⟨(some 33), (some (32, true)), .mv (.t 1)⟩, ⟨(some 34), (some (32, true)), .mv (.t 7)⟩, ⟨(some 35), (some (32, true)), .callv (.t 33) [(.t 34)]⟩, ⟨(some 36), none, .pick (.t 32) (.t 35) (.c (.bool false))⟩])
 (.cond (.t 36) (.ops [⟨(some 37), none, .mv (.t 7)⟩, ⟨(some 5), none, .mv (.t 37)⟩]) (.skip))))))
 (.ops [⟨(some 38), none, .bin 0 .add (.t 15) (.c (.int .i64 1))⟩, ⟨(some 15), none, .mv (.t 38)⟩])))))))
 (.seq (.ops [⟨(some 39), none, .mv (.t 5)⟩, ⟨(some 4), none, .mv (.t 39)⟩])
 (.ret))))⟩
def a151 : AFn := ⟨19, [.t 4], .seq (.ops [⟨(some 4), none, .mv (.c (.int .i64 0))⟩])
 (.seq (.seq (.ops [⟨(some 6), none, .mv (.t 0)⟩, ⟨(some 7), none, .len false (.t 6)⟩, ⟨(some 8), none, .mv (.c (.int .i64 0))⟩])
 (.block 0 (.loop (.seq (.ops [⟨(some 9), none, .bin 0 .lss (.t 8) (.t 7)⟩])
 (.seq (.cond (.t 9) (.skip) (.exit 0))
 (.seq (.block 1 (.seq (.ops [⟨(some 10), none, .mv (.t 8)⟩, ⟨(some 5), none, .mv (.t 10)⟩])
 (.seq (.ops [⟨(some 11), none, .mv (.t 1)⟩, ⟨(some 12), none, .mv (.t 0)⟩, ⟨(some 13), none, .mv (.t 5)⟩, ⟨(some 14), none, .iadr 1 (.t 12) (.t 13)⟩, ⟨(some 15), none, .load none (.t 14)⟩, ⟨(some 16), none, .callv (.t 11) [(.t 15)]⟩])
 (.cond (.t 16) (.seq (.ops [⟨(some 17), none, .mv (.t 5)⟩, ⟨(some 4), none, .mv (.t 17)⟩])
 (.ret)) (.skip)))))
 (.ops [⟨(some 18), none, .bin 0 .add (.t 8) (.c (.int .i64 1))⟩, ⟨(some 8), none, .mv (.t 18)⟩])))))))
 (.seq (.ops [⟨(some 4), none, .mv (.c (.int .i64 (-1)))⟩])
 (.ret)))⟩
theorem c151 : compF Go.Proofs.Tryz.prog 151 = some a151 := by kernel_rfl
def a152 : AFn := ⟨6, [.t 2], .seq (.ops [⟨(some 2), none, .mv (.c (.bool false))⟩])
 (.seq (.ops [⟨(some 3), none, .mv (.t 0)⟩, ⟨(some 4), none, .call 153 [(.t 3)]⟩, ⟨(some 5), none, .un .not (.t 4)⟩, ⟨(some 2), none, .mv (.t 5)⟩])
 (.ret))⟩
theorem c152 : compF Go.Proofs.Tryz.prog 152 = some a152 := by kernel_rfl
def a153 : AFn := ⟨19, [.t 2], .seq (.ops [⟨(some 2), none, .mv (.c (.bool false))⟩])
 (.seq (.seq (.ops [⟨(some 4), none, .mv (.t 0)⟩, ⟨(some 5), none, .len true (.t 4)⟩, ⟨(some 6), none, .mv (.c (.int .i64 0))⟩])
 (.block 0 (.loop (.seq (.ops [⟨(some 7), none, .bin 0 .lss (.t 6) (.t 5)⟩])
 (.seq (.cond (.t 7) (.skip) (.exit 0))
 (.seq (.block 1 (.seq (.ops [⟨(some 8), none, .mv (.t 6)⟩, ⟨(some 3), none, .mv (.t 8)⟩])
 (.seq (.ops [⟨(some 9), none, .mv (.t 0)⟩, ⟨(some 10), none, .mv (.t 3)⟩, ⟨(some 11), none, .idxs (.t 9) (.t 10)⟩, ⟨(some 12), none, .conv .i64 (.t 11)⟩, ⟨(some 13), none, .call 155 [(.t 12), (.c (.int .i64 33)), (.c (.int .i64 126))]⟩])
 (.cond (.t 13) (.seq (.ops [⟨(some 2), none, .mv (.c (.bool false))⟩])
 (.ret)) (.skip)))))
 (.ops [⟨(some 14), none, .bin 0 .add (.t 6) (.c (.int .i64 1))⟩, ⟨(some 6), none, .mv (.t 14)⟩])))))))
 (.seq (.ops [⟨(some 15), none, .mv (.t 0)⟩, ⟨(some 16), none, .len true (.t 15)⟩, ⟨(some 17), none, .call 155 [(.t 16), (.c (.int .i64 1)), (.c (.int .i64 100))]⟩, ⟨(some 18), none, .un .not (.t 17)⟩, ⟨(some 2), none, .mv (.t 18)⟩])
 (.ret)))⟩
theorem c153 : compF Go.Proofs.Tryz.prog 153 = some a153 := by kernel_rfl
def a154 : AFn := ⟨54, [.t 2], .seq (.ops [⟨(some 2), none, .mv (.c (.bool false))⟩])
 (.seq (.seq (.ops [⟨(some 5), none, .mv (.t 0)⟩, ⟨(some 6), none, .bin 1 .eql (.t 5) (.c (.str []))⟩, ⟨(some 7), none, .mv (.t 6)⟩, ⟨(some 8), (some (7, false)), .mv (.t 0)⟩, ⟨(some 9), (some (7, false)), .len true (.t 8)⟩, ⟨(some 10), (some (7, false)), .bin 0 .gtr (.t 9) (.c (.int .i64 40))⟩, ⟨(some 11), none, .pick (.t 7) (.c (.bool true)) (.t 10)⟩, ⟨(some 12), none, .mv (.t 11)⟩, ⟨(some 13), (some (12, false)), .mv (.t 0)⟩, ⟨(some 14), (some (12, false)), .idxs (.t 13) (.c (.int .i64 0))⟩, ⟨(some 15), (some (12, false)), .bin 0 .lss (.t 14) (.c (.int .u8 97))⟩, ⟨(some 16), none, .pick (.t 12) (.c (.bool true)) (.t 15)⟩, ⟨(some 17), none, .mv (.t 16)⟩, ⟨(some 18), (some (17, false)), .mv (.t 0)⟩, ⟨(some 19), (some (17, false)), .idxs (.t 18) (.c (.int .i64 0))⟩, ⟨(some 20), (some (17, false)), .bin 0 .gtr (.t 19) (.c (.int .u8 122))⟩, ⟨(some 21), none, .pick (.t 17) (.c (.bool true)) (.t 20)⟩])
 (.cond (.t 21) (.seq (.ops [⟨(some 2), none, .mv (.c (.bool false))⟩])
 (.ret)) (.skip)))
 (.seq (.seq (.ops [⟨(some 22), none, .mv (.t 0)⟩, ⟨(some 23), none, .len true (.t 22)⟩, ⟨(some 24), none, .mv (.c (.int .i64 0))⟩])
 (.block 0 (.loop (.seq (.ops [⟨(some 25), none, .bin 0 .lss (.t 24) (.t 23)⟩])
 (.seq (.cond (.t 25) (.skip) (.exit 0))
 (.seq (.block 1 (.seq (.ops [⟨(some 26), none, .mv (.t 24)⟩, ⟨(some 3), none, .mv (.t 26)⟩])
 (.seq (.ops [⟨(some 27), none, .mv (.t 0)⟩, ⟨(some 28), none, .mv (.t 3)⟩, ⟨(some 29), none, .idxs (.t 27) (.t 28)⟩, ⟨(some 4), none, .mv (.t 29)⟩])
 (.seq (.ops [⟨(some 30), none, .mv (.t 4)⟩, ⟨(some 31), none, .bin 0 .geq (.t 30) (.c (.int .u8 97))⟩, ⟨(some 32), none, .mv (.t 31)⟩, ⟨(some 33), (some (32, true)), .mv (.t 4)⟩, ⟨(some 34), (some (32, true)), .bin 0 .leq (.t 33) (.c (.int .u8 122))⟩, ⟨(some 35), none, .pick (.t 32) (.t 34) (.c (.bool false))⟩, ⟨(some 36), none, .mv (.t 35)⟩, ⟨(some 37), (some (36, false)), .mv (.t 4)⟩, ⟨(some 38), (some (36, false)), .bin 0 .geq (.t 37) (.c (.int .u8 48))⟩, ⟨(some 39), (some (36, false)), .mv (.t 38)⟩, ⟨(some 40), (some (39, true)), .mv (.t 4)⟩, ⟨(some 41), (some (39, true)), .bin 0 .leq (.t 40) (.c (.int .u8 57))⟩, ⟨(some 42), (some (36, false)), .pick (.t 39) (.t 41) (.c (.bool false))⟩, ⟨(some 43), none, .pick (.t 36) (.c (.bool true)) (.t 42)⟩, ⟨(some 44), none, .mv (.t 43)⟩, ⟨(some 45), (some (44, false)), .mv (.t 4)⟩, ⟨(some 46), (some (44, false)), .bin 0 .eql (.t 45) (.c (.int .u8 45))⟩, ⟨(some 47), none, .pick (.t 44) (.c (.bool true)) (.t 46)⟩, ⟨(some 48), none, .mv (.t 47)⟩, ⟨(some 49), (some (48, false)), .mv (.t 4)⟩, ⟨(some 50), (some (48, false)), .bin 0 .eql (.t 49) (.c (.int .u8 95))⟩, ⟨(some 51), none, .pick (.t 48) (.c (.bool true)) (.t 50)⟩, ⟨(some 52), none, .un .not (.t 51)⟩])
 (.cond (.t 52) (.seq (.ops [⟨(some 2), none, .mv (.c (.bool false))⟩])
 (.ret)) (.skip))))))
 (.ops [⟨(some 53), none, .bin 0 .add (.t 24) (.c (.int .i64 1))⟩, ⟨(some 24), none, .mv (.t 53)⟩])))))))
 (.seq (.ops [⟨(some 2), none, .mv (.c (.bool true))⟩])
 (.ret))))⟩
theorem c154 : compF Go.Proofs.Tryz.prog 154 = some a154 := by kernel_rfl
def a155 : AFn := ⟨15, [.t 6], .seq (.ops [⟨(some 6), none, .mv (.c (.bool false))⟩])
 (.seq (.ops [⟨(some 7), none, .mv (.t 0)⟩, ⟨(some 8), none, .mv (.t 1)⟩, ⟨(some 9), none, .bin 0 .lss (.t 7) (.t 8)⟩, ⟨(some 10), none, .mv (.t 9)⟩, ⟨(some 11), (some (10, false)), .mv (.t 0)⟩, ⟨(some 12), (some (10, false)), .mv (.t 2)⟩, ⟨(some 13), (some (10, false)), .bin 0 .gtr (.t 11) (.t 12)⟩, ⟨(some 14), none, .pick (.t 10) (.c (.bool true)) (.t 13)⟩, ⟨(some 6), none, .mv (.t 14)⟩])
 (.ret))⟩
theorem c155 : compF Go.Proofs.Tryz.prog 155 = some a155 := by kernel_rfl
def a175 : AFn := ⟨19, [.t 4], .seq (.ops [⟨(some 4), none, .mv (.c (.int .i64 0))⟩])
 (.seq (.seq (.ops [⟨(some 6), none, .mv (.t 0)⟩, ⟨(some 7), none, .len false (.t 6)⟩, ⟨(some 8), none, .mv (.c (.int .i64 0))⟩])
 (.block 0 (.loop (.seq (.ops [⟨(some 9), none, .bin 0 .lss (.t 8) (.t 7)⟩])
 (.seq (.cond (.t 9) (.skip) (.exit 0))
 (.seq (.block 1 (.seq (.ops [⟨(some 10), none, .mv (.t 8)⟩, ⟨(some 5), none, .mv (.t 10)⟩])
 (.seq (.ops [⟨(some 11), none, .mv (.t 1)⟩, ⟨(some 12), none, .mv (.t 0)⟩, ⟨(some 13), none, .mv (.t 5)⟩, ⟨(some 14), none, .iadr 1 (.t 12) (.t 13)⟩, ⟨(some 15), none, .load none (.t 14)⟩, ⟨(some 16), none, .callv (.t 11) [(.t 15)]⟩])
 (.cond (.t 16) (.seq (.ops [⟨(some 17), none, .mv (.t 5)⟩, ⟨(some 4), none, .mv (.t 17)⟩])
 (.ret)) (.skip)))))
 (.ops [⟨(some 18), none, .bin 0 .add (.t 8) (.c (.int .i64 1))⟩, ⟨(some 8), none, .mv (.t 18)⟩])))))))
 (.seq (.ops [⟨(some 4), none, .mv (.c (.int .i64 (-1)))⟩])
 (.ret)))⟩
theorem c175 : compF Go.Proofs.Tryz.prog 175 = some a175 := by kernel_rfl
def a178 : AFn := ⟨9, [.t 4], .seq (.ops [⟨(some 4), none, .mv (.c (.bool false))⟩])
 (.seq (.ops [⟨(some 5), none, .mv (.t 0)⟩, ⟨(some 6), none, .mv (.t 1)⟩, ⟨(some 7), none, .call 229 [(.t 5), (.t 6)]⟩, ⟨(some 8), none, .bin 0 .geq (.t 7) (.c (.int .i64 0))⟩, ⟨(some 4), none, .mv (.t 8)⟩])
 (.ret))⟩
theorem c178 : compF Go.Proofs.Tryz.prog 178 = some a178 := by kernel_rfl
def a179 : AFn := ⟨9, [.t 2], .seq (.ops [⟨(some 2), none, .mv (.c (.bool false))⟩])
 (.seq (.ops [⟨(some 3), none, .mv (.t 0)⟩, ⟨(some 4), none, .bin 0 .lss (.t 3) (.c (.int .u8 33))⟩, ⟨(some 5), none, .mv (.t 4)⟩, ⟨(some 6), (some (5, false)), .mv (.t 0)⟩, ⟨(some 7), (some (5, false)), .bin 0 .gtr (.t 6) (.c (.int .u8 126))⟩, ⟨(some 8), none, .pick (.t 5) (.c (.bool true)) (.t 7)⟩, ⟨(some 2), none, .mv (.t 8)⟩])
 (.ret))⟩
theorem c179 : compF Go.Proofs.Tryz.prog 179 = some a179 := by kernel_rfl
def a181 : AFn := ⟨8, [.t 4], .seq (.ops [⟨(some 4), none, .mv (.c (.int .i64 0))⟩])
 (.seq (.ops [⟨(some 5), none, .mv (.t 0)⟩, ⟨(some 6), none, .mv (.t 1)⟩, ⟨(some 7), none, .call 237 [(.t 5), (.t 6)]⟩, ⟨(some 4), none, .mv (.t 7)⟩])
 (.ret))⟩
theorem c181 : compF Go.Proofs.Tryz.prog 181 = some a181 := by kernel_rfl
def a182 : AFn := ⟨19, [.t 4], .seq (.ops [⟨(some 4), none, .mv (.c (.int .i64 0))⟩])
 (.seq (.seq (.ops [⟨(some 6), none, .mv (.t 0)⟩, ⟨(some 7), none, .len false (.t 6)⟩, ⟨(some 8), none, .mv (.c (.int .i64 0))⟩])
 (.block 0 (.loop (.seq (.ops [⟨(some 9), none, .bin 0 .lss (.t 8) (.t 7)⟩])
 (.seq (.cond (.t 9) (.skip) (.exit 0))
 (.seq (.block 1 (.seq (.ops [⟨(some 10), none, .mv (.t 8)⟩, ⟨(some 5), none, .mv (.t 10)⟩])
 (.seq (.ops [⟨(some 11), none, .mv (.t 1)⟩, ⟨(some 12), none, .mv (.t 0)⟩, ⟨(some 13), none, .mv (.t 5)⟩, ⟨(some 14), none, .iadr 1 (.t 12) (.t 13)⟩, ⟨(some 15), none, .load none (.t 14)⟩, ⟨(some 16), none, .callv (.t 11) [(.t 15)]⟩])
 (.cond (.t 16) (.seq (.ops [⟨(some 17), none, .mv (.t 5)⟩, ⟨(some 4), none, .mv (.t 17)⟩])
 (.ret)) (.skip)))))
 (.ops [⟨(some 18), none, .bin 0 .add (.t 8) (.c (.int .i64 1))⟩, ⟨(some 8), none, .mv (.t 18)⟩])))))))
 (.seq (.ops [⟨(some 4), none, .mv (.c (.int .i64 (-1)))⟩])
 (.ret)))⟩
def a183 : AFn := ⟨25, [.t 4], .seq (.ops [⟨(some 2), none, .box 67 (.t 0)⟩, ⟨(some 4), none, .mv (.c (.str []))⟩])
 (.seq (.ops [⟨(some 5), none, .mv (.c (.lit true 0 []))⟩])
 (.seq (.seq (.ops [⟨(some 8), none, .mv (.t 1)⟩, ⟨(some 9), none, .len false (.t 8)⟩, ⟨(some 10), none, .mv (.c (.int .i64 0))⟩])
 (.block 0 (.loop (.seq (.ops [⟨(some 11), none, .bin 0 .lss (.t 10) (.t 9)⟩])
 (.seq (.cond (.t 11) (.skip) (.exit 0))
 (.seq (.block 1 (.seq (.ops [⟨(some 12), none, .iadr 1 (.t 8) (.t 10)⟩, ⟨(some 13), none, .load none (.t 12)⟩, ⟨(some 7), none, .mv (.t 13)⟩])
 (.ops [⟨(some 14), none, .mv (.t 5)⟩, ⟨(some 15), none, .fadr 1 (.t 2)⟩, ⟨(some 16), none, .load none (.t 15)⟩, ⟨(some 17), none, .mv (.t 7)⟩, ⟨(some 18), none, .iadr 1 (.t 16) (.t 17)⟩, ⟨(some 19), none, .load none (.t 18)⟩, ⟨(some 20), none, .bslice 9 1 1 [(.str [])] [(0, 1, (.t 19))]⟩, ⟨(some 21), none, .app 9 1 16 (.t 14) (.t 20)⟩, ⟨(some 5), none, .mv (.t 21)⟩])))
 (.ops [⟨(some 22), none, .bin 0 .add (.t 10) (.c (.int .i64 1))⟩, ⟨(some 10), none, .mv (.t 22)⟩])))))))
 (.seq (.ops [⟨(some 23), none, .mv (.t 5)⟩, ⟨(some 24), none, .call 160 [(.t 23), (.c (.str [32]))]⟩, ⟨(some 4), none, .mv (.t 24)⟩])
 (.ret))))⟩
theorem c183 : compF Go.Proofs.Tryz.prog 183 = some a183 := by kernel_rfl
def a184 : AFn := ⟨12, [.t 4], .seq (.ops [⟨(some 4), none, .mv (.c (.int .i64 0))⟩])
 (.seq (.block 0 (.loop (.seq (.seq (.ops [⟨(some 5), none, .mv (.t 1)⟩, ⟨(some 6), none, .bin 0 .neq (.t 5) (.c (.int .i64 0))⟩])
 (.cond (.t 6) (.skip) (.exit 0)))
 (.block 1 (.any [(⟨(some 7), none, .mv (.t 1)⟩, []), (⟨(some 8), none, .mv (.t 0)⟩, [0]), (⟨(some 9), none, .mv (.t 1)⟩, [0, 1]), (⟨(some 10), none, .bin 0 .rem (.t 8) (.t 9)⟩, [0]), (⟨(some 0), none, .mv (.t 7)⟩, [2, 3]), (⟨(some 1), none, .mv (.t 10)⟩, [])])))))
 (.seq (.ops [⟨(some 11), none, .mv (.t 0)⟩, ⟨(some 4), none, .mv (.t 11)⟩])
 (.ret)))⟩
theorem c184 : compF Go.Proofs.Tryz.prog 184 = some a184 := by kernel_rfl
def a186 : AFn := ⟨19, [.t 4], .seq (.ops [⟨(some 4), none, .mv (.c (.int .i64 0))⟩])
 (.seq (.seq (.ops [⟨(some 6), none, .mv (.t 0)⟩, ⟨(some 7), none, .len false (.t 6)⟩, ⟨(some 8), none, .mv (.c (.int .i64 0))⟩])
 (.block 0 (.loop (.seq (.ops [⟨(some 9), none, .bin 0 .lss (.t 8) (.t 7)⟩])
 (.seq (.cond (.t 9) (.skip) (.exit 0))
 (.seq (.block 1 (.seq (.ops [⟨(some 10), none, .mv (.t 8)⟩, ⟨(some 5), none, .mv (.t 10)⟩])
 (.seq (.ops [⟨(some 11), none, .mv (.t 1)⟩, ⟨(some 12), none, .mv (.t 0)⟩, ⟨(some 13), none, .mv (.t 5)⟩, ⟨(some 14), none, .iadr 1 (.t 12) (.t 13)⟩, ⟨(some 15), none, .load none (.t 14)⟩, ⟨(some 16), none, .bin 0 .eql (.t 11) (.t 15)⟩])
 (.cond (.t 16) (.seq (.ops [⟨(some 17), none, .mv (.t 5)⟩, ⟨(some 4), none, .mv (.t 17)⟩])
 (.ret)) (.skip)))))
 (.ops [⟨(some 18), none, .bin 0 .add (.t 8) (.c (.int .i64 1))⟩, ⟨(some 8), none, .mv (.t 18)⟩])))))))
 (.seq (.ops [⟨(some 4), none, .mv (.c (.int .i64 (-1)))⟩])
 (.ret)))⟩
theorem c186 : compF Go.Proofs.Tryz.prog 186 = some a186 := by kernel_rfl
def a195 : AFn := ⟨6, [.t 2], .seq (.ops [⟨(some 2), none, .mv (.c (.bool false))⟩])
 (.seq (.ops [⟨(some 3), none, .mv (.t 0)⟩, ⟨(some 4), none, .call 155 [(.t 3), (.c (.int .i64 0)), (.c (.int .i64 15))]⟩, ⟨(some 5), none, .un .not (.t 4)⟩, ⟨(some 2), none, .mv (.t 5)⟩])
 (.ret))⟩
theorem c195 : compF Go.Proofs.Tryz.prog 195 = some a195 := by kernel_rfl
def a196 : AFn := ⟨57, [.t 4], .seq (.ops [⟨(some 4), none, .mv (.c (.str []))⟩])
 (.seq (.ops [⟨(some 12), none, .mmk (.i .i64) (.str [])⟩, ⟨(some 13), none, .mv (.t 0)⟩, ⟨none, none, .mup (.i .i64) (.t 12) (.t 13) (.c (.str []))⟩, ⟨(some 14), none, .mv (.t 12)⟩, ⟨(some 5), none, .mv (.t 14)⟩])
 (.seq (.ops [⟨(some 15), none, .mv (.t 0)⟩, ⟨(some 16), none, .bslice 3 1 1 [(.int .i64 0)] [(0, 1, (.t 15))]⟩, ⟨(some 6), none, .mv (.t 16)⟩])
 (.seq (.block 0 (.loop (.seq (.seq (.ops [⟨(some 17), none, .mv (.t 6)⟩, ⟨(some 18), none, .len false (.t 17)⟩, ⟨(some 19), none, .bin 0 .gtr (.t 18) (.c (.int .i64 0))⟩])
 (.cond (.t 19) (.skip) (.exit 0)))
 (.block 1 (.seq (.ops [⟨(some 20), none, .mv (.t 6)⟩, ⟨(some 21), none, .iadr 1 (.t 20) (.c (.int .i64 0))⟩, ⟨(some 22), none, .load none (.t 21)⟩, ⟨(some 7), none, .mv (.t 22)⟩])
 (.seq (.ops [⟨(some 23), none, .mv (.t 6)⟩, ⟨(some 24), none, .slc 1 (.t 23) (some (.c (.int .i64 1))) none⟩, ⟨(some 6), none, .mv (.t 24)⟩])
 (.seq (.ops [⟨(some 25), none, .mv (.c (.int .i64 0))⟩])
 (.block 2 (.loop (.seq (.ops [⟨(some 26), none, .bin 0 .lss (.t 25) (.c (.int .i64 2))⟩])
 (.seq (.cond (.t 26) (.skip) (.exit 2))
 (.seq (.block 3 (.seq (.ops [⟨(some 27), none, .mv (.t 25)⟩, ⟨(some 8), none, .mv (.t 27)⟩])
 (.seq (.ops [⟨(some 28), none, .mv (.t 7)⟩, ⟨(some 29), none, .mv (.t 8)⟩, ⟨(some 30), none, .call 244 [(.t 28), (.t 29)]⟩, ⟨(some 9), none, .mv (.t 30)⟩])
 (.seq (.ops [⟨(some 32), none, .mv (.t 5)⟩, ⟨(some 33), none, .mv (.t 9)⟩, ⟨(some 34), none, .mlk true (.i .i64) (.str []) (.t 32) (.t 33)⟩, ⟨(some 31), none, .mv (.t 34)⟩, ⟨(some 35), none, .ext (.t 31) 0⟩, ⟨(some 36), none, .ext (.t 31) 1⟩, ⟨(some 10), none, .mv (.t 35)⟩, ⟨(some 11), none, .mv (.t 36)⟩])
 (.seq (.ops [⟨(some 37), none, .mv (.t 11)⟩, ⟨(some 38), none, .un .not (.t 37)⟩])
 (.cond (.t 38) (.seq (.ops [⟨(some 39), none, .mv (.t 5)⟩, ⟨(some 40), none, .mv (.t 9)⟩, ⟨(some 41), none, .mv (.t 5)⟩, ⟨(some 42), none, .mv (.t 7)⟩, ⟨(some 43), none, .mlk false (.i .i64) (.str []) (.t 41) (.t 42)⟩, ⟨(some 44), none, .mv (.t 8)⟩, ⟨(some 45), none, .bin 0 .add (.c (.int .i64 48)) (.t 44)⟩, ⟨(some 46), none, .conv .i32 (.t 45)⟩, ⟨(some 47), none, .i2s (.t 46)⟩, ⟨(some 48), none, .bin 1 .add (.t 43) (.t 47)⟩, ⟨none, none, .mup (.i .i64) (.t 39) (.t 40) (.t 48)⟩])
 (.ops [⟨(some 49), none, .mv (.t 6)⟩, ⟨(some 50), none, .mv (.t 9)⟩, ⟨(some 51), none, .bslice 3 1 1 [(.int .i64 0)] [(0, 1, (.t 50))]⟩, ⟨(some 52), none, .app 3 1 8 (.t 49) (.t 51)⟩, ⟨(some 6), none, .mv (.t 52)⟩])) (.skip)))))))
 (.ops [⟨(some 53), none, .bin 0 .add (.t 25) (.c (.int .i64 1))⟩, ⟨(some 25), none, .mv (.t 53)⟩])))))))))))))
 (.seq (.ops [⟨(some 54), none, .mv (.t 5)⟩, ⟨(some 55), none, .mv (.t 1)⟩, ⟨(some 56), none, .mlk false (.i .i64) (.str []) (.t 54) (.t 55)⟩, ⟨(some 4), none, .mv (.t 56)⟩])
 (.ret)))))⟩
theorem c196 : compF Go.Proofs.Tryz.prog 196 = some a196 := by kernel_rfl
def a197 : AFn := ⟨5, [.t 2], .seq (.ops [⟨(some 2), none, .mv (.c (.int .i64 0))⟩])
 (.seq (.seq (.ops [⟨(some 3), none, .mv (.t 0)⟩, ⟨(some 4), none, .call 155 [(.t 3), (.c (.int .i64 1)), (.c (.int .i64 100))]⟩])
 (.cond (.t 4) (.seq (.ops [⟨(some 2), none, .mv (.c (.int .i64 1))⟩])
 (.ret)) (.skip)))
 (.seq (.ops [⟨(some 2), none, .mv (.c (.int .i64 0))⟩])
 (.ret)))⟩
theorem c197 : compF Go.Proofs.Tryz.prog 197 = some a197 := by kernel_rfl
def a198 : AFn := ⟨12, [.t 4], .seq (.ops [⟨(some 4), none, .mv (.c (.int .i64 0))⟩])
 (.seq (.block 0 (.loop (.seq (.seq (.ops [⟨(some 5), none, .mv (.t 1)⟩, ⟨(some 6), none, .mv (.t 0)⟩, ⟨(some 7), none, .callv (.t 5) [(.t 6)]⟩, ⟨(some 8), none, .un .not (.t 7)⟩])
 (.cond (.t 8) (.skip) (.exit 0)))
 (.block 1 (.ops [⟨(some 9), none, .mv (.t 0)⟩, ⟨(some 10), none, .bin 0 .add (.t 9) (.c (.int .i64 1))⟩, ⟨(some 0), none, .mv (.t 10)⟩])))))
 (.seq (.ops [⟨(some 11), none, .mv (.t 0)⟩, ⟨(some 4), none, .mv (.t 11)⟩])
 (.ret)))⟩
theorem c198 : compF Go.Proofs.Tryz.prog 198 = some a198 := by kernel_rfl
def a199 : AFn := ⟨9, [.t 3], .seq (.ops [⟨(some 3), none, .mv (.c (.bool false))⟩])
 (.seq (.any [(⟨(some 4), none, .mv (.t 0)⟩, []), (⟨(some 5), none, .bin 0 .shl (.c (.int .i64 1)) (.t 4)⟩, []), (⟨(some 6), none, .bin 0 .sub (.t 5) (.c (.int .i64 2))⟩, []), (⟨(some 7), none, .load none (.t 1)⟩, [0, 1, 2]), (⟨(some 8), none, .bin 0 .geq (.t 6) (.t 7)⟩, []), (⟨(some 3), none, .mv (.t 8)⟩, [])])
 (.ret))⟩
theorem c199 : compF Go.Proofs.Tryz.prog 199 = some a199 := by kernel_rfl
def a200 : AFn := ⟨24, [.t 4], .seq (.ops [⟨(some 4), none, .mv (.c (.str []))⟩])
 (.seq (.ops [⟨(some 5), none, .mv (.c (.lit true 0 []))⟩])
 (.seq (.seq (.ops [⟨(some 7), none, .mv (.t 1)⟩, ⟨(some 8), none, .bin 0 .sub (.t 7) (.c (.int .i64 1))⟩, ⟨(some 6), none, .mv (.t 8)⟩])
 (.block 0 (.loop (.seq (.seq (.ops [⟨(some 9), none, .mv (.t 6)⟩, ⟨(some 10), none, .bin 0 .geq (.t 9) (.c (.int .i64 0))⟩])
 (.cond (.t 10) (.skip) (.exit 0)))
 (.seq (.block 1 (.ops [⟨(some 13), none, .mv (.t 5)⟩, ⟨(some 14), none, .mv (.t 0)⟩, ⟨(some 15), none, .mv (.t 6)⟩, ⟨(some 16), none, .bin 0 .shr (.t 14) (.t 15)⟩, ⟨(some 17), none, .bin 0 .and (.t 16) (.c (.int .i64 1))⟩, ⟨(some 18), none, .bin 0 .add (.c (.int .i64 48)) (.t 17)⟩, ⟨(some 19), none, .conv .u8 (.t 18)⟩, ⟨(some 20), none, .bslice 5 1 1 [(.int .u8 0)] [(0, 1, (.t 19))]⟩, ⟨(some 21), none, .app 5 1 1 (.t 13) (.t 20)⟩, ⟨(some 5), none, .mv (.t 21)⟩]))
 (.ops [⟨(some 11), none, .mv (.t 6)⟩, ⟨(some 12), none, .bin 0 .sub (.t 11) (.c (.int .i64 1))⟩, ⟨(some 6), none, .mv (.t 12)⟩]))))))
 (.seq (.ops [⟨(some 22), none, .mv (.t 5)⟩, ⟨(some 23), none, .b2s (.t 22)⟩, ⟨(some 4), none, .mv (.t 23)⟩])
 (.ret))))⟩
theorem c200 : compF Go.Proofs.Tryz.prog 200 = some a200 := by kernel_rfl
def a201 : AFn := ⟨38, [.t 4], .seq (.ops [⟨(some 4), none, .mv (.c (.lit true 0 []))⟩])
 (.seq (.ops [⟨(some 5), none, .mv (.c (.lit true 0 []))⟩])
 (.seq (.seq (.ops [⟨(some 10), none, .mv (.t 1)⟩, ⟨(some 11), none, .mv (.c (.int .i64 0))⟩])
 (.block 0 (.loop (.seq (.ops [⟨(some 12), none, .bin 0 .lss (.t 11) (.t 10)⟩])
 (.seq (.cond (.t 12) (.skip) (.exit 0))
 (.seq (.block 1 (.seq (.ops [⟨(some 13), none, .mv (.t 11)⟩, ⟨(some 6), none, .mv (.t 13)⟩])
 (.seq (.ops [⟨(some 14), none, .mv (.t 0)⟩, ⟨(some 15), none, .len false (.t 14)⟩, ⟨(some 16), none, .mks 5 1 1 [(.int .u8 0)] (.t 15)⟩, ⟨(some 7), none, .mv (.t 16)⟩])
 (.seq (.seq (.ops [⟨(some 17), none, .mv (.t 0)⟩, ⟨(some 18), none, .len false (.t 17)⟩, ⟨(some 19), none, .mv (.c (.int .i64 0))⟩])
 (.block 2 (.loop (.seq (.ops [⟨(some 20), none, .bin 0 .lss (.t 19) (.t 18)⟩])
 (.seq (.cond (.t 20) (.skip) (.exit 2))
 (.seq (.block 3 (.seq (.ops [⟨(some 21), none, .mv (.t 19)⟩, ⟨(some 22), none, .iadr 1 (.t 17) (.t 19)⟩, ⟨(some 23), none, .load none (.t 22)⟩, ⟨(some 8), none, .mv (.t 21)⟩, ⟨(some 9), none, .mv (.t 23)⟩])
 (.ops [⟨(some 24), none, .mv (.t 7)⟩, ⟨(some 25), none, .mv (.t 8)⟩, ⟨(some 26), none, .mv (.t 9)⟩, ⟨(some 27), none, .mv (.t 6)⟩, ⟨(some 28), none, .idxs (.t 26) (.t 27)⟩, ⟨(some 29), none, .iadr 1 (.t 24) (.t 25)⟩, ⟨none, none, .store 1 (.t 29) (.t 28)⟩])))
 (.ops [⟨(some 30), none, .bin 0 .add (.t 19) (.c (.int .i64 1))⟩, ⟨(some 19), none, .mv (.t 30)⟩])))))))
 (.ops [⟨(some 31), none, .mv (.t 5)⟩, ⟨(some 32), none, .mv (.t 7)⟩, ⟨(some 33), none, .b2s (.t 32)⟩, ⟨(some 34), none, .bslice 9 1 1 [(.str [])] [(0, 1, (.t 33))]⟩, ⟨(some 35), none, .app 9 1 16 (.t 31) (.t 34)⟩, ⟨(some 5), none, .mv (.t 35)⟩])))))
 (.ops [⟨(some 36), none, .bin 0 .add (.t 11) (.c (.int .i64 1))⟩, ⟨(some 11), none, .mv (.t 36)⟩])))))))
 (.seq (.ops [⟨(some 37), none, .mv (.t 5)⟩, ⟨(some 4), none, .mv (.t 37)⟩])
 (.ret))))⟩
theorem c201 : compF Go.Proofs.Tryz.prog 201 = some a201 := by kernel_rfl
def a202 : AFn := ⟨72, [.t 2], .seq (.ops [⟨(some 1), none, .box 157 (.t 0)⟩, ⟨(some 2), none, .mv (.c (.int .i64 0))⟩])
 (.seq (.block 0 (.seq (.ops [⟨(some 7), none, .fadr 0 (.t 1)⟩, ⟨(some 8), none, .load none (.t 7)⟩, ⟨(some 9), none, .len false (.t 8)⟩, ⟨(some 10), none, .bin 0 .eql (.t 9) (.c (.int .i64 0))⟩, ⟨(some 6), none, .mv (.t 10)⟩])
 (.cond (.t 6) (.seq (.ops [⟨(some 2), none, .mv (.c (.int .i64 8))⟩])
 (.ret)) (.seq (.ops [⟨(some 12), none, .fadr 0 (.t 1)⟩, ⟨(some 13), none, .load none (.t 12)⟩, ⟨(some 14), none, .len false (.t 13)⟩, ⟨(some 15), none, .bin 0 .gtr (.t 14) (.c (.int .i64 60))⟩, ⟨(some 11), none, .mv (.t 15)⟩])
 (.cond (.t 11) (.seq (.ops [⟨(some 2), none, .mv (.c (.int .i64 2))⟩])
 (.ret)) (.skip))))))
 (.seq (.seq (.ops [⟨(some 16), none, .fadr 0 (.t 1)⟩, ⟨(some 17), none, .load none (.t 16)⟩, ⟨(some 18), none, .len false (.t 17)⟩, ⟨(some 19), none, .mv (.c (.int .i64 0))⟩])
 (.block 1 (.loop (.seq (.ops [⟨(some 20), none, .bin 0 .lss (.t 19) (.t 18)⟩])
 (.seq (.cond (.t 20) (.skip) (.exit 1))
 (.seq (.block 2 (.seq (.ops [⟨(some 21), none, .iadr 1 (.t 17) (.t 19)⟩, ⟨(some 22), none, .load none (.t 21)⟩, ⟨(some 4), none, .mv (.t 22)⟩])
 (.block 3 (.seq (.ops [⟨(some 24), none, .mv (.t 4)⟩, ⟨(some 25), none, .bin 1 .eql (.t 24) (.c (.str []))⟩, ⟨(some 23), none, .mv (.t 25)⟩])
 (.cond (.t 23) (.seq (.ops [⟨(some 2), none, .mv (.c (.int .i64 8))⟩])
 (.ret)) (.seq (.ops [⟨(some 27), none, .mv (.t 4)⟩, ⟨(some 28), none, .len true (.t 27)⟩, ⟨(some 29), none, .bin 0 .gtr (.t 28) (.c (.int .i64 60))⟩, ⟨(some 26), none, .mv (.t 29)⟩])
 (.cond (.t 26) (.seq (.ops [⟨(some 2), none, .mv (.c (.int .i64 2))⟩])
 (.ret)) (.seq (.ops [⟨(some 31), none, .mv (.t 4)⟩, ⟨(some 32), none, .len true (.t 31)⟩, ⟨(some 33), none, .fadr 0 (.t 1)⟩, ⟨(some 34), none, .load none (.t 33)⟩, ⟨(some 35), none, .iadr 1 (.t 34) (.c (.int .i64 0))⟩, ⟨(some 36), none, .load none (.t 35)⟩, ⟨(some 37), none, .len true (.t 36)⟩, ⟨(some 38), none, .bin 0 .neq (.t 32) (.t 37)⟩, ⟨(some 30), none, .mv (.t 38)⟩])
 (.cond (.t 30) (.seq (.ops [⟨(some 2), none, .mv (.c (.int .i64 3))⟩])
 (.ret)) (.seq (.ops [⟨(some 40), none, .mv (.t 4)⟩, ⟨(some 41), none, .call 245 [(.t 40)]⟩, ⟨(some 39), none, .mv (.t 41)⟩])
 (.cond (.t 39) (.seq (.ops [⟨(some 2), none, .mv (.c (.int .i64 9))⟩])
 (.ret)) (.skip))))))))))))
 (.ops [⟨(some 42), none, .bin 0 .add (.t 19) (.c (.int .i64 1))⟩, ⟨(some 19), none, .mv (.t 42)⟩])))))))
 (.seq (.seq (.ops [⟨(some 43), none, .fadr 1 (.t 1)⟩, ⟨(some 44), none, .load none (.t 43)⟩, ⟨(some 45), none, .len true (.t 44)⟩, ⟨(some 46), none, .mv (.c (.int .i64 0))⟩])
 (.block 4 (.loop (.seq (.ops [⟨(some 47), none, .bin 0 .lss (.t 46) (.t 45)⟩])
 (.seq (.cond (.t 47) (.skip) (.exit 4))
 (.seq (.block 5 (.seq (.ops [⟨(some 48), none, .mv (.t 46)⟩, ⟨(some 5), none, .mv (.t 48)⟩])
 (.block 6 (.seq (.ops [⟨(some 50), none, .fadr 1 (.t 1)⟩, ⟨(some 51), none, .load none (.t 50)⟩, ⟨(some 52), none, .mv (.t 5)⟩, ⟨(some 53), none, .idxs (.t 51) (.t 52)⟩, ⟨(some 54), none, .call 246 [(.t 53)]⟩, ⟨(some 55), none, .un .not (.t 54)⟩, ⟨(some 49), none, .mv (.t 55)⟩])
 (.cond (.t 49) (.seq (.ops [⟨(some 2), none, .mv (.c (.int .i64 9))⟩])
 (.ret)) (.seq (.any [(⟨(some 57), none, .mv (.t 5)⟩, []), (⟨(some 58), none, .bin 0 .gtr (.t 57) (.c (.int .i64 0))⟩, []), (⟨(some 59), none, .mv (.t 58)⟩, []), (⟨(some 60), (some (59, true)), .fadr 1 (.t 1)⟩, []), (⟨(some 61), (some (59, true)), .load none (.t 60)⟩, []), (⟨(some 62), (some (59, true)), .mv (.t 5)⟩, [3, 4]), (⟨(some 63), (some (59, true)), .idxs (.t 61) (.t 62)⟩, []), (⟨(some 64), (some (59, true)), .fadr 1 (.t 1)⟩, [3, 4, 5, 6]), (⟨(some 65), (some (59, true)), .load none (.t 64)⟩, [3, 4, 5, 6]), (⟨(some 66), (some (59, true)), .mv (.t 5)⟩, [3, 4, 5, 6, 7, 8]), (⟨(some 67), (some (59, true)), .bin 0 .sub (.t 66) (.c (.int .i64 1))⟩, [3, 4, 5, 6, 7, 8]), (⟨(some 68), (some (59, true)), .idxs (.t 65) (.t 67)⟩, [3, 4, 5, 6]), (⟨(some 69), (some (59, true)), .bin 0 .leq (.t 63) (.t 68)⟩, []), (⟨(some 70), none, .pick (.t 59) (.t 69) (.c (.bool false))⟩, []), (⟨(some 56), none, .mv (.t 70)⟩, [])])
 (.cond (.t 56) (.seq (.ops [⟨(some 2), none, .mv (.c (.int .i64 7))⟩])
 (.ret)) (.skip))))))))
 (.ops [⟨(some 71), none, .bin 0 .add (.t 46) (.c (.int .i64 1))⟩, ⟨(some 46), none, .mv (.t 71)⟩])))))))
 (.seq (.ops [⟨(some 2), none, .mv (.c (.int .i64 0))⟩])
 (.ret)))))⟩
theorem c202 : compF Go.Proofs.Tryz.prog 202 = some a202 := by kernel_rfl
def a203 : AFn := ⟨30, [.t 4, .t 5], .seq (.ops [⟨(some 2), none, .box 157 (.t 0)⟩, ⟨(some 4), none, .mv (.c (.int .i64 0))⟩, ⟨(some 5), none, .mv (.c (.int .i64 0))⟩])
 (.seq (.seq (.ops [⟨(some 9), none, .mv (.t 1)⟩, ⟨(some 10), none, .len false (.t 9)⟩, ⟨(some 11), none, .mv (.c (.int .i64 0))⟩])
 (.block 0 (.loop (.seq (.ops [⟨(some 12), none, .bin 0 .lss (.t 11) (.t 10)⟩])
 (.seq (.cond (.t 12) (.skip) (.exit 0))
 (.seq (.block 1 (.seq (.ops [⟨(some 13), none, .iadr 2 (.t 9) (.t 11)⟩, ⟨(some 14), none, .load (some 2) (.t 13)⟩, ⟨(some 7), none, .alloc 258 [(.int .i64 0), (.int .i64 0)]⟩, ⟨none, none, .store 2 (.t 7) (.t 14)⟩])
 (.seq (.ops [⟨(some 15), none, .load (some 2) (.t 2)⟩, ⟨(some 16), none, .load (some 2) (.t 7)⟩, ⟨(some 17), none, .call 247 [(.t 15), (.t 16)]⟩, ⟨(some 8), none, .mv (.t 17)⟩])
 (.seq (.seq (.ops [⟨(some 18), none, .mv (.t 8)⟩, ⟨(some 19), none, .call 248 [(.t 18)]⟩])
 (.cond (.t 19) (.ops [⟨(some 20), none, .mv (.t 5)⟩, ⟨(some 21), none, .bin 0 .add (.t 20) (.c (.int .i64 1))⟩, ⟨(some 5), none, .mv (.t 21)⟩]) (.skip)))
 (.seq (.ops [⟨(some 22), none, .load (some 2) (.t 2)⟩, ⟨(some 23), none, .mv (.t 8)⟩, ⟨(some 24), none, .call 249 [(.t 22), (.t 23)]⟩])
 (.cond (.t 24) (.ops [⟨(some 25), none, .mv (.t 4)⟩, ⟨(some 26), none, .bin 0 .add (.t 25) (.c (.int .i64 1))⟩, ⟨(some 4), none, .mv (.t 26)⟩]) (.skip)))))))
 (.ops [⟨(some 27), none, .bin 0 .add (.t 11) (.c (.int .i64 1))⟩, ⟨(some 11), none, .mv (.t 27)⟩])))))))
 (.seq (.ops [⟨(some 28), none, .mv (.t 4)⟩, ⟨(some 29), none, .mv (.t 5)⟩, ⟨(some 4), none, .mv (.t 28)⟩, ⟨(some 5), none, .mv (.t 29)⟩])
 (.ret)))⟩
theorem c203 : compF Go.Proofs.Tryz.prog 203 = some a203 := by kernel_rfl
def a204 : AFn := ⟨29, [.t 2], .seq (.ops [⟨(some 1), none, .box 157 (.t 0)⟩, ⟨(some 2), none, .mv (.c (.lit true 0 []))⟩])
 (.seq (.ops [⟨(some 3), none, .mv (.c (.lit true 0 []))⟩])
 (.seq (.seq (.ops [⟨(some 7), none, .fadr 0 (.t 1)⟩, ⟨(some 8), none, .load none (.t 7)⟩, ⟨(some 9), none, .len false (.t 8)⟩, ⟨(some 10), none, .mv (.c (.int .i64 0))⟩])
 (.block 0 (.loop (.seq (.ops [⟨(some 11), none, .bin 0 .lss (.t 10) (.t 9)⟩])
 (.seq (.cond (.t 11) (.skip) (.exit 0))
 (.seq (.block 1 (.seq (.ops [⟨(some 12), none, .mv (.t 10)⟩, ⟨(some 13), none, .iadr 1 (.t 8) (.t 10)⟩, ⟨(some 14), none, .load none (.t 13)⟩, ⟨(some 4), none, .mv (.t 12)⟩, ⟨(some 5), none, .mv (.t 14)⟩])
 (.seq (.ops [⟨(some 15), none, .mv (.t 5)⟩, ⟨(some 16), none, .len true (.t 15)⟩, ⟨(some 17), none, .mv (.c (.int .i64 0))⟩])
 (.block 2 (.loop (.seq (.ops [⟨(some 18), none, .bin 0 .lss (.t 17) (.t 16)⟩])
 (.seq (.cond (.t 18) (.skip) (.exit 2))
 (.seq (.block 3 (.seq (.ops [⟨(some 19), none, .mv (.t 17)⟩, ⟨(some 6), none, .mv (.t 19)⟩])
 (.ops [⟨(some 20), none, .mv (.t 3)⟩, ⟨(some 21), none, .mv (.t 6)⟩, ⟨(some 22), none, .mv (.t 4)⟩, ⟨(some 23), none, .build [(.int .i64 0), (.int .i64 0)] [(0, 1, (.t 21)), (1, 1, (.t 22))]⟩, ⟨(some 24), none, .bslice 258 2 1 [(.int .i64 0), (.int .i64 0)] [(0, 2, (.t 23))]⟩, ⟨(some 25), none, .app 258 2 16 (.t 20) (.t 24)⟩, ⟨(some 3), none, .mv (.t 25)⟩])))
 (.ops [⟨(some 26), none, .bin 0 .add (.t 17) (.c (.int .i64 1))⟩, ⟨(some 17), none, .mv (.t 26)⟩])))))))))
 (.ops [⟨(some 27), none, .bin 0 .add (.t 10) (.c (.int .i64 1))⟩, ⟨(some 10), none, .mv (.t 27)⟩])))))))
 (.seq (.ops [⟨(some 28), none, .mv (.t 3)⟩, ⟨(some 2), none, .mv (.t 28)⟩])
 (.ret))))⟩
theorem c204 : compF Go.Proofs.Tryz.prog 204 = some a204 := by kernel_rfl
def a229 : AFn := ⟨19, [.t 4], .seq (.ops [⟨(some 4), none, .mv (.c (.int .i64 0))⟩])
 (.seq (.seq (.ops [⟨(some 6), none, .mv (.t 0)⟩, ⟨(some 7), none, .len false (.t 6)⟩, ⟨(some 8), none, .mv (.c (.int .i64 0))⟩])
 (.block 0 (.loop (.seq (.ops [⟨(some 9), none, .bin 0 .lss (.t 8) (.t 7)⟩])
 (.seq (.cond (.t 9) (.skip) (.exit 0))
 (.seq (.block 1 (.seq (.ops [⟨(some 10), none, .mv (.t 8)⟩, ⟨(some 5), none, .mv (.t 10)⟩])
 (.seq (.ops [⟨(some 11), none, .mv (.t 1)⟩, ⟨(some 12), none, .mv (.t 0)⟩, ⟨(some 13), none, .mv (.t 5)⟩, ⟨(some 14), none, .iadr 1 (.t 12) (.t 13)⟩, ⟨(some 15), none, .load none (.t 14)⟩, ⟨(some 16), none, .callv (.t 11) [(.t 15)]⟩])
 (.cond (.t 16) (.seq (.ops [⟨(some 17), none, .mv (.t 5)⟩, ⟨(some 4), none, .mv (.t 17)⟩])
 (.ret)) (.skip)))))
 (.ops [⟨(some 18), none, .bin 0 .add (.t 8) (.c (.int .i64 1))⟩, ⟨(some 8), none, .mv (.t 18)⟩])))))))
 (.seq (.ops [⟨(some 4), none, .mv (.c (.int .i64 (-1)))⟩])
 (.ret)))⟩
theorem c229 : compF Go.Proofs.Tryz.prog 229 = some a229 := by kernel_rfl
def a237 : AFn := ⟨8, [.t 4], .seq (.ops [⟨(some 4), none, .mv (.c (.int .i64 0))⟩])
 (.seq (.ops [⟨(some 5), none, .mv (.t 0)⟩, ⟨(some 6), none, .mv (.t 1)⟩, ⟨(some 7), none, .call 279 [(.t 5), (.t 6)]⟩, ⟨(some 4), none, .mv (.t 7)⟩])
 (.ret))⟩
theorem c237 : compF Go.Proofs.Tryz.prog 237 = some a237 := by kernel_rfl
def a244 : AFn := ⟨28, [.t 4], .seq (.ops [⟨(some 4), none, .mv (.c (.int .i64 0))⟩])
 (.seq (.ops [⟨(some 6), none, .build [(.int .i64 0), (.int .i64 0)] [(0, 1, (.c (.int .i64 1))), (1, 1, (.c (.int .i64 0)))]⟩, ⟨(some 7), none, .build [(.int .i64 0), (.int .i64 0)] [(0, 1, (.c (.int .i64 1))), (1, 1, (.c (.int .i64 2)))]⟩, ⟨(some 8), none, .build [(.int .i64 0), (.int .i64 0)] [(0, 1, (.c (.int .i64 3))), (1, 1, (.c (.int .i64 9)))]⟩, ⟨(some 9), none, .build [(.int .i64 0), (.int .i64 0)] [(0, 1, (.c (.int .i64 4))), (1, 1, (.c (.int .i64 5)))]⟩, ⟨(some 10), none, .build [(.int .i64 0), (.int .i64 0)] [(0, 1, (.c (.int .i64 4))), (1, 1, (.c (.int .i64 5)))]⟩, ⟨(some 11), none, .build [(.int .i64 0), (.int .i64 0)] [(0, 1, (.c (.int .i64 6))), (1, 1, (.c (.int .i64 8)))]⟩, ⟨(some 12), none, .build [(.int .i64 0), (.int .i64 0)] [(0, 1, (.c (.int .i64 6))), (1, 1, (.c (.int .i64 7)))]⟩, ⟨(some 13), none, .build [(.int .i64 0), (.int .i64 0)] [(0, 1, (.c (.int .i64 4))), (1, 1, (.c (.int .i64 8)))]⟩, ⟨(some 14), none, .build [(.int .i64 0), (.int .i64 0)] [(0, 1, (.c (.int .i64 1))), (1, 1, (.c (.int .i64 2)))]⟩, ⟨(some 15), none, .build [(.int .i64 0), (.int .i64 0)] [(0, 1, (.c (.int .i64 10))), (1, 1, (.c (.int .i64 0)))]⟩, ⟨(some 16), none, .build [(.int .i64 0), (.int .i64 0)] [(0, 1, (.c (.int .i64 11))), (1, 1, (.c (.int .i64 12)))]⟩, ⟨(some 17), none, .build [(.int .i64 0), (.int .i64 0)] [(0, 1, (.c (.int .i64 11))), (1, 1, (.c (.int .i64 12)))]⟩, ⟨(some 18), none, .build [(.int .i64 0), (.int .i64 0)] [(0, 1, (.c (.int .i64 13))), (1, 1, (.c (.int .i64 15)))]⟩, ⟨(some 19), none, .build [(.int .i64 0), (.int .i64 0)] [(0, 1, (.c (.int .i64 13))), (1, 1, (.c (.int .i64 14)))]⟩, ⟨(some 20), none, .build [(.int .i64 0), (.int .i64 0)] [(0, 1, (.c (.int .i64 11))), (1, 1, (.c (.int .i64 15)))]⟩, ⟨(some 21), none, .build [(.int .i64 0), (.int .i64 0)] [(0, 1, (.c (.int .i64 1))), (1, 1, (.c (.int .i64 2)))]⟩, ⟨(some 22), none, .build [(.int .i64 0), (.int .i64 0), (.int .i64 0), (.int .i64 0), (.int .i64 0), (.int .i64 0), (.int .i64 0), (.int .i64 0), (.int .i64 0), (.int .i64 0), (.int .i64 0), (.int .i64 0), (.int .i64 0), (.int .i64 0), (.int .i64 0), (.int .i64 0), (.int .i64 0), (.int .i64 0), (.int .i64 0), (.int .i64 0), (.int .i64 0), (.int .i64 0), (.int .i64 0), (.int .i64 0), (.int .i64 0), (.int .i64 0), (.int .i64 0), (.int .i64 0), (.int .i64 0), (.int .i64 0), (.int .i64 0), (.int .i64 0)] [(0, 2, (.t 6)), (2, 2, (.t 7)), (4, 2, (.t 8)), (6, 2, (.t 9)), (8, 2, (.t 10)), (10, 2, (.t 11)), (12, 2, (.t 12)), (14, 2, (.t 13)), (16, 2, (.t 14)), (18, 2, (.t 15)), (20, 2, (.t 16)), (22, 2, (.t 17)), (24, 2, (.t 18)), (26, 2, (.t 19)), (28, 2, (.t 20)), (30, 2, (.t 21))]⟩, ⟨(some 5), none, .alloc 285 [(.int .i64 0), (.int .i64 0), (.int .i64 0), (.int .i64 0), (.int .i64 0), (.int .i64 0), (.int .i64 0), (.int .i64 0), (.int .i64 0), (.int .i64 0), (.int .i64 0), (.int .i64 0), (.int .i64 0), (.int .i64 0), (.int .i64 0), (.int .i64 0), (.int .i64 0), (.int .i64 0), (.int .i64 0), (.int .i64 0), (.int .i64 0), (.int .i64 0), (.int .i64 0), (.int .i64 0), (.int .i64 0), (.int .i64 0), (.int .i64 0), (.int .i64 0), (.int .i64 0), (.int .i64 0), (.int .i64 0), (.int .i64 0)]⟩, ⟨none, none, .store 32 (.t 5) (.t 22)⟩])
 (.seq (.ops [⟨(some 23), none, .mv (.t 0)⟩, ⟨(some 24), none, .mv (.t 1)⟩, ⟨(some 25), none, .aadr 16 2 (.t 5) (.t 23)⟩, ⟨(some 26), none, .aadr 2 1 (.t 25) (.t 24)⟩, ⟨(some 27), none, .load none (.t 26)⟩, ⟨(some 4), none, .mv (.t 27)⟩])
 (.ret)))⟩
theorem c244 : compF Go.Proofs.Tryz.prog 244 = some a244 := by kernel_rfl
def a245 : AFn := ⟨6, [.t 2], .seq (.ops [⟨(some 2), none, .mv (.c (.bool false))⟩])
 (.seq (.ops [⟨(some 3), none, .mv (.t 0)⟩, ⟨(some 4), none, .s2b (.t 3)⟩, ⟨(some 5), none, .call 178 [(.t 4), (.c (.fn 280 []))]⟩, ⟨(some 2), none, .mv (.t 5)⟩])
 (.ret))⟩
theorem c245 : compF Go.Proofs.Tryz.prog 245 = some a245 := by kernel_rfl
def a246 : AFn := ⟨17, [.t 2], .seq (.ops [⟨(some 2), none, .mv (.c (.bool false))⟩])
 (.seq (.ops [⟨(some 3), none, .mv (.t 0)⟩, ⟨(some 4), none, .bin 0 .geq (.t 3) (.c (.int .u8 48))⟩, ⟨(some 5), none, .mv (.t 4)⟩, ⟨(some 6), (some (5, true)), .mv (.t 0)⟩, ⟨(some 7), (some (5, true)), .bin 0 .leq (.t 6) (.c (.int .u8 57))⟩, ⟨(some 8), none, .pick (.t 5) (.t 7) (.c (.bool false))⟩, ⟨(some 9), none, .mv (.t 8)⟩, ⟨(some 10), (some (9, false)), .mv (.t 0)⟩, ⟨(some 11), (some (9, false)), .bin 0 .geq (.t 10) (.c (.int .u8 97))⟩, ⟨(some 12), (some (9, false)), .mv (.t 11)⟩, ⟨(some 13), (some (12, true)), .mv (.t 0)⟩, ⟨(some 14), (some (12, true)), .bin 0 .leq (.t 13) (.c (.int .u8 122))⟩, ⟨(some 15), (some (9, false)), .pick (.t 12) (.t 14) (.c (.bool false))⟩, ⟨(some 16), none, .pick (.t 9) (.c (.bool true)) (.t 15)⟩, ⟨(some 2), none, .mv (.t 16)⟩])
 (.ret))⟩
theorem c246 : compF Go.Proofs.Tryz.prog 246 = some a246 := by kernel_rfl
def a247 : AFn := ⟨32, [.t 4], .seq (.ops [⟨(some 2), none, .box 157 (.t 0)⟩, ⟨(some 3), none, .box 258 (.t 1)⟩, ⟨(some 4), none, .mv (.c (.int .u8 0))⟩])
 (.seq (.seq (.any [(⟨(some 5), none, .fadr 1 (.t 3)⟩, []), (⟨(some 6), none, .load none (.t 5)⟩, []), (⟨(some 7), none, .fadr 0 (.t 2)⟩, [0, 1]), (⟨(some 8), none, .load none (.t 7)⟩, [0, 1]), (⟨(some 9), none, .len false (.t 8)⟩, [0, 1]), (⟨(some 10), none, .bin 0 .sub (.t 9) (.c (.int .i64 1))⟩, [0, 1]), (⟨(some 11), none, .call 155 [(.t 6), (.c (.int .i64 0)), (.t 10)]⟩, []), (⟨(some 12), none, .mv (.t 11)⟩, []), (⟨(some 13), (some (12, false)), .fadr 0 (.t 3)⟩, []), (⟨(some 14), (some (12, false)), .load none (.t 13)⟩, []), (⟨(some 15), (some (12, false)), .fadr 0 (.t 2)⟩, [8, 9]), (⟨(some 16), (some (12, false)), .load none (.t 15)⟩, [8, 9]), (⟨(some 17), (some (12, false)), .iadr 1 (.t 16) (.c (.int .i64 0))⟩, [8, 9]), (⟨(some 18), (some (12, false)), .load none (.t 17)⟩, [8, 9]), (⟨(some 19), (some (12, false)), .len true (.t 18)⟩, [8, 9]), (⟨(some 20), (some (12, false)), .bin 0 .sub (.t 19) (.c (.int .i64 1))⟩, [8, 9]), (⟨(some 21), (some (12, false)), .call 155 [(.t 14), (.c (.int .i64 0)), (.t 20)]⟩, []), (⟨(some 22), none, .pick (.t 12) (.c (.bool true)) (.t 21)⟩, [])])
 (.cond (.t 22) (.seq (.ops [⟨(some 4), none, .mv (.c (.int .u8 46))⟩])
 (.ret)) (.skip)))
 (.seq (.any [(⟨(some 23), none, .fadr 0 (.t 2)⟩, []), (⟨(some 24), none, .load none (.t 23)⟩, []), (⟨(some 25), none, .fadr 1 (.t 3)⟩, [0, 1]), (⟨(some 26), none, .load none (.t 25)⟩, [0, 1]), (⟨(some 27), none, .iadr 1 (.t 24) (.t 26)⟩, []), (⟨(some 28), none, .load none (.t 27)⟩, []), (⟨(some 29), none, .fadr 0 (.t 3)⟩, [0, 1, 2, 3, 4, 5]), (⟨(some 30), none, .load none (.t 29)⟩, [0, 1, 2, 3, 4, 5]), (⟨(some 31), none, .idxs (.t 28) (.t 30)⟩, []), (⟨(some 4), none, .mv (.t 31)⟩, [])])
 (.ret)))⟩
theorem c247 : compF Go.Proofs.Tryz.prog 247 = some a247 := by kernel_rfl
def a248 : AFn := ⟨9, [.t 2], .seq (.ops [⟨(some 2), none, .mv (.c (.bool false))⟩])
 (.seq (.ops [⟨(some 3), none, .mv (.t 0)⟩, ⟨(some 4), none, .call 246 [(.t 3)]⟩, ⟨(some 5), none, .mv (.t 4)⟩, ⟨(some 6), (some (5, false)), .mv (.t 0)⟩, ⟨(some 7), (some (5, false)), .bin 0 .eql (.t 6) (.c (.int .u8 42))⟩, ⟨(some 8), none, .pick (.t 5) (.c (.bool true)) (.t 7)⟩, ⟨(some 2), none, .mv (.t 8)⟩])
 (.ret))⟩
theorem c248 : compF Go.Proofs.Tryz.prog 248 = some a248 := by kernel_rfl
def a249 : AFn := ⟨14, [.t 4], .seq (.ops [⟨(some 2), none, .box 157 (.t 0)⟩, ⟨(some 4), none, .mv (.c (.bool false))⟩])
 (.seq (.ops [⟨(some 5), none, .mv (.t 1)⟩, ⟨(some 6), none, .call 246 [(.t 5)]⟩, ⟨(some 7), none, .mv (.t 6)⟩, ⟨(some 8), (some (7, true)), .fadr 1 (.t 2)⟩, ⟨(some 9), (some (7, true)), .load none (.t 8)⟩, ⟨(some 10), (some (7, true)), .mv (.t 1)⟩, ⟨(some 11), (some (7, true)), .call 181 [(.t 9), (.t 10)]⟩, ⟨(some 12), (some (7, true)), .bin 0 .geq (.t 11) (.c (.int .i64 0))⟩, ⟨(some 13), none, .pick (.t 7) (.t 12) (.c (.bool false))⟩, ⟨(some 4), none, .mv (.t 13)⟩])
 (.ret))⟩
theorem c249 : compF Go.Proofs.Tryz.prog 249 = some a249 := by kernel_rfl
def a280 : AFn := ⟨6, [.t 2], .seq (.ops [⟨(some 2), none, .mv (.c (.bool false))⟩])
 (.seq (.ops [⟨(some 3), none, .mv (.t 0)⟩, ⟨(some 4), none, .call 281 [(.t 3)]⟩, ⟨(some 5), none, .un .not (.t 4)⟩, ⟨(some 2), none, .mv (.t 5)⟩])
 (.ret))⟩
theorem c280 : compF Go.Proofs.Tryz.prog 280 = some a280 := by kernel_rfl
def a281 : AFn := ⟨17, [.t 2], .seq (.ops [⟨(some 2), none, .mv (.c (.bool false))⟩])
 (.seq (.ops [⟨(some 3), none, .mv (.t 0)⟩, ⟨(some 4), none, .call 246 [(.t 3)]⟩, ⟨(some 5), none, .mv (.t 4)⟩, ⟨(some 6), (some (5, false)), .mv (.t 0)⟩, ⟨(some 7), (some (5, false)), .bin 0 .eql (.t 6) (.c (.int .u8 46))⟩, ⟨(some 8), none, .pick (.t 5) (.c (.bool true)) (.t 7)⟩, ⟨(some 9), none, .mv (.t 8)⟩, ⟨(some 10), (some (9, false)), .mv (.t 0)⟩, ⟨(some 11), (some (9, false)), .bin 0 .eql (.t 10) (.c (.int .u8 63))⟩, ⟨(some 12), none, .pick (.t 9) (.c (.bool true)) (.t 11)⟩, ⟨(some 13), none, .mv (.t 12)⟩, ⟨(some 14), (some (13, false)), .mv (.t 0)⟩, ⟨(some 15), (some (13, false)), .bin 0 .eql (.t 14) (.c (.int .u8 42))⟩, ⟨(some 16), none, .pick (.t 13) (.c (.bool true)) (.t 15)⟩, ⟨(some 2), none, .mv (.t 16)⟩])
 (.ret))⟩
theorem c281 : compF Go.Proofs.Tryz.prog 281 = some a281 := by kernel_rfl
end Go.Proofs.YtpifoghhaohhaaaGreatDoor
namespace Go.Proofs.YtpifoghhaohhaaaGreatDoor
open Go.RowKit
theorem below_c (x n : Int) (nid : Nat) (hn : n ≤ 9223372036854775807) : ACall Tryz.prog 110 [.int .i64 x, .int .i64 n] [] nid (.int .i64 (below x n)) [] := by
  refine acall_run c110 (by simp [a110]) ?_
  simp -dsimp only [a110, aqT, aqU, aqN, ↓seqK, ↓blkK, ↓loopK, step, stepBin, Nat.reduceBEq, Nat.reduceBeqDiff, Nat.add_assoc nid, Nat.reduceAdd, reduceCtorEq, ↓reduceIte, Nat.reduceLeDiff, Nat.reduceBneDiff, Option.toList, ← Int.ofNat_tmod, ← Int.ofNat_tdiv, Nat.reduceLT]
  refine S2.dec (fun h => ?_) (fun h => ?_)
  · simp -dsimp only [aqT, aqU, aqN, ↓seqK, ↓blkK, ↓loopK, step, stepBin, Nat.reduceBEq, Nat.reduceBeqDiff, Nat.add_assoc nid, Nat.reduceAdd, reduceCtorEq, ↓reduceIte, Nat.reduceLeDiff, Nat.reduceBneDiff, Option.toList, ← Int.ofNat_tmod, ← Int.ofNat_tdiv, Nat.reduceLT]
    refine RetOK.pure (.inl rfl) rfl ?_
    simp [retPV, PVCov, getS, below, h]
  simp -dsimp only [aqT, aqU, aqN, ↓seqK, ↓blkK, ↓loopK, step, stepBin, Nat.reduceBEq, Nat.reduceBeqDiff, Nat.add_assoc nid, Nat.reduceAdd, reduceCtorEq, ↓reduceIte, Nat.reduceLeDiff, Nat.reduceBneDiff, Option.toList, ← Int.ofNat_tmod, ← Int.ofNat_tdiv, Nat.reduceLT]
  refine ⟨by omega, S2.dec (fun h2 => ?_) (fun h2 => ?_)⟩
  · simp -dsimp only [aqT, aqU, aqN, ↓seqK, ↓blkK, ↓loopK, step, stepBin, Nat.reduceBEq, Nat.reduceBeqDiff, Nat.add_assoc nid, Nat.reduceAdd, reduceCtorEq, ↓reduceIte, Nat.reduceLeDiff, Nat.reduceBneDiff, Option.toList, ← Int.ofNat_tmod, ← Int.ofNat_tdiv, Nat.reduceLT]
    have := Int.lt_tmod_of_pos x (show 0 < n by omega)
    refine ⟨by unfold inI64; omega, RetOK.pure (.inl rfl) rfl ?_⟩
    have h3 : x.tmod n + n = x % n := by rw [Int.tmod_eq_emod]; split <;> rw [Int.tmod_eq_emod] at h2 <;> rename_i h6 <;> simp only [h6, if_true, if_false, not_false_eq_true] at h2 <;> have := Int.emod_nonneg x (show n ≠ 0 by omega) <;> omega
    simp [cvT, step, res, below, h, h3]
  · simp -dsimp only [aqT, aqU, aqN, ↓seqK, ↓blkK, ↓loopK, step, stepBin, Nat.reduceBEq, Nat.reduceBeqDiff, Nat.add_assoc nid, Nat.reduceAdd, reduceCtorEq, ↓reduceIte, Nat.reduceLeDiff, Nat.reduceBneDiff, Option.toList, ← Int.ofNat_tmod, ← Int.ofNat_tdiv, Nat.reduceLT]
    refine RetOK.pure (.inl rfl) rfl ?_
    have h3 : x.tmod n = x % n := by rw [Int.tmod_eq_emod]; split <;> rw [Int.tmod_eq_emod] at h2 <;> rename_i h6 <;> simp only [h6, if_true, if_false, not_false_eq_true] at h2 <;> have := Int.emod_lt_of_pos x (show 0 < n by omega) <;> omega
    simp [cvT, step, res, below, h, h3]
def strmC (nl : Bool) (A : List Int) (p : Nat) : Option ABlk := some (.box 25 [.lit nl A.length [.i .i64 fun i => A.getD i 0], .int .i64 p])
theorem strmC_low (n : Nat) (nl : Bool) (A : List Int) (p : Nat) : lowBlk n (strmC nl A p) = true := rfl
theorem next_c (s nid : Nat) (nl : Bool) (A : List Int) (p : Nat) (n : Int) (h : s < nid) (hp : p ≤ 1099511627775) (hA : A.length ≤ 17592186044416) (hn : n ≤ 9223372036854775807) :
    ACall Tryz.prog 35 [.ptr s 0, .int .i64 n] [(s, strmC nl A p)] nid (.int .i64 (nextV A p n)) [(s, strmC nl A (p + 1))] := by
  obtain ⟨e1, e2, e3, e4, e5, e6, e7, e8, e9⟩ := id_all h
  refine acall_run c35 (by simp [a35]) ?_
  simp -dsimp only [a35, strmC, aqT, aqU, aqN, ↓seqK, ↓blkK, ↓loopK, step, stepBin, Nat.reduceBEq, Nat.reduceBeqDiff, Nat.add_assoc nid, Nat.reduceAdd, reduceCtorEq, ↓reduceIte, Nat.reduceLeDiff, Nat.reduceBneDiff, Option.toList, ← Int.ofNat_tmod, ← Int.ofNat_tdiv, Nat.reduceLT, e1, e2, e3, e4, e5, e6, e7, e8, e9]
  refine ⟨by unfold inI64; omega, S2.intro (fun h2 => ?_) (fun h2 => ?_)⟩
  · simp -dsimp only [aqT, aqU, aqN, ↓seqK, ↓blkK, ↓loopK, step, stepBin, Nat.reduceBEq, Nat.reduceBeqDiff, Nat.add_assoc nid, Nat.reduceAdd, reduceCtorEq, ↓reduceIte, Nat.reduceLeDiff, Nat.reduceBneDiff, Option.toList, ← Int.ofNat_tmod, ← Int.ofNat_tdiv, Nat.reduceLT, e1, e2, e3, e4, e5, e6, e7, e8, e9]
    refine ⟨by unfold inI64; omega, CallO.pure (below_c _ _ _ hn) ?_⟩
    simp -dsimp only [aqT, aqU, aqN, ↓seqK, ↓blkK, ↓loopK, step, stepBin, Nat.reduceBEq, Nat.reduceBeqDiff, Nat.add_assoc nid, Nat.reduceAdd, reduceCtorEq, ↓reduceIte, Nat.reduceLeDiff, Nat.reduceBneDiff, Option.toList, ← Int.ofNat_tmod, ← Int.ofNat_tdiv, Nat.reduceLT, e1, e2, e3, e4, e5, e6, e7, e8, e9]
    have h3 : A.length = 0 := by simpa using h2
    refine RetOK.same (.inl rfl) rfl (by simp [strmC, liveIds]; omega) ?_ ?_
    · simp [cvT, step, res, strmC]
    · simp [cvT, step, res, nextV, h3]
  · simp -dsimp only [aqT, aqU, aqN, ↓seqK, ↓blkK, ↓loopK, step, stepBin, Nat.reduceBEq, Nat.reduceBeqDiff, Nat.add_assoc nid, Nat.reduceAdd, reduceCtorEq, ↓reduceIte, Nat.reduceLeDiff, Nat.reduceBneDiff, Option.toList, ← Int.ofNat_tmod, ← Int.ofNat_tdiv, Nat.reduceLT, e1, e2, e3, e4, e5, e6, e7, e8, e9]
    have h3 : 0 < A.length := by have : ¬ A.length = 0 := by simpa using h2
                                 omega
    have h4 : ∀ z : Nat, z ≤ 1099511627776 → IntKind.i64.wrap (z : Int) = z := fun z hz => IntWalk.i64_in _ (by omega)
    have h5 : p / A.length ≤ p := Nat.div_le_self _ _
    have h6 : p % A.length < A.length := Nat.mod_lt _ h3
    have h11 := h4 _ (show p / A.length ≤ 1099511627776 by omega)
    refine ⟨by unfold inI64; omega, by omega, by unfold inI64; omega, by omega, by omega, CallO.pure (below_c _ _ _ (by omega)) ?_⟩
    simp -dsimp only [aqT, aqU, aqN, ↓seqK, ↓blkK, ↓loopK, step, stepBin, Nat.reduceBEq, Nat.reduceBeqDiff, Nat.add_assoc nid, Nat.reduceAdd, reduceCtorEq, ↓reduceIte, Nat.reduceLeDiff, Nat.reduceBneDiff, Option.toList, ← Int.ofNat_tmod, ← Int.ofNat_tdiv, Nat.reduceLT, h11, e1, e2, e3, e4, e5, e6, e7, e8, e9]
    have h7 := round_bd p A.length h3 (by omega)
    have h8 := below_bd (A.getD (p % A.length) 0) (n := 1073741824) (by omega)
    rw [← Int.natCast_emod, ← Int.natCast_ediv] at h7
    generalize h9 : ((p / A.length : Nat) : Int) * (7919 + ((p % A.length : Nat) : Int)) = z at h7 ⊢
    refine ⟨by unfold inI64; omega, by unfold inI64; omega, by unfold inI64; omega, CallO.pure (below_c _ _ _ hn) ?_⟩
    simp -dsimp only [aqT, aqU, aqN, ↓seqK, ↓blkK, ↓loopK, step, stepBin, Nat.reduceBEq, Nat.reduceBeqDiff, Nat.add_assoc nid, Nat.reduceAdd, reduceCtorEq, ↓reduceIte, Nat.reduceLeDiff, Nat.reduceBneDiff, Option.toList, ← Int.ofNat_tmod, ← Int.ofNat_tdiv, Nat.reduceLT, e1, e2, e3, e4, e5, e6, e7, e8, e9]
    refine RetOK.same (.inl rfl) rfl (by simp [strmC, liveIds]; omega) ?_ ?_
    · simp [cvT, step, res, strmC]
    · have h10 : A.length ≠ 0 := by omega
      simp [cvT, step, res, nextV, h10, ← h9]
theorem range_c (s nid : Nat) (nl : Bool) (A : List Int) (p : Nat) (lo hi : Int) (h : s < nid) (hp : p ≤ 1099511627775) (hA : A.length ≤ 17592186044416) (h1 : lo ≤ hi) (hl : -1099511627776 ≤ lo) (hh : hi ≤ 1099511627776) :
    ACall Tryz.prog 31 [.ptr s 0, .int .i64 lo, .int .i64 hi] [(s, strmC nl A p)] nid (.int .i64 (rangeV A p lo hi)) [(s, strmC nl A (p + 1))] := by
  obtain ⟨e1, e2, e3, e4, e5, e6, e7, e8, e9⟩ := id_all h
  refine acall_run c31 (by simp [a31]) ?_
  simp -dsimp only [a31, aqT, aqU, aqN, ↓seqK, ↓blkK, ↓loopK, step, stepBin, Nat.reduceBEq, Nat.reduceBeqDiff, Nat.add_assoc nid, Nat.reduceAdd, reduceCtorEq, ↓reduceIte, Nat.reduceLeDiff, Nat.reduceBneDiff, Option.toList, ← Int.ofNat_tmod, ← Int.ofNat_tdiv, Nat.reduceLT, e1, e2, e3, e4, e5, e6, e7, e8, e9]
  refine S2.dec (fun h => absurd h (by omega)) (fun h => ?_)
  simp -dsimp only [aqT, aqU, aqN, ↓seqK, ↓blkK, ↓loopK, step, stepBin, Nat.reduceBEq, Nat.reduceBeqDiff, Nat.add_assoc nid, Nat.reduceAdd, reduceCtorEq, ↓reduceIte, Nat.reduceLeDiff, Nat.reduceBneDiff, Option.toList, ← Int.ofNat_tmod, ← Int.ofNat_tdiv, Nat.reduceLT, e1, e2, e3, e4, e5, e6, e7, e8, e9]
  refine ⟨by unfold inI64; omega, by unfold inI64; omega, CallO.on (next_c _ _ _ _ _ _ (by omega) hp hA (by omega)) (subH_hit _ _ _) ?_⟩
  simp -dsimp only [aqT, aqU, aqN, ↓seqK, ↓blkK, ↓loopK, step, stepBin, Nat.reduceBEq, Nat.reduceBeqDiff, Nat.add_assoc nid, Nat.reduceAdd, reduceCtorEq, ↓reduceIte, Nat.reduceLeDiff, Nat.reduceBneDiff, Option.toList, ← Int.ofNat_tmod, ← Int.ofNat_tdiv, Nat.reduceLT, e1, e2, e3, e4, e5, e6, e7, e8, e9]
  have := nextV_bd A p (n := hi - lo + 1) (by omega)
  refine ⟨by unfold inI64; omega, RetOK.same (.inl rfl) rfl (by simp [strmC, liveIds]; omega) ?_ ?_⟩
  · simp [cvT, step, res, strmC]
  · simp [cvT, step, res, rangeV]
theorem flip_c (s nid : Nat) (nl : Bool) (A : List Int) (p : Nat) (n : Int) (h : s < nid) (hp : p ≤ 1099511627775) (hA : A.length ≤ 17592186044416) (hn : n ≤ 9223372036854775807) :
    ACall Tryz.prog 44 [.ptr s 0, .int .i64 n] [(s, strmC nl A p)] nid (.bool (flipV A p n)) [(s, strmC nl A (p + 1))] := by
  obtain ⟨e1, e2, e3, e4, e5, e6, e7, e8, e9⟩ := id_all h
  refine acall_run c44 (by simp [a44]) ?_
  simp -dsimp only [a44, aqT, aqU, aqN, ↓seqK, ↓blkK, ↓loopK, step, stepBin, Nat.reduceBEq, Nat.reduceBeqDiff, Nat.add_assoc nid, Nat.reduceAdd, reduceCtorEq, ↓reduceIte, Nat.reduceLeDiff, Nat.reduceBneDiff, Option.toList, ← Int.ofNat_tmod, ← Int.ofNat_tdiv, Nat.reduceLT, e1, e2, e3, e4, e5, e6, e7, e8, e9]
  refine CallO.on (next_c _ _ _ _ _ _ (by omega) hp hA hn) (subH_hit _ _ _) ?_
  simp -dsimp only [aqT, aqU, aqN, ↓seqK, ↓blkK, ↓loopK, step, stepBin, Nat.reduceBEq, Nat.reduceBeqDiff, Nat.add_assoc nid, Nat.reduceAdd, reduceCtorEq, ↓reduceIte, Nat.reduceLeDiff, Nat.reduceBneDiff, Option.toList, ← Int.ofNat_tmod, ← Int.ofNat_tdiv, Nat.reduceLT, e1, e2, e3, e4, e5, e6, e7, e8, e9]
  refine RetOK.same (.inl rfl) rfl (by simp [strmC, liveIds]; omega) ?_ ?_
  · simp [cvT, step, res, strmC]
  · simp [cvT, step, res, flipV]
end Go.Proofs.YtpifoghhaohhaaaGreatDoor
namespace Go.Proofs.YtpifoghhaohhaaaGreatDoor
open Go.RowKit
theorem some_c (s nid : Nat) (nl nl' : Bool) (A : List Int) (p : Nat) (n : Nat) (g : Nat → List UInt8) (h : s < nid) (hp : p ≤ 1099511627775) (hA : A.length ≤ 17592186044416) (h1 : 0 < n) (hn : n ≤ 1099511627776) :
    ACall Tryz.prog 83 [.ptr s 0, .lit nl' n [.s g]] [(s, strmC nl A p)] nid (.str (g (pickI A p n))) [(s, strmC nl A (p + 1))] := by
  obtain ⟨e1, e2, e3, e4, e5, e6, e7, e8, e9⟩ := id_all h
  refine acall_run c83 (by simp [a83]) ?_
  simp -dsimp only [aqT, aqU, aqN, ↓seqK, ↓blkK, ↓loopK, step, stepBin, Nat.reduceBEq, Nat.reduceBeqDiff, Nat.add_assoc nid, Nat.reduceAdd, reduceCtorEq, ↓reduceIte, Nat.reduceLeDiff, Nat.reduceBneDiff, Option.toList, ← Int.ofNat_tmod, ← Int.ofNat_tdiv, Nat.reduceLT, e1, e2, e3, e4, e5, e6, e7, e8, e9, a83]
  refine CallO.on (next_c _ _ _ _ _ _ (by omega) hp hA (by omega)) (subH_hit _ _ _) ?_
  simp -dsimp only [aqT, aqU, aqN, ↓seqK, ↓blkK, ↓loopK, step, stepBin, Nat.reduceBEq, Nat.reduceBeqDiff, Nat.add_assoc nid, Nat.reduceAdd, reduceCtorEq, ↓reduceIte, Nat.reduceLeDiff, Nat.reduceBneDiff, Option.toList, ← Int.ofNat_tmod, ← Int.ofNat_tdiv, Nat.reduceLT, e1, e2, e3, e4, e5, e6, e7, e8, e9]
  have := nextV_bd A p (n := (n : Int)) (by omega)
  refine ⟨this, RetOK.same (.inl rfl) rfl (by simp [strmC, liveIds]; omega) ?_ ?_⟩
  · simp [cvT, step, res, strmC]
  · simp [cvT, step, res, pickI]
theorem CallX.some_go {s id nid : Nat} {nl : Bool} {A : List Int} {p : Nat} {n T : Nat} {g : Nat → List UInt8} {H : Heap} {K : PV → Heap → List Nat → Prop} (hs : getH H s = strmC nl A p) (hid : getH H id = some (.arr T n [.s g])) (hne : (s == id) = false) (h : s < nid) (hp : p ≤ 1099511627775) (hA : A.length ≤ 17592186044416) (h1 : 0 < n) (hn : n ≤ 1099511627776)
    (hK : K (.str (g (pickI A p n))) [(s, strmC nl A (p + 1)), (id, none)] [s, id]) : CallX Tryz.prog 83 [.ptr s 0, .sl id 0 n] H nid K := by
  refine CallX.given [id] (u := [(s, strmC nl A (p + 1))]) (fun nl' => ?_) (subH_get hs) (by simp [getH, hne]) hK
  have e : lends H [id] nl' [.ptr s 0, .sl id 0 n] = [.ptr s 0, .lit (nl' id) n [.s g]] := by simp [lends, lend, hid, noOs]
  rw [e]
  exact some_c s _ nl _ A p n _ h hp hA h1 hn
theorem CallO.some_go {s id nid : Nat} {nl : Bool} {A : List Int} {p : Nat} {n T : Nat} {g : Nat → List UInt8} {H : Heap} {K : PV → Heap → Prop} (hs : getH H s = strmC nl A p) (hid : getH H id = some (.arr T n [.s g])) (hne : (s == id) = false) (h : s < nid) (hp : p ≤ 1099511627775) (hA : A.length ≤ 17592186044416) (h1 : 0 < n) (hn : n ≤ 1099511627776)
    (hK : K (.str (g (pickI A p n))) [(s, strmC nl A (p + 1)), (id, none)]) : CallOK Tryz.prog 83 [.ptr s 0, .sl id 0 n] H nid K :=
  CallO.x (CallX.some_go hs hid hne h hp hA h1 hn hK)
theorem getD_all {α : Type} {P : α → Prop} {l : List α} {d : α} (h : ∀ x ∈ l, P x) {i : Nat} (hi : i < l.length) : P (l.getD i d) := by
  rw [List.getD_eq_getElem?_getD, List.getElem?_eq_getElem hi]
  exact h _ (List.getElem_mem _)
end Go.Proofs.YtpifoghhaohhaaaGreatDoor
namespace Go.Proofs.YtpifoghhaohhaaaGreatDoor
open Go.RowKit
def arrS (l : List (List UInt8)) : Option ABlk := some (.arr 9 l.length [.s fun i => l.getD i []])
theorem getD_app1 (l : List (List UInt8)) (x : List UInt8) {n : Nat} (hn : l.length = n) : (fun i => if i < n then l.getD i [] else [x].getD (i - n) []) = fun i => (l ++ [x]).getD i [] := by
  subst hn
  funext i
  simp only [List.getD_eq_getElem?_getD, List.getElem?_append]
  split <;> rfl
theorem getD_setS (l : List (List UInt8)) (x : List UInt8) {I : Nat} (hI : I < l.length) : (fun j => if j = I then x else l.getD j []) = fun j => (l.set I x).getD j [] := by
  funext j
  simp only [List.getD_eq_getElem?_getD, List.getElem?_set]
  by_cases h : j = I
  · subst h; simp [hI]
  · rw [if_neg h, if_neg (fun e => h e.symm)]
def ShortRows (m : Nat) (l : List (List UInt8)) : Prop := ∀ r ∈ l, r.length ≤ m
theorem ShortRows.at {m : Nat} {l : List (List UInt8)} (h : ShortRows m l) (i : Nat) : (l.getD i []).length ≤ m := by
  rw [List.getD_eq_getElem?_getD]
  cases hg : l[i]? with
  | none => simp
  | some x => exact h x (List.mem_of_getElem? hg)
theorem ShortRows.set {m : Nat} {l : List (List UInt8)} (h : ShortRows m l) (i : Nat) {x : List UInt8} (hx : x.length ≤ m) : ShortRows m (l.set i x) := fun r hr => by
  rcases List.mem_or_eq_of_mem_set hr with h1 | h1
  · exact h r h1
  · rw [h1]; exact hx
theorem ShortRows.snoc {m : Nat} {l : List (List UInt8)} (h : ShortRows m l) {x : List UInt8} (hx : x.length ≤ m) : ShortRows m (l ++ [x]) := fun r hr => by
  rcases List.mem_append.1 hr with h1 | h1
  · exact h r h1
  · rw [List.mem_singleton.1 h1]; exact hx
theorem ShortRows.mono {m n : Nat} {l : List (List UInt8)} (h : ShortRows m l) (hn : m ≤ n) : ShortRows n l := fun r hr => Nat.le_trans (h r hr) hn
def litS (nl : Bool) (l : List (List UInt8)) : PV := .lit nl l.length [.s fun i => l.getD i []]
end Go.Proofs.YtpifoghhaohhaaaGreatDoor
namespace Go.Proofs.YtpifoghhaohhaaaGreatDoor
open Go.RowKit Go.Shelf Go.Lib
theorem extra105 : Builder.Extra Tryz.prog Tryz.lays105_ren where
  sizeBuilder := by kernel_rfl
  liesBuilder := by kernel_rfl
  t5 := Tryz.lays105.t5
  a5 := Tryz.lays105.a5
  z5 := Tryz.lays105.z5
  v5 := Tryz.lays105.v5
  infoByte := by kernel_rfl
  cellsByte := by kernel_rfl
  sizeByte := by kernel_rfl
  neB5 := by decide
theorem repeat_cc (s : List UInt8) (c : Nat) (nid : Nat) (hc : c ≤ 9223372036854775807) (hlen : s.length * c ≤ 140737488355328) : ACall Tryz.prog 177 [.str s, .int .i64 c] [] nid (.str (Lib.repeatL s c)) [] :=
  acall_below (us := [.string ⟨s.toArray⟩, .int .i64 c]) nid Tryz.func177 (by kernel_rfl) (by kernel_rfl) rfl rfl (fun w => by
    have h := Any.strings_Repeat Tryz.lays105 extra105 ⟨s.toArray⟩ c w hc (by simpa [ByteArray.size] using hlen)
    have hf : Tryz.lays105_ren.f 105 = 177 := by kernel_rfl
    rw [hf] at h
    simpa using h)
theorem trim_cc (s cs : List UInt8) (nid : Nat) (hs : s.length ≤ 9223372036854775807) (hcs : cs.length < 4294967281) (ha : cs.all (fun b => decide (b.toNat < 128)) = true) : ACall Tryz.prog 180 [.str s, .str cs] [] nid (.str (Lib.trimS s cs)) [] :=
  acall_below (us := [.string ⟨s.toArray⟩, .string ⟨cs.toArray⟩]) nid Tryz.func180 (by kernel_rfl) (by kernel_rfl) rfl rfl (fun w => by
    have h := Any.strings_Trim_laid Tryz.lays160 (by kernel_rfl) ⟨s.toArray⟩ ⟨cs.toArray⟩ w (by simpa [ByteArray.size] using hs) (by simpa [ByteArray.size] using hcs) (ascii_of_all (by simpa using ha))
    have hf : Tryz.lays160_ren.f 160 = 180 := by kernel_rfl
    rw [hf] at h
    simpa using h)
end Go.Proofs.YtpifoghhaohhaaaGreatDoor
namespace Go.Proofs.YtpifoghhaohhaaaGreatDoor
open Go.RowKit Go.Shelf Go.Lib
theorem itoa_cc (n : Nat) (nid : Nat) (hn : n < 100) : ACall Tryz.prog 84 [.int .i64 (n : Nat)] [] nid (.str (Lib.decDigits n)) [] :=
  acall_below (us := [.int .i64 (n : Nat)]) nid Tryz.func84 (by kernel_rfl) (by kernel_rfl) rfl rfl (fun w => by
    have h := Any.strconv_Itoa_small Tryz.lays171 n hn w
    have hf : Tryz.lays171_ren.f 171 = 84 := by kernel_rfl
    rw [hf] at h
    refine h.mono ?_
    rintro e w' ⟨rfl, rfl⟩
    exact ⟨rfl, Below.refl _ _⟩)
def ansL : List (List UInt8) := [[48], [48], [49], [49], [120, 126]]
def ansV (A : List Int) (p : Nat) : List UInt8 := ansL.getD (pickI A p 5) []
theorem ansV_len (A : List Int) (p : Nat) : (ansV A p).length ≤ 2 := by
  unfold ansV
  exact getD_all (P := fun x : List UInt8 => x.length ≤ 2) (by unfold ansL; simp) (pickI_lt A p (n := 5) (by omega))
def boxP (s : Nat) : Option ABlk := some (.box 23 [.ptr s 0])
theorem ans_c (s b nid : Nat) (nl : Bool) (A : List Int) (p : Nat) (hs : s < b) (hb : b < nid) (hp : p ≤ 1099511627775) (hA : A.length ≤ 17592186044416) :
    ACall Tryz.prog 82 [.ptr b 0] [(b, boxP s), (s, strmC nl A p)] nid (.str (ansV A p)) [(s, strmC nl A (p + 1))] := by
  have hs1 : s < nid := by omega
  have n1 : s ≠ b := by omega
  obtain ⟨a1, a2, a3, a4, a5, a6, a7, a8, a9⟩ := id_all hs1; obtain ⟨b1, b2, b3, b4, b5, b6, b7, b8, b9⟩ := id_all hb; have g1 : (s == b) = false := (by simpa using n1); have g2 : (b == s) = false := (by simpa using fun h => n1 h.symm); have m1 : ¬ b = s := fun h => n1 h.symm
  refine acall_run c82 (by simp [a82]) ?_
  unfold boxP
  simp -dsimp only [a82, aqT, aqU, aqN, aqS, ↓seqK, ↓blkK, ↓loopK, step, stepBin, Nat.add_assoc nid, ↓reduceIte, Option.toList, ← Int.ofNat_tmod, ← Int.ofNat_tdiv, simprocAttr, BEq.rfl, LN_succ, a1, a2, a3, a4, a5, a6, a7, a8, a9, b1, b2, b3, b4, b5, b6, b7, b8, b9, g1, g2, n1, m1, strmC_low]
  refine CallO.some_go (T := 9) (nl := nl) (A := A) (p := p) (g := fun i => ansL.getD i []) (by simp only [aqT, aqU, aqN, aqS, ↓seqK, ↓blkK, ↓loopK, step, stepBin, Nat.add_assoc nid, ↓reduceIte, Option.toList, ← Int.ofNat_tmod, ← Int.ofNat_tdiv, simprocAttr, BEq.rfl, LN_succ, a1, a2, a3, a4, a5, a6, a7, a8, a9, b1, b2, b3, b4, b5, b6, b7, b8, b9, g1, g2, n1, m1]) (by simp only [aqT, aqU, aqN, aqS, ↓seqK, ↓blkK, ↓loopK, step, stepBin, Nat.add_assoc nid, ↓reduceIte, Option.toList, ← Int.ofNat_tmod, ← Int.ofNat_tdiv, simprocAttr, BEq.rfl, LN_succ, a1, a2, a3, a4, a5, a6, a7, a8, a9, b1, b2, b3, b4, b5, b6, b7, b8, b9, g1, g2, n1, m1]; rfl) (by simp only [aqT, aqU, aqN, aqS, ↓seqK, ↓blkK, ↓loopK, step, stepBin, Nat.add_assoc nid, ↓reduceIte, Option.toList, ← Int.ofNat_tmod, ← Int.ofNat_tdiv, simprocAttr, BEq.rfl, LN_succ, a1, a2, a3, a4, a5, a6, a7, a8, a9, b1, b2, b3, b4, b5, b6, b7, b8, b9, g1, g2, n1, m1]) (by omega) (by omega) hA (by omega) (by omega) ?_
  simp -dsimp only [aqT, aqU, aqN, aqS, ↓seqK, ↓blkK, ↓loopK, step, stepBin, Nat.add_assoc nid, ↓reduceIte, Option.toList, ← Int.ofNat_tmod, ← Int.ofNat_tdiv, simprocAttr, BEq.rfl, LN_succ, a1, a2, a3, a4, a5, a6, a7, a8, a9, b1, b2, b3, b4, b5, b6, b7, b8, b9, g1, g2, n1, m1, strmC_low]
  refine RetOK.go [] [] (.inl rfl) ?_
  simp [a82, retPV, over, keys, List.map_nil, List.map_cons, List.contains_cons, List.contains_nil, Bool.or_false, Bool.or_true, Bool.true_or, Bool.false_or, beq_self_eq_true, cond_true, cond_false, HeapCov, orNil, nilSz, onBlk, srcOf, getH_hit, getH_miss, getH.eq_1, getS_hit, getS_miss, getS.eq_1, BlkCov, PVCovs, PVCov, ColsEq, AColsEq, ACEq, ColEq.refl, liveIds, SlotsCov, List.all_nil, List.all_cons, List.any_nil, List.any_cons, List.nil_append, List.cons_append, inRange, apart, nilBlk, idS1, idS2, readAll, readRes, onAll, step, res, AX.val, List.drop_zero, List.drop_succ_cons, List.take_succ_cons, List.take_zero, a1, a2, a3, a4, a5, a6, a7, a8, a9, b1, b2, b3, b4, b5, b6, b7, b8, b9, g1, g2, n1, m1, strmC, ansV]
abbrev RowL := List (List UInt8 × List (List UInt8))
def rowF (R : RowL) (k : Nat) : List UInt8 := (R.getD k ([], [])).1
def rowR (R : RowL) (k : Nat) : List (List UInt8) := (R.getD k ([], [])).2
def arrR (b : Nat) (R : RowL) : Option ABlk := some (.arr 67 R.length [.s fun k => rowF R k, .o (fun k => b + (100 + k)) (fun k => (rowR R k).length)])
def inR (R : RowL) (c k : Nat) : Option ABlk := if k < c then arrS (rowR R k) else none
def famC (b : Nat) (R : RowL) (c : Nat) : Heap := [(b + 100, inR R c 0), (b + 101, inR R c 1), (b + 102, inR R c 2), (b + 103, inR R c 3), (b + 104, inR R c 4), (b + 105, inR R c 5), (b + 106, inR R c 6)]
def famR (b : Nat) (R : RowL) : Heap := famC b R R.length
theorem famR_snoc (b : Nat) (R : RowL) (x : List UInt8 × List (List UInt8)) : famR b (R ++ [x]) = famC b (R ++ [x]) (R.length + 1) := by unfold famR; rw [List.length_append]; rfl
theorem rowF_old {R : RowL} {x : List UInt8 × List (List UInt8)} {k : Nat} (h : k < R.length) : rowF (R ++ [x]) k = rowF R k := by unfold rowF; rw [List.getD_eq_getElem?_getD, List.getElem?_append_left h, ← List.getD_eq_getElem?_getD]
theorem rowR_old {R : RowL} {x : List UInt8 × List (List UInt8)} {k : Nat} (h : k < R.length) : rowR (R ++ [x]) k = rowR R k := by unfold rowR; rw [List.getD_eq_getElem?_getD, List.getElem?_append_left h, ← List.getD_eq_getElem?_getD]
theorem rowF_new {R : RowL} {x : List UInt8 × List (List UInt8)} {k : Nat} (h : k = R.length) : rowF (R ++ [x]) k = x.1 := by unfold rowF; subst h; simp
theorem rowR_new {R : RowL} {x : List UInt8 × List (List UInt8)} {k : Nat} (h : k = R.length) : rowR (R ++ [x]) k = x.2 := by unfold rowR; subst h; simp
def boxD (g n r m : Nat) : Option ABlk := some (.box 29 [.sl g 0 n, .sl r 0 m])
def namesL : List (List UInt8) := [[], [70], [102, 48], [102, 49], [102, 50], [102, 51], [102, 52], [102, 53], [102, 54]]
structure DictB (most : Nat) (G : List (List UInt8)) (R : RowL) : Prop where
  gl : G.length ≤ most
  gs : ShortRows 101 G
  rl : R.length ≤ 7
  rs : ∀ x ∈ R, x.1 ∈ namesL ∧ x.2.length ≤ most + 1 ∧ ShortRows 101 x.2
def dictP (g0 r0 : Bool) (b : Nat → Bool) (G : List (List UInt8)) (R : RowL) : PV := .agg [.lit g0 G.length [.s fun k => G.getD k []], .lit r0 R.length [.s fun k => rowF R k, .l b (fun k => (rowR R k).length) (fun k => [.s fun j => (rowR R k).getD j []])]]
structure DictX where
  g0 : Bool
  r0 : Bool
  b : Nat → Bool
  G : List (List UInt8)
  R : RowL
  q : Nat
def dropV : Nat → ACode → ACode
  | 0, c => c
  | k + 1, .seq _ b => dropV k b
  | _ + 1, c => c
def headV : ACode → ACode
  | .seq a _ => a
  | c => c
def roundV : ACode → ACode
  | .seq _ (.block _ (.loop (.seq _ (.seq _ (.seq x _))))) => x
  | c => c
theorem decDigits_len {n : Nat} (h : n < 10) : (Lib.decDigits n).length = 1 := by
  unfold Lib.decDigits
  rw [dif_pos h]
  rfl
def faultN (i : Nat) : List UInt8 := [102] ++ Lib.decDigits i
theorem faultN_mem {i : Nat} (h : i < 7) : faultN i ∈ namesL := by
  have e : i = 0 ∨ i = 1 ∨ i = 2 ∨ i = 3 ∨ i = 4 ∨ i = 5 ∨ i = 6 := by omega
  rcases e with rfl | rfl | rfl | rfl | rfl | rfl | rfl <;> (unfold faultN Lib.decDigits; rw [dif_pos (by omega)]; decide)
set_option maxHeartbeats 8000000 in
theorem dict_round (s nid : Nat) (nl : Bool) (A : List Int) (q m n : Nat) (G : List (List UInt8)) (R : RowL) (h : s < nid) (hq : q ≤ 1099500001000) (hA : A.length ≤ 17592186044416) (hG : G.length = m) (hm0 : 1 ≤ m) (hm : m ≤ 6) (hG2 : ShortRows 2 G) (hi : R.length = 0 ∨ R.length = 1 ∨ R.length = 2 ∨ R.length = 3 ∨ R.length = 4 ∨ R.length = 5 ∨ R.length = 6) (Q : AEx → ST → Prop) :
    SR Tryz.prog (roundV (headV (dropV 4 a14.body))) ⟨[(31, .bool true), (30, .int .i64 R.length), (29, .int .i64 (n : Nat)), (8, .fn 82 [.ptr nid 0]), (7, .ptr (nid + 8) 0), (6, .ptr (nid + 4) 0), (3, .ptr nid 0)], [(nid, boxP s), (nid + 4, some (.box 29 [.lit true 0 [], .lit true 0 []])), (nid + 8, boxD (nid + 20) G.length (nid + 24) R.length), (nid + 20, arrS G), (s, strmC nl A q), (nid + 24, arrR nid R)] ++ famR nid R, nid + 1200, nid⟩
      (seqK (fun st => ∃ L : {L : List (List UInt8) // L.length = m ∧ ShortRows 2 L}, Cov st ⟨[(30, .int .i64 R.length), (29, .int .i64 (n : Nat)), (8, .fn 82 [.ptr nid 0]), (7, .ptr (nid + 8) 0), (6, .ptr (nid + 4) 0), (3, .ptr nid 0)], [(nid, boxP s), (nid + 4, some (.box 29 [.lit true 0 [], .lit true 0 []])), (nid + 8, boxD (nid + 20) G.length (nid + 24) (R.length + 1)), (nid + 20, arrS G), (s, strmC nl A (q + 2 * m)), (nid + 24, arrR nid (R ++ [(faultN R.length, L.1)]))] ++ famR nid (R ++ [(faultN R.length, L.1)]), nid + 1180, nid⟩) Q) .mk := by
  obtain ⟨e1, e2, e3, e4, e5, e6, e7, e8, e9⟩ := id_all h
  simp only [a14, dropV, headV, roundV]
  have hdl := decDigits_len (n := R.length) (by omega)
  have hf0 : ∀ c, R.length = c → famR nid R = famC nid R c := fun c hc => by rw [← hc]; rfl
  have hrl : R.length ≤ 6 := by omega
  refine SR.block ?_
  refine SR.seq ?_
  unfold boxP boxD arrS arrR
  rcases hi with hi | hi | hi | hi | hi | hi | hi
  all_goals
    rw [hf0 _ hi]
    unfold famC inR arrS
    simp -dsimp only [aqT, aqU, aqN, aqS, ↓seqK, ↓blkK, ↓loopK, step, stepBin, Nat.add_assoc nid, ↓reduceIte, Option.toList, ← Int.ofNat_tmod, ← Int.ofNat_tdiv, simprocAttr, BEq.rfl, LN_succ, e1, e2, e3, e4, e5, e6, e7, e8, e9, strmC_low, Nat.reduceLT, Nat.lt_irrefl, if_true, if_false]
    refine SR.seq ?_
    simp -dsimp only [aqT, aqU, aqN, aqS, ↓seqK, ↓blkK, ↓loopK, step, stepBin, Nat.add_assoc nid, ↓reduceIte, Option.toList, ← Int.ofNat_tmod, ← Int.ofNat_tdiv, simprocAttr, BEq.rfl, LN_succ, e1, e2, e3, e4, e5, e6, e7, e8, e9, strmC_low]
    refine CallO.pure (itoa_cc R.length _ (by omega)) ?_
    simp -dsimp only [aqT, aqU, aqN, aqS, ↓seqK, ↓blkK, ↓loopK, step, stepBin, Nat.add_assoc nid, ↓reduceIte, Option.toList, ← Int.ofNat_tmod, ← Int.ofNat_tdiv, simprocAttr, BEq.rfl, LN_succ, e1, e2, e3, e4, e5, e6, e7, e8, e9, strmC_low]
    refine ⟨by rw [hdl]; simp, ?_⟩
    refine SR.seqW (ι := {L : List (List UInt8) // L.length = m ∧ ShortRows 2 L}) (fun L => ⟨[(10, .ptr (nid + 28) 0), (30, .int .i64 R.length), (29, .int .i64 (n : Nat)), (8, .fn 82 [.ptr nid 0]), (7, .ptr (nid + 8) 0), (6, .ptr (nid + 4) 0), (3, .ptr nid 0)], [(nid + 28, some (.box 67 [.str (faultN R.length), .sl (nid + 32) 0 L.1.length])), (nid + 32, arrS L.1), (nid, boxP s), (nid + 4, some (.box 29 [.lit true 0 [], .lit true 0 []])), (nid + 8, boxD (nid + 20) G.length (nid + 24) R.length), (nid + 20, arrS G), (s, strmC nl A (q + 2 * m)), (nid + 24, arrR nid R)] ++ famR nid R, nid + 2400, nid⟩) ?_ (fun ⟨L, hL1, hL2⟩ => ?_)
    · refine SR.seqTo ⟨[(40, .int .i64 0), (39, .int .i64 G.length), (38, .sl (nid + 20) 0 G.length), (10, .ptr (nid + 28) 0), (30, .int .i64 R.length), (29, .int .i64 (n : Nat)), (8, .fn 82 [.ptr nid 0]), (7, .ptr (nid + 8) 0), (6, .ptr (nid + 4) 0), (3, .ptr nid 0)], [(nid + 28, some (.box 67 [.str (faultN R.length), .lit true 0 []])), (nid, boxP s), (nid + 4, some (.box 29 [.lit true 0 [], .lit true 0 []])), (nid + 8, boxD (nid + 20) G.length (nid + 24) R.length), (nid + 20, arrS G), (s, strmC nl A q), (nid + 24, arrR nid R)] ++ famR nid R, nid + 1400, nid⟩ ?_ ?_
      · simp -dsimp only [aqT, aqU, aqN, aqS, ↓seqK, ↓blkK, ↓loopK, step, stepBin, Nat.add_assoc nid, ↓reduceIte, Option.toList, ← Int.ofNat_tmod, ← Int.ofNat_tdiv, simprocAttr, BEq.rfl, LN_succ, e1, e2, e3, e4, e5, e6, e7, e8, e9, strmC_low]
        refine Cov.go [(nid + 28, nid + 1224)] [] ?_
        rw [hf0 _ hi]
        simp [retPV, over, keys, List.map_nil, List.map_cons, List.contains_cons, List.contains_nil, Bool.or_false, Bool.or_true, Bool.true_or, Bool.false_or, beq_self_eq_true, cond_true, cond_false, HeapCov, orNil, nilSz, onBlk, srcOf, getH_hit, getH_miss, getH.eq_1, getS_hit, getS_miss, getS.eq_1, BlkCov, PVCovs, PVCov, ColsEq, AColsEq, ACEq, ColEq.refl, liveIds, SlotsCov, List.all_nil, List.all_cons, List.any_nil, List.any_cons, List.nil_append, List.cons_append, inRange, apart, nilBlk, idS1, idS2, readAll, readRes, onAll, step, res, AX.val, List.drop_zero, List.drop_succ_cons, List.take_succ_cons, List.take_zero, e1, e2, e3, e4, e5, e6, e7, e8, e9, strmC, famC, inR, boxP, boxD, arrS, arrR, faultN, -List.getD_eq_getElem?_getD, -List.length_append]
        exact fun j hj => ⟨by first | omega | (rw [show (nid + 28 == nid + (100 + j)) = false by simp; omega]; rfl), by omega⟩
      refine SR.run (t := .mk) ?_
      rw [hf0 _ hi]
      unfold famC inR boxP boxD arrS arrR
      simp -dsimp only [aqT, aqU, aqN, aqS, ↓seqK, ↓blkK, ↓loopK, step, stepBin, Nat.add_assoc nid, ↓reduceIte, Option.toList, ← Int.ofNat_tmod, ← Int.ofNat_tdiv, simprocAttr, BEq.rfl, LN_succ, e1, e2, e3, e4, e5, e6, e7, e8, e9, strmC_low, Nat.reduceLT, Nat.lt_irrefl, if_true, if_false]
      refine LP.mkP (fun L : List (List UInt8) => L.length ≤ m ∧ ShortRows 2 L) (fun L => ⟨[(40, .int .i64 L.length), (39, .int .i64 G.length), (38, .sl (nid + 20) 0 G.length), (10, .ptr (nid + 28) 0), (30, .int .i64 R.length), (29, .int .i64 (n : Nat)), (8, .fn 82 [.ptr nid 0]), (7, .ptr (nid + 8) 0), (6, .ptr (nid + 4) 0), (3, .ptr nid 0)], [(nid + 28, some (.box 67 [.str (faultN R.length), .sl (nid + 32) 0 L.length])), (nid + 32, arrS L), (nid, boxP s), (nid + 4, some (.box 29 [.lit true 0 [], .lit true 0 []])), (nid + 8, boxD (nid + 20) G.length (nid + 24) R.length), (nid + 20, arrS G), (s, strmC nl A (q + 2 * L.length)), (nid + 24, arrR nid R)] ++ famR nid R, nid + 1600, nid⟩) (fun L => m + 1 - L.length) [] ⟨by simp, fun r hr => by simp at hr⟩ (Cov.go [] [(nid + 32, 1)] ?_) (fun L hL => ?_)
      · rw [hf0 _ hi]
        simp [retPV, over, keys, List.map_nil, List.map_cons, List.contains_cons, List.contains_nil, Bool.or_false, Bool.or_true, Bool.true_or, Bool.false_or, beq_self_eq_true, cond_true, cond_false, HeapCov, orNil, nilSz, onBlk, srcOf, getH_hit, getH_miss, getH.eq_1, getS_hit, getS_miss, getS.eq_1, BlkCov, PVCovs, PVCov, ColsEq, AColsEq, ACEq, ColEq.refl, liveIds, SlotsCov, List.all_nil, List.all_cons, List.any_nil, List.any_cons, List.nil_append, List.cons_append, inRange, apart, nilBlk, idS1, idS2, readAll, readRes, onAll, step, res, AX.val, List.drop_zero, List.drop_succ_cons, List.take_succ_cons, List.take_zero, e1, e2, e3, e4, e5, e6, e7, e8, e9, strmC, famC, inR, boxP, boxD, arrS, arrR, faultN, -List.getD_eq_getElem?_getD, -List.length_append]
        exact fun j hj => ⟨by first | omega | (rw [show (nid + 28 == nid + (100 + j)) = false by simp; omega]; rfl), by omega⟩
      obtain ⟨hL1, hL2⟩ := hL
      rw [hf0 _ hi]
      unfold famC inR boxP boxD arrS arrR
      simp -dsimp only [aqT, aqU, aqN, aqS, ↓seqK, ↓blkK, ↓loopK, step, stepBin, Nat.add_assoc nid, ↓reduceIte, Option.toList, ← Int.ofNat_tmod, ← Int.ofNat_tdiv, simprocAttr, BEq.rfl, LN_succ, e1, e2, e3, e4, e5, e6, e7, e8, e9, strmC_low, Nat.reduceLT, Nat.lt_irrefl, if_true, if_false]
      refine S2.dec (fun h3 => ?_) (fun h3 => ?_) <;> simp -dsimp only [aqT, aqU, aqN, aqS, ↓seqK, ↓blkK, ↓loopK, step, stepBin, Nat.add_assoc nid, ↓reduceIte, Option.toList, ← Int.ofNat_tmod, ← Int.ofNat_tdiv, simprocAttr, BEq.rfl, LN_succ, e1, e2, e3, e4, e5, e6, e7, e8, e9, strmC_low]
      · have hLG : L.length < G.length := by omega
        have hgl := hG2.at L.length
        have hal := ansV_len A (q + 2 * L.length)
        refine ⟨⟨by omega, by omega⟩, ?_⟩
        refine CallX.on (ans_c s nid _ nl A (q + 2 * L.length) h (by omega) (by omega) hA) (subH_cons (by simp only [aqT, aqU, aqN, ↓seqK, ↓blkK, ↓loopK, step, stepBin, Nat.reduceBEq, Nat.reduceBeqDiff, Nat.add_assoc nid, Nat.reduceAdd, reduceCtorEq, ↓reduceIte, Nat.reduceLeDiff, Nat.reduceBneDiff, Option.toList, ← Int.ofNat_tmod, ← Int.ofNat_tdiv, Nat.reduceLT, e1, e2, e3, e4, e5, e6, e7, e8, e9, Int.cast_ofNat_Int, Int.reduceBEq, Int.reduceBNe, Int.reduceLT, Int.reduceLE, Int.reduceAdd, Int.reduceSub, Int.reduceMul, Int.reduceToNat, Int.reduceNeg, Int.reduceTMod, Int.reduceEq, not_false_eq_true, Int.reducePow, Int.reduceFDiv, Nat.reducePow, Nat.reduceSub, Nat.reduceMul, Nat.min_eq_left, Nat.reduceEqDiff, BEq.rfl, Int.tdiv_one, LN_succ, boxP]) (subH_get (by simp only [aqT, aqU, aqN, aqS, ↓seqK, ↓blkK, ↓loopK, step, stepBin, Nat.add_assoc nid, ↓reduceIte, Option.toList, ← Int.ofNat_tmod, ← Int.ofNat_tdiv, simprocAttr, BEq.rfl, LN_succ, e1, e2, e3, e4, e5, e6, e7, e8, e9]))) ?_
        simp -dsimp only [aqT, aqU, aqN, aqS, ↓seqK, ↓blkK, ↓loopK, step, stepBin, Nat.add_assoc nid, ↓reduceIte, Option.toList, ← Int.ofNat_tmod, ← Int.ofNat_tdiv, simprocAttr, BEq.rfl, LN_succ, e1, e2, e3, e4, e5, e6, e7, e8, e9, strmC_low]
        refine ⟨by simp, ?_⟩
        refine CallX.some_go (T := 9) (nl := nl) (A := A) (p := q + 2 * L.length + 1) (g := fun i => [G.getD L.length [], G.getD L.length [], ansV A (q + 2 * L.length)].getD i []) (by simp only [aqT, aqU, aqN, aqS, ↓seqK, ↓blkK, ↓loopK, step, stepBin, Nat.add_assoc nid, ↓reduceIte, Option.toList, ← Int.ofNat_tmod, ← Int.ofNat_tdiv, simprocAttr, BEq.rfl, LN_succ, e1, e2, e3, e4, e5, e6, e7, e8, e9]) (by simp only [aqT, aqU, aqN, aqS, ↓seqK, ↓blkK, ↓loopK, step, stepBin, Nat.add_assoc nid, ↓reduceIte, Option.toList, ← Int.ofNat_tmod, ← Int.ofNat_tdiv, simprocAttr, BEq.rfl, LN_succ, e1, e2, e3, e4, e5, e6, e7, e8, e9]) (by simp only [aqT, aqU, aqN, aqS, ↓seqK, ↓blkK, ↓loopK, step, stepBin, Nat.add_assoc nid, ↓reduceIte, Option.toList, ← Int.ofNat_tmod, ← Int.ofNat_tdiv, simprocAttr, BEq.rfl, LN_succ, e1, e2, e3, e4, e5, e6, e7, e8, e9]) (by omega) (by omega) hA (by omega) (by omega) ?_
        have hb := getD_all (P := fun x : List UInt8 => x.length ≤ 2) (l := [G.getD L.length [], G.getD L.length [], ansV A (q + 2 * L.length)]) (d := []) (by intro x hx; simp only [List.mem_cons, List.not_mem_nil, or_false] at hx; rcases hx with rfl | rfl | rfl <;> assumption) (pickI_lt A (q + 2 * L.length + 1) (n := 3) (by omega))
        generalize ([G.getD L.length [], G.getD L.length [], ansV A (q + 2 * L.length)].getD (pickI A (q + 2 * L.length + 1) 3) [] : List UInt8) = v at hb ⊢
        simp -dsimp only [aqT, aqU, aqN, aqS, ↓seqK, ↓blkK, ↓loopK, step, stepBin, Nat.add_assoc nid, ↓reduceIte, Option.toList, ← Int.ofNat_tmod, ← Int.ofNat_tdiv, simprocAttr, BEq.rfl, LN_succ, e1, e2, e3, e4, e5, e6, e7, e8, e9, strmC_low]
        rw [getD_app1 L v rfl]
        have hl : (L ++ [v]).length = L.length + 1 := by simp
        refine ⟨by omega, by unfold inI64; omega, L ++ [v], ⟨⟨by omega, hL2.snoc hb⟩, by omega⟩, Cov.go [(nid + 32, nid + 1656)] [] ?_⟩
        simp [retPV, over, keys, List.map_nil, List.map_cons, List.contains_cons, List.contains_nil, Bool.or_false, Bool.or_true, Bool.true_or, Bool.false_or, beq_self_eq_true, cond_true, cond_false, HeapCov, orNil, nilSz, onBlk, srcOf, getH_hit, getH_miss, getH.eq_1, getS_hit, getS_miss, getS.eq_1, BlkCov, PVCovs, PVCov, ColsEq, AColsEq, ACEq, ColEq.refl, liveIds, SlotsCov, List.all_nil, List.all_cons, List.any_nil, List.any_cons, List.nil_append, List.cons_append, inRange, apart, nilBlk, idS1, idS2, readAll, readRes, onAll, step, res, AX.val, List.drop_zero, List.drop_succ_cons, List.take_succ_cons, List.take_zero, e1, e2, e3, e4, e5, e6, e7, e8, e9, strmC, famC, inR, boxP, boxD, arrS, arrR, faultN, hl, -List.getD_eq_getElem?_getD, -List.length_append]
        exact ⟨by omega, fun j hj => ⟨by rw [show (nid + 32 == nid + (100 + j)) = false by simp; omega]; rfl, by omega⟩⟩
      · have hLm : L.length = m := by omega
        refine ⟨⟨L, hLm, hL2⟩, Cov.go [] [] ?_⟩
        try rw [hf0 _ hi]
        simp [retPV, over, keys, List.map_nil, List.map_cons, List.contains_cons, List.contains_nil, Bool.or_false, Bool.or_true, Bool.true_or, Bool.false_or, beq_self_eq_true, cond_true, cond_false, HeapCov, orNil, nilSz, onBlk, srcOf, getH_hit, getH_miss, getH.eq_1, getS_hit, getS_miss, getS.eq_1, BlkCov, PVCovs, PVCov, ColsEq, AColsEq, ACEq, ColEq.refl, liveIds, SlotsCov, List.all_nil, List.all_cons, List.any_nil, List.any_cons, List.nil_append, List.cons_append, inRange, apart, nilBlk, idS1, idS2, readAll, readRes, onAll, step, res, AX.val, List.drop_zero, List.drop_succ_cons, List.take_succ_cons, List.take_zero, e1, e2, e3, e4, e5, e6, e7, e8, e9, strmC, famC, inR, boxP, boxD, arrS, arrR, faultN, hLm, -List.getD_eq_getElem?_getD, -List.length_append]
        try exact fun j hj => (by omega)
    simp only
    rw [hf0 _ hi]
    unfold famC inR boxP boxD arrS arrR
    refine SR.run (t := .mk) ?_
    simp -dsimp only [aqT, aqU, aqN, aqS, ↓seqK, ↓blkK, ↓loopK, step, stepBin, Nat.add_assoc nid, ↓reduceIte, Option.toList, ← Int.ofNat_tmod, ← Int.ofNat_tdiv, simprocAttr, BEq.rfl, LN_succ, e1, e2, e3, e4, e5, e6, e7, e8, e9, strmC_low, Nat.reduceLT, Nat.lt_irrefl, if_true, if_false]
    have ho1 : ∀ k, k < R.length → rowR (R ++ [(faultN R.length, L)]) k = rowR R k := fun k hk => rowR_old hk
    have ho2 : ∀ k, k < R.length → rowF (R ++ [(faultN R.length, L)]) k = rowF R k := fun k hk => rowF_old hk
    have hn1 : ∀ k, k = R.length → rowR (R ++ [(faultN R.length, L)]) k = L := fun k hk => rowR_new hk
    have hn2 : ∀ k, k = R.length → rowF (R ++ [(faultN R.length, L)]) k = faultN R.length := fun k hk => rowF_new hk
    have hll : (R ++ [(faultN R.length, L)]).length = R.length + 1 := by simp
    refine ⟨by omega, ⟨L, hL1, hL2⟩, Cov.go [(nid + 24, nid + 2416), (nid + (100 + R.length), nid + 32)] [] ?_⟩
    rw [famR_snoc]
    simp only [hll]
    generalize R ++ [(faultN R.length, L)] = R2 at *
    simp [retPV, over, keys, List.map_nil, List.map_cons, List.contains_cons, List.contains_nil, Bool.or_false, Bool.or_true, Bool.true_or, Bool.false_or, beq_self_eq_true, cond_true, cond_false, HeapCov, orNil, nilSz, onBlk, srcOf, getH_hit, getH_miss, getH.eq_1, getS_hit, getS_miss, getS.eq_1, BlkCov, PVCovs, PVCov, ColsEq, AColsEq, ACEq, ColEq.refl, liveIds, SlotsCov, List.all_nil, List.all_cons, List.any_nil, List.any_cons, List.nil_append, List.cons_append, inRange, apart, nilBlk, idS1, idS2, readAll, readRes, onAll, step, res, AX.val, List.drop_zero, List.drop_succ_cons, List.take_succ_cons, List.take_zero, e1, e2, e3, e4, e5, e6, e7, e8, e9, strmC, famC, inR, boxP, boxD, arrS, arrR, hi, ho1, hn1, -List.getD_eq_getElem?_getD, -List.length_append]
    first
      | exact ⟨ColEq.s fun j hj => by
          have e : j = 0 := by omega
          subst e
          rw [hn2 0 (by omega), hi]
          rfl, rfl, rfl⟩
      | refine ⟨ColEq.s fun j hj => ?_, fun j hj => ⟨?_, by omega, ?_⟩⟩
        · by_cases e : j < R.length
          · rw [ho2 j e, if_pos (by omega)]
          · have ej : j = R.length := by omega
            rw [hn2 j ej, if_neg (by omega), ej, hi]
            rfl
        · rw [if_neg (by omega)]
          by_cases e : j < R.length
          · have e2 : (nid + (100 + R.length) == nid + (100 + j)) = false := by simp; omega
            simp only [hi, Nat.reduceAdd] at e2
            rw [e2, if_pos (by omega)]
            rfl
          · have ej : j = R.length := by omega
            have e2 : (nid + (100 + R.length) == nid + (100 + j)) = true := by simp; omega
            simp only [hi, Nat.reduceAdd] at e2
            rw [e2, if_neg (by omega), ej, hi]
            rfl
        · by_cases e : j < R.length
          · rw [ho1 j e, if_pos (by omega)]
          · have ej : j = R.length := by omega
            rw [hn1 j ej, if_neg (by omega), ej, hi]
            rfl
end Go.Proofs.YtpifoghhaohhaaaGreatDoor
namespace Go.Proofs.YtpifoghhaohhaaaGreatDoor
open Go.RowKit Go.Shelf Go.Lib
def SlotsIn (s : Slots) : Slots → Prop
  | [] => True
  | (i, p) :: r => getS s i = p ∧ SlotsIn s r
theorem SlotsIn.get {s : Slots} : ∀ {s' : Slots}, SlotsIn s s' → ∀ i, getS s' i = .any ∨ getS s' i = getS s i
  | [], _, i => .inl rfl
  | (j, p) :: r, h, i => by
    simp only [getS]
    cases hj : j == i
    · exact SlotsIn.get h.2 i
    · have : j = i := by simpa using hj
      subst this
      exact .inr h.1.symm
theorem Cov.drop {s s' : Slots} {H : Heap} {n n' b : Nat} (hn : n ≤ n') (hs : SlotsIn s s') : Cov ⟨s, H, n, b⟩ ⟨s', H, n', b⟩ := fun C nt Y m a w h => by
  refine ⟨Y, m, h.size, h.defers, fun i p hp hne => ?_, h.heap.mono (fun id hid => Nat.le_trans hn hid), h.base⟩
  rcases hs.get i with e | e
  · exact absurd (hp.symm.trans e) hne
  · exact h.slots i p (e.symm.trans hp) hne
theorem fam_at (b : Nat) (R : RowL) (hR : R.length ≤ 7) {k : Nat} (hk : k < R.length) : getH (famR b R) (b + (100 + k)) = arrS (rowR R k) := by
  have : ∀ c, c ≤ 7 → ∀ k, k < c → getH (famC b R c) (b + (100 + k)) = arrS (rowR R k) := fun c hc k hk => by
    have : k = 0 ∨ k = 1 ∨ k = 2 ∨ k = 3 ∨ k = 4 ∨ k = 5 ∨ k = 6 := by omega
    have nb : ∀ x y : Nat, (x == y) = false → (b + x == b + y) = false := fun x y hxy => by
      have : x ≠ y := by simpa using hxy
      simp
      omega
    rcases this with rfl | rfl | rfl | rfl | rfl | rfl | rfl <;> simp only [famC, inR, getH, Nat.reduceAdd, cond_true, cond_false, beq_self_eq_true, if_pos hk, nb 100 101 rfl, nb 100 102 rfl, nb 101 102 rfl, nb 100 103 rfl, nb 101 103 rfl, nb 102 103 rfl, nb 100 104 rfl, nb 101 104 rfl, nb 102 104 rfl, nb 103 104 rfl, nb 100 105 rfl, nb 101 105 rfl, nb 102 105 rfl, nb 103 105 rfl, nb 104 105 rfl, nb 100 106 rfl, nb 101 106 rfl, nb 102 106 rfl, nb 103 106 rfl, nb 104 106 rfl, nb 105 106 rfl]
  exact this _ hR k hk
def dictH (s nid : Nat) (nl : Bool) (A : List Int) (q : Nat) (G : List (List UInt8)) (R : RowL) : Heap := [(nid, boxP s), (nid + 4, some (.box 29 [.lit true 0 [], .lit true 0 []])), (nid + 8, boxD (nid + 20) G.length (nid + 24) R.length), (nid + 20, arrS G), (s, strmC nl A q), (nid + 24, arrR nid R)] ++ famR nid R
theorem dict_at (s nid : Nat) (nl : Bool) (A : List Int) (q : Nat) (G : List (List UInt8)) (R : RowL) (h : s < nid) (hR : R.length ≤ 7) {k : Nat} (hk : k < R.length) : getH (dictH s nid nl A q G R) (nid + (100 + k)) = arrS (rowR R k) := by
  unfold dictH
  have e1 : (nid == nid + (100 + k)) = false := by simp
  have e2 : ∀ c, c < 100 → (nid + c == nid + (100 + k)) = false := fun c hc => by simp; omega
  have e3 : (s == nid + (100 + k)) = false := by simp; omega
  simp only [List.cons_append, List.nil_append, getH, e1, e2 4 (by omega), e2 8 (by omega), e2 20 (by omega), e2 24 (by omega), e3, cond_false]
  exact fam_at nid R hR hk
set_option maxHeartbeats 4000000 in
theorem dict_end (s nid p q q0 tests : Nat) (nl : Bool) (A : List Int) (G : List (List UInt8)) (R : RowL) (h : s < nid) (hB : DictB tests G R) (hq : q ≤ q0) :
    SR Tryz.prog (dropV 6 a14.body) ⟨[(7, .ptr (nid + 8) 0), (6, .ptr (nid + 4) 0)], dictH s nid nl A q G R, nid + 5000, nid⟩ (fun e st => ∃ x : DictX, (DictB tests x.G x.R ∧ x.q ≤ q0) ∧ RetOK a14.res [(s, strmC nl A p)] nid (dictP x.g0 x.r0 x.b x.G x.R) [(s, strmC nl A x.q)] e st) .mk := by
  obtain ⟨e1, e2, e3, e4, e5, e6, e7, e8, e9⟩ := id_all h
  have hat := fun k (hk : k < R.length) => dict_at s nid nl A q G R h hB.rl hk
  refine SR.freezeO [nid + 100, nid + 101, nid + 102, nid + 103, nid + 104, nid + 105, nid + 106] (nid + 24) 67 R.length [.s fun k => rowF R k, .o (fun k => nid + (100 + k)) (fun k => (rowR R k).length)] ?_ ?_ ?_ (fun n1 hn1 => ?_)
  · unfold dictH arrR
    simp only [List.cons_append, List.nil_append, aqT, aqU, aqN, aqS, ↓seqK, ↓blkK, ↓loopK, step, stepBin, Nat.add_assoc nid, ↓reduceIte, Option.toList, ← Int.ofNat_tmod, ← Int.ofNat_tdiv, simprocAttr, BEq.rfl, LN_succ, e1, e2, e3, e4, e5, e6, e7, e8, e9]
  · simp
  · intro c hc
    simp only [List.mem_cons, List.not_mem_nil, or_false] at hc
    rcases hc with rfl | rfl
    · trivial
    · intro k hk
      have hk6 : k = 0 ∨ k = 1 ∨ k = 2 ∨ k = 3 ∨ k = 4 ∨ k = 5 ∨ k = 6 := by have := hB.rl; omega
      refine ⟨?_, _, _, _, hat k hk, rfl⟩
      rcases hk6 with rfl | rfl | rfl | rfl | rfl | rfl | rfl <;> simp
  have hco : ∀ k, k < R.length → colsAt (dictH s nid nl A q G R) (nid + (100 + k)) = [.s fun j => (rowR R k).getD j []] := fun k hk => by
    unfold colsAt
    rw [hat k hk]
    rfl
  simp only [List.map_cons, List.map_nil, oCol]
  generalize hCA : colsAt (dictH s nid nl A q G R) = CA at *
  clear hn1 hat
  refine SR.cov (t' := .mk) (st' := ⟨[(7, .ptr (nid + 8) 0), (6, .ptr (nid + 4) 0)], [(nid + 4, some (.box 29 [.lit true 0 [], .lit true 0 []])), (nid + 8, boxD (nid + 20) G.length (nid + 24) R.length), (nid + 20, arrS G), (s, strmC nl A q), (nid + 24, some (.arr 67 R.length [.s fun k => rowF R k, .l (fun k => n1 (nid + (100 + k))) (fun k => (rowR R k).length) (fun k => [.s fun j => (rowR R k).getD j []])]))], nid + 5000, nid⟩) (Cov.go [] [] ?_) ?_
  · unfold dictH boxP boxD arrS arrR strmC
    simp [retPV, over, keys, List.map_nil, List.map_cons, List.contains_cons, List.contains_nil, Bool.or_false, Bool.or_true, Bool.true_or, Bool.false_or, beq_self_eq_true, cond_true, cond_false, HeapCov, orNil, nilSz, onBlk, srcOf, getH_hit, getH_miss, getH.eq_1, getS_hit, getS_miss, getS.eq_1, BlkCov, PVCovs, PVCov, ColsEq, AColsEq, ACEq, ColEq.refl, liveIds, SlotsCov, List.all_nil, List.all_cons, List.any_nil, List.any_cons, List.nil_append, List.cons_append, inRange, apart, nilBlk, idS1, idS2, readAll, readRes, onAll, step, res, AX.val, List.drop_zero, List.drop_succ_cons, List.take_succ_cons, List.take_zero, e1, e2, e3, e4, e5, e6, e7, e8, e9, frzS, frzH, frzBlk, lends, lend, kill, noOs, -List.getD_eq_getElem?_getD]
    exact ColEq.l fun k hk => ⟨rfl, rfl, by rw [hco k hk]; exact ColsEq.refl _ _⟩
  unfold boxD arrS
  refine SR.freezeB [nid + 20, nid + 24] (fun n2 => ?_)
  simp only [frzS, frzH, frzBlk, lends, lend, kill, strmC, aqT, aqU, aqN, aqS, ↓seqK, ↓blkK, ↓loopK, step, stepBin, Nat.add_assoc nid, ↓reduceIte, Option.toList, ← Int.ofNat_tmod, ← Int.ofNat_tdiv, simprocAttr, BEq.rfl, LN_succ, e1, e2, e3, e4, e5, e6, e7, e8, e9]
  clear hco hCA
  simp only [a14, dropV]
  refine SR.run (t := .mk) ?_
  simp -dsimp only [aqT, aqU, aqN, ↓seqK, ↓blkK, ↓loopK, step, stepBin, Nat.reduceBEq, Nat.reduceBeqDiff, Nat.add_assoc nid, Nat.reduceAdd, reduceCtorEq, ↓reduceIte, Nat.reduceLeDiff, Nat.reduceBneDiff, Option.toList, ← Int.ofNat_tmod, ← Int.ofNat_tdiv, Nat.reduceLT, e1, e2, e3, e4, e5, e6, e7, e8, e9]
  refine ⟨⟨n2 (nid + 20), n2 (nid + 24), fun k => n1 (nid + (100 + k)), G, R, q⟩, ⟨hB, hq⟩, RetOK.go [] [] (.inl rfl) ?_⟩
  simp [a14, retPV, over, keys, List.map_nil, List.map_cons, List.contains_cons, List.contains_nil, Bool.or_false, Bool.or_true, Bool.true_or, Bool.false_or, beq_self_eq_true, cond_true, cond_false, HeapCov, orNil, nilSz, onBlk, srcOf, getH_hit, getH_miss, getH.eq_1, getS_hit, getS_miss, getS.eq_1, BlkCov, PVCovs, PVCov, ColsEq, AColsEq, ACEq, ColEq.refl, liveIds, SlotsCov, List.all_nil, List.all_cons, List.any_nil, List.any_cons, List.nil_append, List.cons_append, inRange, apart, nilBlk, idS1, idS2, readAll, readRes, onAll, step, res, AX.val, List.drop_zero, List.drop_succ_cons, List.take_succ_cons, List.take_zero, e1, e2, e3, e4, e5, e6, e7, e8, e9, strmC, dictP, ColsEq.refl, -List.getD_eq_getElem?_getD]
end Go.Proofs.YtpifoghhaohhaaaGreatDoor
namespace Go.Proofs.YtpifoghhaohhaaaGreatDoor
open Go.RowKit Go.Shelf Go.Lib
def thenV : ACode → ACode
  | .seq _ (.cond _ a _) => a
  | c => c
theorem rowF_set {R : RowL} {I : Nat} (x : List UInt8 × List (List UInt8)) (hI : I < R.length) (j : Nat) : rowF (R.set I x) j = if j = I then x.1 else rowF R j := by
  unfold rowF
  rw [List.getD_eq_getElem?_getD, List.getElem?_set]
  by_cases h : j = I
  · subst h; simp [hI]
  · rw [if_neg (fun e => h e.symm), if_neg h, ← List.getD_eq_getElem?_getD]
theorem rowR_set {R : RowL} {I : Nat} (x : List UInt8 × List (List UInt8)) (hI : I < R.length) (j : Nat) : rowR (R.set I x) j = if j = I then x.2 else rowR R j := by
  unfold rowR
  rw [List.getD_eq_getElem?_getD, List.getElem?_set]
  by_cases h : j = I
  · subst h; simp [hI]
  · rw [if_neg (fun e => h e.symm), if_neg h, ← List.getD_eq_getElem?_getD]
structure SpX where
  G : List (List UInt8)
  R : RowL
  q : Nat
  o : Option Nat
def spU (s nid : Nat) (nl : Bool) (A : List Int) (x : SpX) : Heap := match x.o with
  | none => dictH s nid nl A x.q x.G x.R
  | some I => [(s, strmC nl A x.q), (nid + 24, some (.arr 67 x.R.length [.s fun k => rowF x.R k, .o (fun k => if k = I then nid + 4104 else nid + (100 + k)) (fun k => (rowR x.R k).length)])), (nid + 4104, arrS (rowR x.R I))]
def SpPost (tests q0 : Nat) (G : List (List UInt8)) (R : RowL) (x : SpX) : Prop := DictB tests x.G x.R ∧ x.q ≤ q0 ∧ ∀ I, x.o = some I → I < R.length ∧ x.G = G ∧ x.R = R.set I (rowF R I, rowR R I ++ [[48]])
theorem cloneD_c (nl : Bool) (l : List (List UInt8)) (nid : Nat) (hl : l.length ≤ 1000000000) (hnl : nl = true → l = []) : ACall Tryz.prog 100 [litS nl l] [] nid (.sl nid 0 l.length) [(nid, arrS l)] := by
  refine acall_run c100 (by simp [a100]) ?_
  unfold litS
  simp -dsimp only [aqT, aqU, aqN, ↓seqK, ↓blkK, ↓loopK, step, stepBin, Nat.reduceBEq, Nat.reduceBeqDiff, Nat.add_assoc nid, Nat.reduceAdd, reduceCtorEq, ↓reduceIte, Nat.reduceLeDiff, Nat.reduceBneDiff, Option.toList, ← Int.ofNat_tmod, ← Int.ofNat_tdiv, Nat.reduceLT, a100]
  refine S2.intro (fun h => ?_) (fun h => ?_) <;> simp -dsimp only [aqT, aqU, aqN, ↓seqK, ↓blkK, ↓loopK, step, stepBin, Nat.reduceBEq, Nat.reduceBeqDiff, Nat.add_assoc nid, Nat.reduceAdd, reduceCtorEq, ↓reduceIte, Nat.reduceLeDiff, Nat.reduceBneDiff, Option.toList, ← Int.ofNat_tmod, ← Int.ofNat_tdiv, Nat.reduceLT]
  · refine RetOK.go [] [(nid, 1)] (.inl rfl) ?_
    have := hnl h
    subst this
    simp [a100, retPV, over, keys, List.map_nil, List.map_cons, List.contains_cons, List.contains_nil, Bool.or_false, Bool.or_true, Bool.true_or, Bool.false_or, beq_self_eq_true, cond_true, cond_false, HeapCov, orNil, nilSz, onBlk, srcOf, getH_hit, getH_miss, getH.eq_1, getS_hit, getS_miss, getS.eq_1, BlkCov, PVCovs, PVCov, ColsEq, AColsEq, ACEq, ColEq.refl, liveIds, SlotsCov, List.all_nil, List.all_cons, List.any_nil, List.any_cons, List.nil_append, List.cons_append, inRange, apart, nilBlk, idS1, idS2, readAll, readRes, onAll, step, res, AX.val, List.drop_zero, List.drop_succ_cons, List.take_succ_cons, List.take_zero, arrS]
  · refine ⟨⟨by omega, by omega⟩, RetOK.go [(nid, nid + 20)] [] (.inl rfl) ?_⟩
    simp [a100, retPV, over, keys, List.map_nil, List.map_cons, List.contains_cons, List.contains_nil, Bool.or_false, Bool.or_true, Bool.true_or, Bool.false_or, beq_self_eq_true, cond_true, cond_false, HeapCov, orNil, nilSz, onBlk, srcOf, getH_hit, getH_miss, getH.eq_1, getS_hit, getS_miss, getS.eq_1, BlkCov, PVCovs, PVCov, ColsEq, AColsEq, ACEq, ColEq.refl, liveIds, SlotsCov, List.all_nil, List.all_cons, List.any_nil, List.any_cons, List.nil_append, List.cons_append, inRange, apart, nilBlk, idS1, idS2, readAll, readRes, onAll, step, res, AX.val, List.drop_zero, List.drop_succ_cons, List.take_succ_cons, List.take_zero, arrS]
abbrev SpEnd (s nid : Nat) (nl : Bool) (A : List Int) (tests q0 : Nat) (G : List (List UInt8)) (R : RowL) (H0 : Heap) (e : AEx) (st : ST) : Prop := ∃ x : SpX, SpPost tests q0 G R x ∧ RetOK a85.res H0 (nid + 4104) (.tup []) (spU s nid nl A x) e st
set_option maxHeartbeats 8000000 in
theorem spoil_G (s nid q q0 tests : Nat) (nl : Bool) (A : List Int) (G : List (List UInt8)) (R : RowL) (q1 : Nat) (h : s < nid) (hB : DictB tests G R) (hG0 : 0 < G.length) (ht : tests ≤ 6) (hq : q1 + 10 ≤ q0) (hq1 : q1 ≤ 1099500003000) (hA : A.length ≤ 17592186044416) (K : ST → Prop) :
    SR Tryz.prog (thenV (headV a85.body)) ⟨[(0, .ptr s 0), (1, .ptr (nid + 8) 0)], dictH s nid nl A q1 G R, nid + 4200, nid + 4104⟩ (seqK K (SpEnd s nid nl A tests q0 G R (dictH s nid nl A q G R))) .mk := by
  obtain ⟨e1, e2, e3, e4, e5, e6, e7, e8, e9⟩ := id_all h
  have hgl := hB.gl
  have hrl := hB.rl
  simp only [a85, headV, thenV]
  unfold dictH boxD arrS
  refine SR.seq ?_
  simp -dsimp only [aqT, aqU, aqN, aqS, ↓seqK, ↓blkK, ↓loopK, step, stepBin, Nat.add_assoc nid, ↓reduceIte, Option.toList, ← Int.ofNat_tmod, ← Int.ofNat_tdiv, simprocAttr, BEq.rfl, LN_succ, e1, e2, e3, e4, e5, e6, e7, e8, e9, strmC_low]
  have hnd := nextV_bd A q1 (n := (G.length : Nat)) (by omega)
  obtain ⟨I, hI⟩ : ∃ I : Nat, nextV A q1 ((G.length : Nat) : Int) = I := ⟨_, (Int.toNat_of_nonneg hnd.1).symm⟩
  have hIG : I < G.length := by omega
  refine CallX.on (next_c s _ nl A q1 _ (by omega) (by omega) hA (by omega)) (subH_get (by simp only [aqT, aqU, aqN, aqS, ↓seqK, ↓blkK, ↓loopK, step, stepBin, Nat.add_assoc nid, ↓reduceIte, Option.toList, ← Int.ofNat_tmod, ← Int.ofNat_tdiv, simprocAttr, BEq.rfl, LN_succ, e1, e2, e3, e4, e5, e6, e7, e8, e9])) ?_
  rw [hI]
  simp -dsimp only [aqT, aqU, aqN, aqS, ↓seqK, ↓blkK, ↓loopK, step, stepBin, Nat.add_assoc nid, ↓reduceIte, Option.toList, ← Int.ofNat_tmod, ← Int.ofNat_tdiv, simprocAttr, BEq.rfl, LN_succ, e1, e2, e3, e4, e5, e6, e7, e8, e9, strmC_low]
  refine CallX.pure (repeat_cc [48] 101 _ (by omega) (by simp)) ?_
  have hr48 : (Lib.repeatL [48] 101).length = 101 := by simp [Lib.repeatL]
  generalize Lib.repeatL [48] 101 = z at *
  simp -dsimp only [aqT, aqU, aqN, aqS, ↓seqK, ↓blkK, ↓loopK, step, stepBin, Nat.add_assoc nid, ↓reduceIte, Option.toList, ← Int.ofNat_tmod, ← Int.ofNat_tdiv, simprocAttr, BEq.rfl, LN_succ, e1, e2, e3, e4, e5, e6, e7, e8, e9, strmC_low]
  refine CallX.some_go (T := 9) (nl := nl) (A := A) (p := q1 + 1) (g := fun i => [[], [32], [195, 169], z].getD i []) (by simp only [aqT, aqU, aqN, aqS, ↓seqK, ↓blkK, ↓loopK, step, stepBin, Nat.add_assoc nid, ↓reduceIte, Option.toList, ← Int.ofNat_tmod, ← Int.ofNat_tdiv, simprocAttr, BEq.rfl, LN_succ, e1, e2, e3, e4, e5, e6, e7, e8, e9]) (by simp only [aqT, aqU, aqN, aqS, ↓seqK, ↓blkK, ↓loopK, step, stepBin, Nat.add_assoc nid, ↓reduceIte, Option.toList, ← Int.ofNat_tmod, ← Int.ofNat_tdiv, simprocAttr, BEq.rfl, LN_succ, e1, e2, e3, e4, e5, e6, e7, e8, e9]) (by simp only [aqT, aqU, aqN, aqS, ↓seqK, ↓blkK, ↓loopK, step, stepBin, Nat.add_assoc nid, ↓reduceIte, Option.toList, ← Int.ofNat_tmod, ← Int.ofNat_tdiv, simprocAttr, BEq.rfl, LN_succ, e1, e2, e3, e4, e5, e6, e7, e8, e9]) (by omega) (by omega) hA (by omega) (by omega) ?_
  have hb := getD_all (P := fun x : List UInt8 => x.length ≤ 101) (l := [[], [32], [195, 169], z]) (d := []) (by intro x hx; simp only [List.mem_cons, List.not_mem_nil, or_false] at hx; rcases hx with rfl | rfl | rfl | rfl; simp; simp; simp; omega) (pickI_lt A (q1 + 1) (n := 4) (by omega))
  generalize ([[], [32], [195, 169], z].getD (pickI A (q1 + 1) 4) [] : List UInt8) = v at hb ⊢
  simp -dsimp only [aqT, aqU, aqN, aqS, ↓seqK, ↓blkK, ↓loopK, step, stepBin, Nat.add_assoc nid, ↓reduceIte, Option.toList, ← Int.ofNat_tmod, ← Int.ofNat_tdiv, simprocAttr, BEq.rfl, LN_succ, e1, e2, e3, e4, e5, e6, e7, e8, e9, strmC_low]
  rw [getD_setS G v hIG]
  refine ⟨⟨by omega, by omega⟩, ?_⟩
  refine SR.run (t := .mk) ?_
  simp -dsimp only [aqT, aqU, aqN, aqS, ↓seqK, ↓blkK, ↓loopK, step, stepBin, Nat.add_assoc nid, ↓reduceIte, Option.toList, ← Int.ofNat_tmod, ← Int.ofNat_tdiv, simprocAttr, BEq.rfl, LN_succ, e1, e2, e3, e4, e5, e6, e7, e8, e9, strmC_low]
  have hsl : (G.set I v).length = G.length := List.length_set
  refine ⟨⟨G.set I v, R, q1 + 1 + 1, none⟩, ⟨⟨by rw [hsl]; exact hB.gl, (hB.gs).set I hb, hB.rl, hB.rs⟩, by simp only; omega, fun I h => by cases h⟩, ?_⟩
  have hf0 : ∀ c, R.length = c → famR nid R = famC nid R c := fun c hc => by rw [← hc]; rfl
  simp only [spU, dictH]
  have hi : R.length = 0 ∨ R.length = 1 ∨ R.length = 2 ∨ R.length = 3 ∨ R.length = 4 ∨ R.length = 5 ∨ R.length = 6 ∨ R.length = 7 := by omega
  rcases hi with hi | hi | hi | hi | hi | hi | hi | hi
  all_goals
    rw [hf0 _ hi]
    refine RetOK.go [] [] (.inl rfl) ?_
    simp [a85, retPV, over, keys, List.map_nil, List.map_cons, List.contains_cons, List.contains_nil, Bool.or_false, Bool.or_true, Bool.true_or, Bool.false_or, beq_self_eq_true, cond_true, cond_false, HeapCov, orNil, nilSz, onBlk, srcOf, getH_hit, getH_miss, getH.eq_1, getS_hit, getS_miss, getS.eq_1, BlkCov, PVCovs, PVCov, ColsEq, AColsEq, ACEq, ColEq.refl, liveIds, SlotsCov, List.all_nil, List.all_cons, List.any_nil, List.any_cons, List.nil_append, List.cons_append, inRange, apart, nilBlk, idS1, idS2, readAll, readRes, onAll, step, res, AX.val, List.drop_zero, List.drop_succ_cons, List.take_succ_cons, List.take_zero, e1, e2, e3, e4, e5, e6, e7, e8, e9, strmC, famC, inR, boxP, boxD, arrS, arrR, hsl, -List.getD_eq_getElem?_getD]
    exact ⟨⟨by omega, by omega⟩, by omega, fun j hj => by omega⟩
set_option maxHeartbeats 8000000 in
theorem spoil_R (s nid q q0 tests : Nat) (nl : Bool) (A : List Int) (G : List (List UInt8)) (R : RowL) (q1 : Nat) (h : s < nid) (hB : DictB tests G R) (hR0 : 0 < R.length) (hpos : ∀ y ∈ R, 1 ≤ y.2.length ∧ y.2.length ≤ tests) (ht : tests ≤ 6) (hq : q1 + 10 ≤ q0) (hq1 : q1 ≤ 1099500003000) (hA : A.length ≤ 17592186044416) :
    SR Tryz.prog (dropV 1 a85.body) ⟨[(0, .ptr s 0), (1, .ptr (nid + 8) 0)], dictH s nid nl A q1 G R, nid + 4200, nid + 4104⟩ (SpEnd s nid nl A tests q0 G R (dictH s nid nl A q G R)) .mk := by
  obtain ⟨e1, e2, e3, e4, e5, e6, e7, e8, e9⟩ := id_all h
  have hgl := hB.gl
  have hrl := hB.rl
  simp only [a85, dropV]
  unfold dictH boxD arrR
  refine SR.seq ?_
  simp -dsimp only [aqT, aqU, aqN, aqS, ↓seqK, ↓blkK, ↓loopK, step, stepBin, Nat.add_assoc nid, ↓reduceIte, Option.toList, ← Int.ofNat_tmod, ← Int.ofNat_tdiv, simprocAttr, BEq.rfl, LN_succ, e1, e2, e3, e4, e5, e6, e7, e8, e9, strmC_low]
  have hnd := nextV_bd A q1 (n := (R.length : Nat)) (by omega)
  obtain ⟨I, hI⟩ : ∃ I : Nat, nextV A q1 ((R.length : Nat) : Int) = I := ⟨_, (Int.toNat_of_nonneg hnd.1).symm⟩
  have hIR : I < R.length := by omega
  refine CallX.on (next_c s _ nl A q1 _ (by omega) (by omega) hA (by omega)) (subH_get (by simp only [aqT, aqU, aqN, aqS, ↓seqK, ↓blkK, ↓loopK, step, stepBin, Nat.add_assoc nid, ↓reduceIte, Option.toList, ← Int.ofNat_tmod, ← Int.ofNat_tdiv, simprocAttr, BEq.rfl, LN_succ, e1, e2, e3, e4, e5, e6, e7, e8, e9])) ?_
  rw [hI]
  simp -dsimp only [aqT, aqU, aqN, aqS, ↓seqK, ↓blkK, ↓loopK, step, stepBin, Nat.add_assoc nid, ↓reduceIte, Option.toList, ← Int.ofNat_tmod, ← Int.ofNat_tdiv, simprocAttr, BEq.rfl, LN_succ, e1, e2, e3, e4, e5, e6, e7, e8, e9, strmC_low]
  refine ⟨⟨by omega, by omega⟩, ?_⟩
  refine SR.seq ?_
  simp -dsimp only [aqT, aqU, aqN, aqS, ↓seqK, ↓blkK, ↓loopK, step, stepBin, Nat.add_assoc nid, ↓reduceIte, Option.toList, ← Int.ofNat_tmod, ← Int.ofNat_tdiv, simprocAttr, BEq.rfl, LN_succ, e1, e2, e3, e4, e5, e6, e7, e8, e9, strmC_low]
  have hkd := nextV_bd A (q1 + 1) (n := (3 : Int)) (by omega)
  refine CallO.on (next_c s _ nl A (q1 + 1) 3 (by omega) (by omega) hA (by omega)) (subH_get (by simp only [aqT, aqU, aqN, aqS, ↓seqK, ↓blkK, ↓loopK, step, stepBin, Nat.add_assoc nid, ↓reduceIte, Option.toList, ← Int.ofNat_tmod, ← Int.ofNat_tdiv, simprocAttr, BEq.rfl, LN_succ, e1, e2, e3, e4, e5, e6, e7, e8, e9])) ?_
  have hk : nextV A (q1 + 1) 3 = 0 ∨ nextV A (q1 + 1) 3 = 1 ∨ nextV A (q1 + 1) 3 = 2 := by omega
  have hf0 : ∀ c, R.length = c → famR nid R = famC nid R c := fun c hc => by rw [← hc]; rfl
  have hmem : R.getD I ([], []) ∈ R := by rw [List.getD_eq_getElem?_getD, List.getElem?_eq_getElem hIR]; exact List.getElem_mem hIR
  have hrow := hB.rs _ hmem
  have hrp := hpos _ hmem
  have hlI : rowR R I = (R.getD I ([], [])).2 := rfl
  rw [← hlI] at hrow hrp
  have hF1 := fun v => rowF_set (R := R) (I := I) (v, rowR R I) hIR
  have hi : R.length = 1 ∨ R.length = 2 ∨ R.length = 3 ∨ R.length = 4 ∨ R.length = 5 ∨ R.length = 6 ∨ R.length = 7 := by omega
  have hsl : ∀ x, (R.set I x).length = R.length := fun x => List.length_set
  have hnewB : ∀ x : List UInt8 × List (List UInt8), x.1 ∈ namesL → x.2.length ≤ tests + 1 → ShortRows 101 x.2 → DictB tests G (R.set I x) := fun x h1 h2 h3 => ⟨hB.gl, hB.gs, by rw [hsl]; exact hB.rl, fun y hy => by
    rcases List.mem_or_eq_of_mem_set hy with hy | rfl
    · exact hB.rs y hy
    · exact ⟨h1, h2, h3⟩⟩
  have k1 : ∀ c, c < 100 → (nid + c == nid + (100 + I)) = false := fun c hc => by simp; omega
  have k2 : ∀ c, c < 100 → (nid + (100 + I) == nid + c) = false := fun c hc => by simp; omega
  have k3 : ∀ c, 107 ≤ c → (nid + c == nid + (100 + I)) = false := fun c hc => by simp; omega
  have k4 : ∀ c, 107 ≤ c → (nid + (100 + I) == nid + c) = false := fun c hc => by simp; omega
  have k5 : (nid == nid + (100 + I)) = false := by simp
  have k6 : (nid + (100 + I) == nid) = false := by simp
  have k7 := fam_at nid R hrl hIR
  rcases hk with hk | hk | hk <;> rw [hk] <;> simp -dsimp only [aqT, aqU, aqN, aqS, ↓seqK, ↓blkK, ↓loopK, step, stepBin, Nat.add_assoc nid, ↓reduceIte, Option.toList, ← Int.ofNat_tmod, ← Int.ofNat_tdiv, simprocAttr, BEq.rfl, LN_succ, e1, e2, e3, e4, e5, e6, e7, e8, e9, strmC_low]
  · refine SR.run (t := .mk) ?_
    simp -dsimp only [aqT, aqU, aqN, aqS, ↓seqK, ↓blkK, ↓loopK, step, stepBin, Nat.add_assoc nid, ↓reduceIte, Option.toList, ← Int.ofNat_tmod, ← Int.ofNat_tdiv, simprocAttr, BEq.rfl, LN_succ, e1, e2, e3, e4, e5, e6, e7, e8, e9, strmC_low, Int.reduceBEq]
    refine CallO.some_go (T := 9) (nl := nl) (A := A) (p := q1 + 1 + 1) (g := fun i => [[], [102, 48], [70]].getD i []) (by simp only [aqT, aqU, aqN, aqS, ↓seqK, ↓blkK, ↓loopK, step, stepBin, Nat.add_assoc nid, ↓reduceIte, Option.toList, ← Int.ofNat_tmod, ← Int.ofNat_tdiv, simprocAttr, BEq.rfl, LN_succ, e1, e2, e3, e4, e5, e6, e7, e8, e9]) (by simp only [aqT, aqU, aqN, aqS, ↓seqK, ↓blkK, ↓loopK, step, stepBin, Nat.add_assoc nid, ↓reduceIte, Option.toList, ← Int.ofNat_tmod, ← Int.ofNat_tdiv, simprocAttr, BEq.rfl, LN_succ, e1, e2, e3, e4, e5, e6, e7, e8, e9]) (by simp only [aqT, aqU, aqN, aqS, ↓seqK, ↓blkK, ↓loopK, step, stepBin, Nat.add_assoc nid, ↓reduceIte, Option.toList, ← Int.ofNat_tmod, ← Int.ofNat_tdiv, simprocAttr, BEq.rfl, LN_succ, e1, e2, e3, e4, e5, e6, e7, e8, e9]) (by omega) (by omega) hA (by omega) (by omega) ?_
    have hb := getD_all (P := fun x : List UInt8 => x ∈ namesL) (l := [[], [102, 48], [70]]) (d := []) (by decide) (pickI_lt A (q1 + 1 + 1) (n := 3) (by omega))
    generalize ([[], [102, 48], [70]].getD (pickI A (q1 + 1 + 1) 3) [] : List UInt8) = v at hb ⊢
    simp -dsimp only [aqT, aqU, aqN, aqS, ↓seqK, ↓blkK, ↓loopK, step, stepBin, Nat.add_assoc nid, ↓reduceIte, Option.toList, ← Int.ofNat_tmod, ← Int.ofNat_tdiv, simprocAttr, BEq.rfl, LN_succ, e1, e2, e3, e4, e5, e6, e7, e8, e9, strmC_low]
    have e1' : (fun j => if j = I then v else rowF R j) = rowF (R.set I (v, rowR R I)) := by
      funext j
      rw [rowF_set _ hIR]
    have e2' : ∀ j, rowR (R.set I (v, rowR R I)) j = rowR R j := fun j => by
      rw [rowR_set _ hIR]
      split
      · rename_i e; rw [e]
      · rfl
    rw [e1']
    refine ⟨⟨G, R.set I (v, rowR R I), q1 + 1 + 1 + 1, none⟩, ⟨hnewB _ hb (show (rowR R I).length ≤ tests + 1 by omega) hrow.2.2, by simp only; omega, fun I h => by cases h⟩, ?_⟩
    have hll := hsl (v, rowR R I)
    generalize R.set I (v, rowR R I) = R2 at *
    have hf2 : ∀ c, R2.length = c → famR nid R2 = famC nid R2 c := fun c hc => by rw [← hc]; rfl
    simp only [spU, dictH]
    rcases hi with hi | hi | hi | hi | hi | hi | hi
    all_goals
      rw [hf0 _ hi, hf2 _ (hll.trans hi)]
      refine RetOK.go [] [] (.inr rfl) ?_
      simp [a85, retPV, over, keys, List.map_nil, List.map_cons, List.contains_cons, List.contains_nil, Bool.or_false, Bool.or_true, Bool.true_or, Bool.false_or, beq_self_eq_true, cond_true, cond_false, HeapCov, orNil, nilSz, onBlk, srcOf, getH_hit, getH_miss, getH.eq_1, getS_hit, getS_miss, getS.eq_1, BlkCov, PVCovs, PVCov, ColsEq, AColsEq, ACEq, ColEq.refl, liveIds, SlotsCov, List.all_nil, List.all_cons, List.any_nil, List.any_cons, List.nil_append, List.cons_append, inRange, apart, nilBlk, idS1, idS2, readAll, readRes, onAll, step, res, AX.val, List.drop_zero, List.drop_succ_cons, List.take_succ_cons, List.take_zero, e1, e2, e3, e4, e5, e6, e7, e8, e9, strmC, famC, inR, boxP, boxD, arrS, arrR, hll, e2', -List.getD_eq_getElem?_getD]
      exact ⟨⟨by omega, by omega⟩, by omega, fun j hj => by omega⟩
  · refine SR.run (t := .mk) ?_
    unfold arrS at k7
    simp -dsimp only [aqT, aqU, aqN, aqS, ↓seqK, ↓blkK, ↓loopK, step, stepBin, Nat.add_assoc nid, ↓reduceIte, Option.toList, ← Int.ofNat_tmod, ← Int.ofNat_tdiv, simprocAttr, BEq.rfl, LN_succ, e1, e2, e3, e4, e5, e6, e7, e8, e9, strmC_low, Int.reduceBEq]
    refine CallO.lent [nid + (100 + I)] (fun nl' => by
      simp only [lends, lend, aqT, aqU, aqN, aqS, ↓seqK, ↓blkK, ↓loopK, step, stepBin, Nat.add_assoc nid, ↓reduceIte, Option.toList, ← Int.ofNat_tmod, ← Int.ofNat_tdiv, simprocAttr, BEq.rfl, LN_succ, e1, e2, e3, e4, e5, e6, e7, e8, e9, k1, k2, k3, k4, k5, k6, k7, arrS, Nat.reduceLT, Nat.reduceLeDiff]
      exact ACall.nonnil 0 rfl (fun hn => cloneD_c _ (rowR R I) _ (by omega) (fun e => List.eq_nil_of_length_eq_zero (hn e)))) rfl rfl (by simp only [List.mem_singleton, forall_eq, aqT, aqU, aqN, aqS, ↓seqK, ↓blkK, ↓loopK, step, stepBin, Nat.add_assoc nid, ↓reduceIte, Option.toList, ← Int.ofNat_tmod, ← Int.ofNat_tdiv, simprocAttr, BEq.rfl, LN_succ, k1, k2, k3, k4, k5, k6, Nat.reduceLT, Nat.reduceLeDiff]) ?_
    unfold arrS
    simp -dsimp only [aqT, aqU, aqN, aqS, ↓seqK, ↓blkK, ↓loopK, step, stepBin, Nat.add_assoc nid, ↓reduceIte, Option.toList, ← Int.ofNat_tmod, ← Int.ofNat_tdiv, simprocAttr, BEq.rfl, LN_succ, e1, e2, e3, e4, e5, e6, e7, e8, e9, strmC_low, k1, k2, k3, k4, k5, k6, k7, Nat.reduceLT, Nat.reduceLeDiff]
    rw [getD_app1 (rowR R I) [48] rfl]
    have hlen : (rowR R I ++ [[48]]).length = (rowR R I).length + 1 := by simp
    have fF : ∀ j, rowF (R.set I (rowF R I, rowR R I ++ [[48]])) j = rowF R j := fun j => by
      rw [rowF_set _ hIR]
      split
      · rename_i e; rw [e]
      · rfl
    have fI : rowR (R.set I (rowF R I, rowR R I ++ [[48]])) I = rowR R I ++ [[48]] := by rw [rowR_set _ hIR, if_pos rfl]
    have fL : ∀ j, (rowR (R.set I (rowF R I, rowR R I ++ [[48]])) j).length = if j = I then (rowR R I).length + 1 else (rowR R j).length := fun j => by
      rw [rowR_set _ hIR]
      split
      · exact hlen
      · rfl
    have hll := hsl (rowF R I, rowR R I ++ [[48]])
    refine ⟨by omega, ⟨G, R.set I (rowF R I, rowR R I ++ [[48]]), q1 + 1 + 1, some I⟩, ⟨hnewB _ hrow.1 (show (rowR R I ++ [[48]]).length ≤ tests + 1 by omega) (hrow.2.2.snoc (by simp)), by simp only; omega, fun I' h => by cases h; exact ⟨hIR, rfl, rfl⟩⟩, ?_⟩
    simp only [spU, fI, hll, fF, fL]
    generalize R.set I (rowF R I, rowR R I ++ [[48]]) = R2 at *
    generalize rowR R I ++ [[48]] = L2 at *
    rcases hi with hi | hi | hi | hi | hi | hi | hi
    all_goals
      rw [hf0 _ hi]
      refine RetOK.go [(nid + 4104, nid + 4304)] [] (.inr rfl) ?_
      simp [a85, retPV, over, keys, List.map_nil, List.map_cons, List.contains_cons, List.contains_nil, Bool.or_false, Bool.or_true, Bool.true_or, Bool.false_or, beq_self_eq_true, cond_true, cond_false, HeapCov, orNil, nilSz, onBlk, srcOf, getH_hit, getH_miss, getH.eq_1, getS_hit, getS_miss, getS.eq_1, BlkCov, PVCovs, PVCov, ColsEq, AColsEq, ACEq, ColEq.refl, liveIds, SlotsCov, List.all_nil, List.all_cons, List.any_nil, List.any_cons, List.nil_append, List.cons_append, inRange, apart, nilBlk, idS1, idS2, readAll, readRes, onAll, step, res, AX.val, List.drop_zero, List.drop_succ_cons, List.take_succ_cons, List.take_zero, e1, e2, e3, e4, e5, e6, e7, e8, e9, strmC, famC, inR, boxP, boxD, arrS, arrR, hlen, -List.getD_eq_getElem?_getD]
      exact ⟨⟨by omega, by omega⟩, fun j hj => by
        by_cases e : j = I
        · subst e
          rw [if_pos (fun h => absurd rfl h)]
          simp only [if_true]
          exact ⟨trivial, by omega⟩
        · rw [if_neg (fun h => by have := h e; omega)]
          simp only [if_neg e]
          exact ⟨trivial, by omega⟩, by omega⟩
  · refine SR.run (t := .mk) ?_
    simp -dsimp only [aqT, aqU, aqN, aqS, ↓seqK, ↓blkK, ↓loopK, step, stepBin, Nat.add_assoc nid, ↓reduceIte, Option.toList, ← Int.ofNat_tmod, ← Int.ofNat_tdiv, simprocAttr, BEq.rfl, LN_succ, e1, e2, e3, e4, e5, e6, e7, e8, e9, strmC_low, Int.reduceBEq]
    have hjd := nextV_bd A (q1 + 1 + 1) (n := ((rowR R I).length : Nat)) (by omega)
    obtain ⟨J, hJ⟩ : ∃ J : Nat, nextV A (q1 + 1 + 1) (((rowR R I).length : Nat) : Int) = J := ⟨_, (Int.toNat_of_nonneg hjd.1).symm⟩
    have hJR : J < (rowR R I).length := by omega
    refine CallX.on (next_c s _ nl A (q1 + 1 + 1) _ (by omega) (by omega) hA (by omega)) (subH_get (by simp only [aqT, aqU, aqN, aqS, ↓seqK, ↓blkK, ↓loopK, step, stepBin, Nat.add_assoc nid, ↓reduceIte, Option.toList, ← Int.ofNat_tmod, ← Int.ofNat_tdiv, simprocAttr, BEq.rfl, LN_succ, e1, e2, e3, e4, e5, e6, e7, e8, e9])) ?_
    rw [hJ]
    simp -dsimp only [aqT, aqU, aqN, aqS, ↓seqK, ↓blkK, ↓loopK, step, stepBin, Nat.add_assoc nid, ↓reduceIte, Option.toList, ← Int.ofNat_tmod, ← Int.ofNat_tdiv, simprocAttr, BEq.rfl, LN_succ, e1, e2, e3, e4, e5, e6, e7, e8, e9, strmC_low]
    refine CallX.some_go (T := 9) (nl := nl) (A := A) (p := q1 + 1 + 1 + 1) (g := fun i => [[], [97, 32, 98], [49]].getD i []) (by simp only [aqT, aqU, aqN, aqS, ↓seqK, ↓blkK, ↓loopK, step, stepBin, Nat.add_assoc nid, ↓reduceIte, Option.toList, ← Int.ofNat_tmod, ← Int.ofNat_tdiv, simprocAttr, BEq.rfl, LN_succ, e1, e2, e3, e4, e5, e6, e7, e8, e9]) (by simp only [aqT, aqU, aqN, aqS, ↓seqK, ↓blkK, ↓loopK, step, stepBin, Nat.add_assoc nid, ↓reduceIte, Option.toList, ← Int.ofNat_tmod, ← Int.ofNat_tdiv, simprocAttr, BEq.rfl, LN_succ, e1, e2, e3, e4, e5, e6, e7, e8, e9]) (by simp only [aqT, aqU, aqN, aqS, ↓seqK, ↓blkK, ↓loopK, step, stepBin, Nat.add_assoc nid, ↓reduceIte, Option.toList, ← Int.ofNat_tmod, ← Int.ofNat_tdiv, simprocAttr, BEq.rfl, LN_succ, e1, e2, e3, e4, e5, e6, e7, e8, e9]) (by omega) (by omega) hA (by omega) (by omega) ?_
    have hb := getD_all (P := fun x : List UInt8 => x.length ≤ 101) (l := [[], [97, 32, 98], [49]]) (d := []) (by intro x hx; simp only [List.mem_cons, List.not_mem_nil, or_false] at hx; rcases hx with rfl | rfl | rfl <;> simp) (pickI_lt A (q1 + 1 + 1 + 1) (n := 3) (by omega))
    generalize ([[], [97, 32, 98], [49]].getD (pickI A (q1 + 1 + 1 + 1) 3) [] : List UInt8) = v at hb ⊢
    unfold arrS at k7
    simp -dsimp only [aqT, aqU, aqN, aqS, ↓seqK, ↓blkK, ↓loopK, step, stepBin, Nat.add_assoc nid, ↓reduceIte, Option.toList, ← Int.ofNat_tmod, ← Int.ofNat_tdiv, simprocAttr, BEq.rfl, LN_succ, e1, e2, e3, e4, e5, e6, e7, e8, e9, strmC_low, k1, k2, k3, k4, k5, k6, k7, arrS, Nat.reduceLT, Nat.reduceLeDiff]
    rw [getD_setS (rowR R I) v hJR]
    have hlen : ((rowR R I).set J v).length = (rowR R I).length := List.length_set
    have fF : ∀ j, rowF (R.set I (rowF R I, (rowR R I).set J v)) j = rowF R j := fun j => by
      rw [rowF_set _ hIR]
      split
      · rename_i e; rw [e]
      · rfl
    have fI : rowR (R.set I (rowF R I, (rowR R I).set J v)) I = (rowR R I).set J v := by rw [rowR_set _ hIR, if_pos rfl]
    have fO : ∀ j, j ≠ I → rowR (R.set I (rowF R I, (rowR R I).set J v)) j = rowR R j := fun j hj => by rw [rowR_set _ hIR, if_neg hj]
    have fL : ∀ j, (rowR (R.set I (rowF R I, (rowR R I).set J v)) j).length = (rowR R j).length := fun j => by
      rw [rowR_set _ hIR]
      split
      · rename_i e; rw [e]; exact hlen
      · rfl
    have hll := hsl (rowF R I, (rowR R I).set J v)
    refine ⟨⟨by omega, by omega⟩, ⟨G, R.set I (rowF R I, (rowR R I).set J v), q1 + 1 + 1 + 1 + 1, none⟩, ⟨hnewB _ hrow.1 (show ((rowR R I).set J v).length ≤ tests + 1 by omega) (hrow.2.2.set J hb), by simp only; omega, fun I' h => by cases h⟩, ?_⟩
    generalize R.set I (rowF R I, (rowR R I).set J v) = R2 at *
    generalize (rowR R I).set J v = L2 at *
    have hf2 : ∀ c, R2.length = c → famR nid R2 = famC nid R2 c := fun c hc => by rw [← hc]; rfl
    simp only [spU, dictH]
    clear k1 k2 k3 k4 k5 k6 k7 hmem hlI
    have hI6 : I = 0 ∨ I = 1 ∨ I = 2 ∨ I = 3 ∨ I = 4 ∨ I = 5 ∨ I = 6 := by omega
    rcases hi with hi | hi | hi | hi | hi | hi | hi <;> rcases hI6 with rfl | rfl | rfl | rfl | rfl | rfl | rfl
    all_goals try (exfalso; omega)
    all_goals
      rw [hf0 _ hi, hf2 _ (hll.trans hi)]
      refine RetOK.go [] [] (.inr rfl) ?_
      simp [a85, retPV, over, keys, List.map_nil, List.map_cons, List.contains_cons, List.contains_nil, Bool.or_false, Bool.or_true, Bool.true_or, Bool.false_or, beq_self_eq_true, cond_true, cond_false, HeapCov, orNil, nilSz, onBlk, srcOf, getH_hit, getH_miss, getH.eq_1, getS_hit, getS_miss, getS.eq_1, BlkCov, PVCovs, PVCov, ColsEq, AColsEq, ACEq, ColEq.refl, liveIds, SlotsCov, List.all_nil, List.all_cons, List.any_nil, List.any_cons, List.nil_append, List.cons_append, inRange, apart, nilBlk, idS1, idS2, readAll, readRes, onAll, step, res, AX.val, List.drop_zero, List.drop_succ_cons, List.take_succ_cons, List.take_zero, e1, e2, e3, e4, e5, e6, e7, e8, e9, strmC, famC, inR, boxP, boxD, arrS, arrR, hll, hlen, fF, fI, fO, fL, -List.getD_eq_getElem?_getD]
      exact ⟨⟨by omega, by omega⟩, by omega, fun j hj => by omega⟩
end Go.Proofs.YtpifoghhaohhaaaGreatDoor
namespace Go.Proofs.YtpifoghhaohhaaaGreatDoor
open Go.RowKit Go.Shelf Go.Lib
theorem spoil_seq : a85.body = .seq (headV a85.body) (dropV 1 a85.body) := by kernel_rfl
set_option maxHeartbeats 8000000 in
theorem spoil_I (s nid q q0 tests : Nat) (nl : Bool) (A : List Int) (G : List (List UInt8)) (R : RowL) (h : s < nid) (hB : DictB tests G R) (hG0 : 0 < G.length) (hpos : ∀ y ∈ R, 1 ≤ y.2.length ∧ y.2.length ≤ tests) (ht : tests ≤ 6) (hq : q + 12 ≤ q0) (hq1 : q ≤ 1099500002000) (hA : A.length ≤ 17592186044416) :
    ACallI Tryz.prog 85 [.ptr s 0, .ptr (nid + 8) 0] (dictH s nid nl A q G R) (nid + 4104) (SpPost tests q0 G R) (fun _ => .tup []) (fun x => spU s nid nl A x) := by
  obtain ⟨e1, e2, e3, e4, e5, e6, e7, e8, e9⟩ := id_all h
  have hrl := hB.rl
  have hf0 : ∀ c, R.length = c → famR nid R = famC nid R c := fun c hc => by rw [← hc]; rfl
  refine acallI_sr c85 (by simp [a85]) ?_
  rw [spoil_seq]
  refine SR.seqW (ι := {q1 : Nat // q1 ≤ q + 1 ∧ 0 < R.length}) (fun q1 => ⟨[(0, .ptr s 0), (1, .ptr (nid + 8) 0)], dictH s nid nl A q1.1 G R, nid + 4200, nid + 4104⟩) ?_ (fun ⟨q1, hq2, hR0⟩ => spoil_R s nid q q0 tests nl A G R q1 h hB hR0 hpos ht (by omega) (by omega) hA)
  have hi : R.length = 0 ∨ R.length = 1 ∨ R.length = 2 ∨ R.length = 3 ∨ R.length = 4 ∨ R.length = 5 ∨ R.length = 6 ∨ R.length = 7 := by omega
  refine SR.seqW (ι := {x : Bool × Nat // x.2 ≤ q + 1 ∧ (x.1 = false → 0 < R.length)}) (fun x => ⟨[(14, .bool x.1.1), (0, .ptr s 0), (1, .ptr (nid + 8) 0)], dictH s nid nl A x.1.2 G R, nid + 4200, nid + 4104⟩) ?_ (fun ⟨⟨f, q1⟩, hq2, hR0⟩ => ?_)
  · simp only [a85, headV]
    refine SR.run (t := .mk) ?_
    simp only [argSlots]
    unfold dictH boxD arrR
    simp -dsimp only [aqT, aqU, aqN, aqS, ↓seqK, ↓blkK, ↓loopK, step, stepBin, Nat.add_assoc nid, ↓reduceIte, Option.toList, ← Int.ofNat_tmod, ← Int.ofNat_tdiv, simprocAttr, BEq.rfl, LN_succ, e1, e2, e3, e4, e5, e6, e7, e8, e9, strmC_low]
    refine S2.intro (fun h9 => ?_) (fun h9 => ?_) <;> simp -dsimp only [aqT, aqU, aqN, aqS, ↓seqK, ↓blkK, ↓loopK, step, stepBin, Nat.add_assoc nid, ↓reduceIte, Option.toList, ← Int.ofNat_tmod, ← Int.ofNat_tdiv, simprocAttr, BEq.rfl, LN_succ, e1, e2, e3, e4, e5, e6, e7, e8, e9, strmC_low]
    · refine ⟨⟨(true, q), by simp only; omega, fun hh => by cases hh⟩, Cov.drop (by omega) ?_⟩
      simp only [SlotsIn, aqT, aqU, aqN, ↓seqK, ↓blkK, ↓loopK, step, stepBin, Nat.reduceBEq, Nat.reduceBeqDiff, Nat.add_assoc nid, Nat.reduceAdd, reduceCtorEq, ↓reduceIte, Nat.reduceLeDiff, Nat.reduceBneDiff, Option.toList, ← Int.ofNat_tmod, ← Int.ofNat_tdiv, Nat.reduceLT]
      try simp
    · have hR0 : 0 < R.length := by
        have : ¬ R.length = 0 := by simpa using h9
        omega
      refine CallO.on (flip_c s _ nl A q 4 (by omega) (by omega) hA (by omega)) (subH_get (by simp only [aqT, aqU, aqN, ↓seqK, ↓blkK, ↓loopK, step, stepBin, Nat.reduceBEq, Nat.reduceBeqDiff, Nat.add_assoc nid, Nat.reduceAdd, reduceCtorEq, ↓reduceIte, Nat.reduceLeDiff, Nat.reduceBneDiff, Option.toList, ← Int.ofNat_tmod, ← Int.ofNat_tdiv, Nat.reduceLT, e1, e2, e3, e4, e5, e6, e7, e8, e9, Int.cast_ofNat_Int, Int.reduceBEq, Int.reduceBNe, Int.reduceLT, Int.reduceLE, Int.reduceAdd, Int.reduceSub, Int.reduceMul, Int.reduceToNat, Int.reduceNeg, Int.reduceTMod, Int.reduceEq, not_false_eq_true, Int.reducePow, Int.reduceFDiv, Nat.reducePow, Nat.reduceSub, Nat.reduceMul, Nat.min_eq_left, Nat.reduceEqDiff, BEq.rfl, Int.tdiv_one, LN_succ])) ?_
      simp -dsimp only [aqT, aqU, aqN, aqS, ↓seqK, ↓blkK, ↓loopK, step, stepBin, Nat.add_assoc nid, ↓reduceIte, Option.toList, ← Int.ofNat_tmod, ← Int.ofNat_tdiv, simprocAttr, BEq.rfl, LN_succ, e1, e2, e3, e4, e5, e6, e7, e8, e9, strmC_low]
      refine ⟨⟨(flipV A q 4, q + 1), by simp only; omega, fun _ => hR0⟩, Cov.go [] [] ?_⟩
      simp only [dictH]
      rcases hi with hi | hi | hi | hi | hi | hi | hi | hi
      all_goals
        rw [hf0 _ hi]
        simp [retPV, over, keys, List.map_nil, List.map_cons, List.contains_cons, List.contains_nil, Bool.or_false, Bool.or_true, Bool.true_or, Bool.false_or, beq_self_eq_true, cond_true, cond_false, HeapCov, orNil, nilSz, onBlk, srcOf, getH_hit, getH_miss, getH.eq_1, getS_hit, getS_miss, getS.eq_1, BlkCov, PVCovs, PVCov, ColsEq, AColsEq, ACEq, ColEq.refl, liveIds, SlotsCov, List.all_nil, List.all_cons, List.any_nil, List.any_cons, List.nil_append, List.cons_append, inRange, apart, nilBlk, idS1, idS2, readAll, readRes, onAll, step, res, AX.val, List.drop_zero, List.drop_succ_cons, List.take_succ_cons, List.take_zero, e1, e2, e3, e4, e5, e6, e7, e8, e9, strmC, famC, inR, boxP, boxD, arrS, arrR, -List.getD_eq_getElem?_getD]
        exact fun j hj => by omega
  · refine SR.cond (b := f) (by simp [AX.val, getS]) (fun hf => ?_) (fun hf => ?_)
    · refine SR.cov (t' := .mk) (st' := ⟨[(0, .ptr s 0), (1, .ptr (nid + 8) 0)], dictH s nid nl A q1 G R, nid + 4200, nid + 4104⟩) (Cov.drop (by omega) (by simp [SlotsIn, getS])) ?_
      exact spoil_G s nid q q0 tests nl A G R q1 h hB hG0 ht (by omega) (by omega) hA _
    · refine SR.run (t := .mk) ?_
      simp -dsimp only [aqT, aqU, aqN, aqS, ↓seqK, ↓blkK, ↓loopK, step, stepBin, Nat.add_assoc nid, ↓reduceIte, Option.toList, ← Int.ofNat_tmod, ← Int.ofNat_tdiv, simprocAttr, BEq.rfl, LN_succ, e1, e2, e3, e4, e5, e6, e7, e8, e9, strmC_low]
      refine ⟨⟨q1, hq2, hR0 hf⟩, Cov.drop (by omega) ?_⟩
      simp only [SlotsIn, aqT, aqU, aqN, ↓seqK, ↓blkK, ↓loopK, step, stepBin, Nat.reduceBEq, Nat.reduceBeqDiff, Nat.add_assoc nid, Nat.reduceAdd, reduceCtorEq, ↓reduceIte, Nat.reduceLeDiff, Nat.reduceBneDiff, Option.toList, ← Int.ofNat_tmod, ← Int.ofNat_tdiv, Nat.reduceLT]
      try simp
end Go.Proofs.YtpifoghhaohhaaaGreatDoor
