/- Faults and given answers as rows; which fault counts. -/
import Derived.Test.YtpfhmcdcmepfdaaGreatDoorProg
import Derived.Shelf.GgClosure.StringsRunes
import Derived.Shelf.Strings.Split
import Derived.Shelf.Strings.OnBuilder
import Derived.Shelf.Slices.CompactS
import Derived.Shelf.Strings.Prefix
import Derived.Shelf.Strings.Cut
import Derived.Shelf.Strings.Search3
import Derived.Shelf.Sort.Plain
import Derived.Ground.GgwProg
import Derived.Ground.NamesProg
import Derived.Test.YtpfhmcdcmepfdaaGreatDoorKSpv
import Derived.WalkKit
import Derived.WalkSpells
import Derived.WalkLawsBesides
import Derived.Deep.QuietTactic
import Derived.BigQuiet
import Derived.Test.YtpfhmcdcmepfdaaGreatDoorKCa
import Derived.RangeFuncNested
import Derived.RangeFuncBound
import Derived.RangeFuncCalls
import Derived.RangeFuncLeaves
import Derived.Shelf.Abstract
import Derived.Shelf.RegionOpen
import Derived.OwnWalkIn
import Derived.TacticsInMore
import Derived.LoopNIn
import Derived.LoopIn
import Derived.Test.YtpfhmcdcmepfdaaGreatDoorKVa
import Derived.Lib.CountLaws
import Derived.Test.YtpfhmcdcmepfdaaGreatDoorKVp
import Derived.Test.YtpfhmcdcmepfdaaGreatDoorKBa
namespace Go.Proofs
open Go.Shelf
def Tryz.containsFunc_ren : Go.Shelf.Ren := ⟨fun | 17 => 205 | 15 => 230 | 20 => 244 | n => n, fun | 9 => 9 | 23 => 281 | 4 => 4 | 3 => 3 | 0 => 0 | 21 => 21 | n => n, fun | n => n⟩
theorem Tryz.containsFunc : Go.Proofs.LaysGw.n17 Tryz.prog Tryz.containsFunc_ren := {
  mixed := by kernel_rfl
  f15 := Tryz.func230.trans (congrArg some (by kernel_rfl))
  f17 := Tryz.func205.trans (congrArg some (by kernel_rfl))
  f20 := Tryz.func244.trans (congrArg some (by kernel_rfl))
  t0 := Tryz.underlying0
  a0 := Tryz.isAgg0
  z0 := Tryz.sizeOf0
  v0 := Tryz.zeroValue0
  i0 := by kernel_rfl
  t3 := Tryz.underlying3
  a3 := Tryz.isAgg3
  z3 := Tryz.sizeOf3
  v3 := Tryz.zeroValue3
  i3 := by kernel_rfl
  t4 := Tryz.underlying4
  a4 := Tryz.isAgg4
  z4 := Tryz.sizeOf4
  v4 := Tryz.zeroValue4
  i4 := by kernel_rfl
  t9 := Tryz.underlying9
  a9 := Tryz.isAgg9
  z9 := Tryz.sizeOf9
  v9 := Tryz.zeroValue9
  i9 := by kernel_rfl
  t21 := Tryz.underlying21
  a21 := Tryz.isAgg21
  z21 := Tryz.sizeOf21
  v21 := Tryz.zeroValue21
  i21 := by kernel_rfl
  t23 := Tryz.underlying281
  a23 := Tryz.isAgg281
  z23 := Tryz.sizeOf281
  v23 := Tryz.zeroValue281
  i23 := by kernel_rfl }
def Tryz.contains_ren : Go.Shelf.Ren := ⟨fun | 144 => 153 | 143 => 185 | 219 => 218 | 217 => 233 | 225 => 234 | 224 => 235 | 267 => 236 | 266 => 246 | 314 => 247 | n => n, fun | 9 => 9 | 4 => 4 | 3 => 3 | 5 => 5 | 46 => 260 | 146 => 311 | 51 => 195 | n => n, fun | 1 => 2 | n => n⟩
theorem Tryz.contains : Go.Proofs.Lays.n144 Tryz.prog Tryz.contains_ren := {
  mixed := by kernel_rfl
  f143 := Tryz.func185.trans (congrArg some (by kernel_rfl))
  f144 := Tryz.func153.trans (congrArg some (by kernel_rfl))
  f217 := Tryz.func233.trans (congrArg some (by kernel_rfl))
  f219 := Tryz.func218.trans (congrArg some (by kernel_rfl))
  f224 := Tryz.func235.trans (congrArg some (by kernel_rfl))
  f225 := Tryz.func234.trans (congrArg some (by kernel_rfl))
  f266 := Tryz.func246.trans (congrArg some (by kernel_rfl))
  f267 := Tryz.func236.trans (congrArg some (by kernel_rfl))
  f314 := Tryz.func247.trans (congrArg some (by kernel_rfl))
  t3 := Tryz.underlying3
  a3 := Tryz.isAgg3
  z3 := Tryz.sizeOf3
  v3 := Tryz.zeroValue3
  t4 := Tryz.underlying4
  a4 := Tryz.isAgg4
  z4 := Tryz.sizeOf4
  v4 := Tryz.zeroValue4
  t5 := Tryz.underlying5
  a5 := Tryz.isAgg5
  z5 := Tryz.sizeOf5
  v5 := Tryz.zeroValue5
  t9 := Tryz.underlying9
  a9 := Tryz.isAgg9
  z9 := Tryz.sizeOf9
  v9 := Tryz.zeroValue9
  t46 := Tryz.underlying260
  a46 := Tryz.isAgg260
  z46 := Tryz.sizeOf260
  v46 := Tryz.zeroValue260
  t51 := Tryz.underlying195
  a51 := Tryz.isAgg195
  z51 := Tryz.sizeOf195
  v51 := Tryz.zeroValue195
  t146 := Tryz.underlying311
  a146 := Tryz.isAgg311
  z146 := Tryz.sizeOf311
  v146 := Tryz.zeroValue311
  g1 := by kernel_rfl }
def Tryz.index_ren : Go.Shelf.Ren := ⟨fun | 143 => 185 | 219 => 218 | 217 => 233 | 225 => 234 | 224 => 235 | 267 => 236 | 266 => 246 | 314 => 247 | n => n, fun | 9 => 9 | 3 => 3 | 4 => 4 | 5 => 5 | 46 => 260 | 146 => 311 | 51 => 195 | n => n, fun | 1 => 2 | n => n⟩
theorem Tryz.index : Go.Proofs.Lays.n143 Tryz.prog Tryz.index_ren := {
  mixed := by kernel_rfl
  f143 := Tryz.func185.trans (congrArg some (by kernel_rfl))
  f217 := Tryz.func233.trans (congrArg some (by kernel_rfl))
  f219 := Tryz.func218.trans (congrArg some (by kernel_rfl))
  f224 := Tryz.func235.trans (congrArg some (by kernel_rfl))
  f225 := Tryz.func234.trans (congrArg some (by kernel_rfl))
  f266 := Tryz.func246.trans (congrArg some (by kernel_rfl))
  f267 := Tryz.func236.trans (congrArg some (by kernel_rfl))
  f314 := Tryz.func247.trans (congrArg some (by kernel_rfl))
  t3 := Tryz.underlying3
  a3 := Tryz.isAgg3
  z3 := Tryz.sizeOf3
  v3 := Tryz.zeroValue3
  t4 := Tryz.underlying4
  a4 := Tryz.isAgg4
  z4 := Tryz.sizeOf4
  v4 := Tryz.zeroValue4
  t5 := Tryz.underlying5
  a5 := Tryz.isAgg5
  z5 := Tryz.sizeOf5
  v5 := Tryz.zeroValue5
  t9 := Tryz.underlying9
  a9 := Tryz.isAgg9
  z9 := Tryz.sizeOf9
  v9 := Tryz.zeroValue9
  t46 := Tryz.underlying260
  a46 := Tryz.isAgg260
  z46 := Tryz.sizeOf260
  v46 := Tryz.zeroValue260
  t51 := Tryz.underlying195
  a51 := Tryz.isAgg195
  z51 := Tryz.sizeOf195
  v51 := Tryz.zeroValue195
  t146 := Tryz.underlying311
  a146 := Tryz.isAgg311
  z146 := Tryz.sizeOf311
  v146 := Tryz.zeroValue311
  g1 := by kernel_rfl }
def Tryz.genSplit_ren : Go.Shelf.Ren := ⟨fun | 221 => 195 | 268 => 220 | 138 => 221 | 143 => 185 | 195 => 237 | 197 => 228 | 218 => 238 | 219 => 218 | 260 => 243 | 217 => 233 | 225 => 234 | 224 => 235 | 267 => 236 | 266 => 246 | 314 => 247 | n => n, fun | 9 => 9 | 3 => 3 | 31 => 34 | 4 => 4 | 0 => 0 | 105 => 297 | 21 => 21 | 5 => 5 | 46 => 260 | 119 => 322 | 139 => 325 | 138 => 324 | 146 => 311 | 51 => 195 | n => n, fun | 1 => 2 | 3 => 3 | 4 => 4 | n => n⟩
theorem Tryz.genSplit : Go.Proofs.Lays.n221 Tryz.prog Tryz.genSplit_ren := {
  mixed := by kernel_rfl
  f138 := Tryz.func221.trans (congrArg some (by kernel_rfl))
  f143 := Tryz.func185.trans (congrArg some (by kernel_rfl))
  f195 := Tryz.func237.trans (congrArg some (by kernel_rfl))
  f197 := Tryz.func228.trans (congrArg some (by kernel_rfl))
  f217 := Tryz.func233.trans (congrArg some (by kernel_rfl))
  f218 := Tryz.func238.trans (congrArg some (by kernel_rfl))
  f219 := Tryz.func218.trans (congrArg some (by kernel_rfl))
  f221 := Tryz.func195.trans (congrArg some (by kernel_rfl))
  f224 := Tryz.func235.trans (congrArg some (by kernel_rfl))
  f225 := Tryz.func234.trans (congrArg some (by kernel_rfl))
  f260 := Tryz.func243.trans (congrArg some (by kernel_rfl))
  f266 := Tryz.func246.trans (congrArg some (by kernel_rfl))
  f267 := Tryz.func236.trans (congrArg some (by kernel_rfl))
  f268 := Tryz.func220.trans (congrArg some (by kernel_rfl))
  f314 := Tryz.func247.trans (congrArg some (by kernel_rfl))
  t0 := Tryz.underlying0
  a0 := Tryz.isAgg0
  z0 := Tryz.sizeOf0
  v0 := Tryz.zeroValue0
  t3 := Tryz.underlying3
  a3 := Tryz.isAgg3
  z3 := Tryz.sizeOf3
  v3 := Tryz.zeroValue3
  t4 := Tryz.underlying4
  a4 := Tryz.isAgg4
  z4 := Tryz.sizeOf4
  v4 := Tryz.zeroValue4
  t5 := Tryz.underlying5
  a5 := Tryz.isAgg5
  z5 := Tryz.sizeOf5
  v5 := Tryz.zeroValue5
  t9 := Tryz.underlying9
  a9 := Tryz.isAgg9
  z9 := Tryz.sizeOf9
  v9 := Tryz.zeroValue9
  t21 := Tryz.underlying21
  a21 := Tryz.isAgg21
  z21 := Tryz.sizeOf21
  v21 := Tryz.zeroValue21
  t31 := Tryz.underlying34
  a31 := Tryz.isAgg34
  z31 := Tryz.sizeOf34
  v31 := Tryz.zeroValue34
  t46 := Tryz.underlying260
  a46 := Tryz.isAgg260
  z46 := Tryz.sizeOf260
  v46 := Tryz.zeroValue260
  t51 := Tryz.underlying195
  a51 := Tryz.isAgg195
  z51 := Tryz.sizeOf195
  v51 := Tryz.zeroValue195
  t105 := Tryz.underlying297
  a105 := Tryz.isAgg297
  z105 := Tryz.sizeOf297
  v105 := Tryz.zeroValue297
  t119 := Tryz.underlying322
  a119 := Tryz.isAgg322
  z119 := Tryz.sizeOf322
  t138 := Tryz.underlying324
  a138 := Tryz.isAgg324
  z138 := Tryz.sizeOf324
  v138 := Tryz.zeroValue324
  t139 := Tryz.underlying325
  a139 := Tryz.isAgg325
  z139 := Tryz.sizeOf325
  v139 := Tryz.zeroValue325
  t146 := Tryz.underlying311
  a146 := Tryz.isAgg311
  z146 := Tryz.sizeOf311
  v146 := Tryz.zeroValue311
  g1 := by kernel_rfl
  g3 := by kernel_rfl
  g4 := by kernel_rfl }
def Tryz.join_ren : Go.Shelf.Ren := ⟨fun | 156 => 197 | 165 => 222 | 166 => 208 | 169 => 209 | 240 => 231 | 241 => 239 | 276 => 245 | 277 => 248 | n => n, fun | 31 => 34 | 9 => 9 | 3 => 3 | 4 => 4 | 0 => 0 | 20 => 20 | 72 => 284 | 76 => 287 | 70 => 282 | 37 => 154 | 75 => 286 | 127 => 300 | 164 => 309 | 5 => 5 | 80 => 289 | n => n, fun | n => n⟩
theorem Tryz.join : Go.Proofs.Lays.n156 Tryz.prog Tryz.join_ren := {
  mixed := by kernel_rfl
  f156 := Tryz.func197.trans (congrArg some (by kernel_rfl))
  f165 := Tryz.func222.trans (congrArg some (by kernel_rfl))
  f166 := Tryz.func208.trans (congrArg some (by kernel_rfl))
  f169 := Tryz.func209.trans (congrArg some (by kernel_rfl))
  f240 := Tryz.func231.trans (congrArg some (by kernel_rfl))
  f241 := Tryz.func239.trans (congrArg some (by kernel_rfl))
  f276 := Tryz.func245.trans (congrArg some (by kernel_rfl))
  f277 := Tryz.func248.trans (congrArg some (by kernel_rfl))
  t0 := Tryz.underlying0
  a0 := Tryz.isAgg0
  z0 := Tryz.sizeOf0
  v0 := Tryz.zeroValue0
  t3 := Tryz.underlying3
  a3 := Tryz.isAgg3
  z3 := Tryz.sizeOf3
  v3 := Tryz.zeroValue3
  t4 := Tryz.underlying4
  a4 := Tryz.isAgg4
  z4 := Tryz.sizeOf4
  v4 := Tryz.zeroValue4
  t9 := Tryz.underlying9
  a9 := Tryz.isAgg9
  z9 := Tryz.sizeOf9
  v9 := Tryz.zeroValue9
  t20 := Tryz.underlying20
  a20 := Tryz.isAgg20
  z20 := Tryz.sizeOf20
  v20 := Tryz.zeroValue20
  t31 := Tryz.underlying34
  a31 := Tryz.isAgg34
  z31 := Tryz.sizeOf34
  v31 := Tryz.zeroValue34
  t37 := Tryz.underlying154
  a37 := Tryz.isAgg154
  z37 := Tryz.sizeOf154
  v37 := Tryz.zeroValue154
  t70 := Tryz.underlying282
  a70 := Tryz.isAgg282
  z70 := Tryz.sizeOf282
  v70 := Tryz.zeroValue282
  t72 := Tryz.underlying284
  a72 := Tryz.isAgg284
  z72 := Tryz.sizeOf284
  v72 := Tryz.zeroValue284
  t75 := Tryz.underlying286
  a75 := Tryz.isAgg286
  z75 := Tryz.sizeOf286
  v75 := Tryz.zeroValue286
  t76 := Tryz.underlying287
  a76 := Tryz.isAgg287
  z76 := Tryz.sizeOf287
  v76 := Tryz.zeroValue287
  t127 := Tryz.underlying300
  a127 := Tryz.isAgg300
  z127 := Tryz.sizeOf300
  v127 := Tryz.zeroValue300
  t164 := Tryz.underlying309
  a164 := Tryz.isAgg309
  z164 := Tryz.sizeOf309
  v164 := Tryz.zeroValue309 }
def Tryz.compactS_ren : Go.Shelf.Ren := ⟨fun | 194 => 198 | n => n, fun | 31 => 34 | 9 => 9 | 3 => 3 | 4 => 4 | 0 => 0 | n => n, fun | n => n⟩
theorem Tryz.compactS : Go.Proofs.Lays.n194 Tryz.prog Tryz.compactS_ren := {
  mixed := by kernel_rfl
  f194 := Tryz.func198.trans (congrArg some (by kernel_rfl))
  t0 := Tryz.underlying0
  a0 := Tryz.isAgg0
  z0 := Tryz.sizeOf0
  v0 := Tryz.zeroValue0
  t3 := Tryz.underlying3
  a3 := Tryz.isAgg3
  z3 := Tryz.sizeOf3
  v3 := Tryz.zeroValue3
  t4 := Tryz.underlying4
  a4 := Tryz.isAgg4
  z4 := Tryz.sizeOf4
  v4 := Tryz.zeroValue4
  t9 := Tryz.underlying9
  a9 := Tryz.isAgg9
  z9 := Tryz.sizeOf9
  v9 := Tryz.zeroValue9
  t31 := Tryz.underlying34
  a31 := Tryz.isAgg34
  z31 := Tryz.sizeOf34
  v31 := Tryz.zeroValue34 }
def Tryz.sortS_ren : Go.Shelf.Ren := ⟨fun | 190 => 224 | 125 => 242 | 258 => 241 | 128 => 258 | 129 => 259 | 302 => 249 | 303 => 250 | 304 => 251 | 305 => 252 | 306 => 253 | 307 => 254 | 308 => 255 | 309 => 256 | 310 => 257 | 333 => 260 | 329 => 261 | 330 => 262 | 334 => 263 | 335 => 264 | 336 => 265 | 344 => 266 | n => n, fun | 31 => 34 | 9 => 9 | 3 => 3 | 46 => 260 | 0 => 0 | 51 => 195 | 53 => 198 | 4 => 4 | 183 => 315 | 182 => 314 | 131 => 233 | 5 => 5 | 218 => 326 | 222 => 330 | 228 => 332 | 229 => 333 | n => n, fun | n => n⟩
theorem Tryz.sortS : Go.Proofs.Lays.n190 Tryz.prog Tryz.sortS_ren := {
  mixed := by kernel_rfl
  f125 := Tryz.func242.trans (congrArg some (by kernel_rfl))
  f128 := Tryz.func258.trans (congrArg some (by kernel_rfl))
  f129 := Tryz.func259.trans (congrArg some (by kernel_rfl))
  f190 := Tryz.func224.trans (congrArg some (by kernel_rfl))
  f258 := Tryz.func241.trans (congrArg some (by kernel_rfl))
  f302 := Tryz.func249.trans (congrArg some (by kernel_rfl))
  f303 := Tryz.func250.trans (congrArg some (by kernel_rfl))
  f304 := Tryz.func251.trans (congrArg some (by kernel_rfl))
  f305 := Tryz.func252.trans (congrArg some (by kernel_rfl))
  f306 := Tryz.func253.trans (congrArg some (by kernel_rfl))
  f307 := Tryz.func254.trans (congrArg some (by kernel_rfl))
  f308 := Tryz.func255.trans (congrArg some (by kernel_rfl))
  f309 := Tryz.func256.trans (congrArg some (by kernel_rfl))
  f310 := Tryz.func257.trans (congrArg some (by kernel_rfl))
  f329 := Tryz.func261.trans (congrArg some (by kernel_rfl))
  f330 := Tryz.func262.trans (congrArg some (by kernel_rfl))
  f333 := Tryz.func260.trans (congrArg some (by kernel_rfl))
  f334 := Tryz.func263.trans (congrArg some (by kernel_rfl))
  f335 := Tryz.func264.trans (congrArg some (by kernel_rfl))
  f336 := Tryz.func265.trans (congrArg some (by kernel_rfl))
  f344 := Tryz.func266.trans (congrArg some (by kernel_rfl))
  t0 := Tryz.underlying0
  a0 := Tryz.isAgg0
  z0 := Tryz.sizeOf0
  v0 := Tryz.zeroValue0
  t3 := Tryz.underlying3
  a3 := Tryz.isAgg3
  z3 := Tryz.sizeOf3
  v3 := Tryz.zeroValue3
  t4 := Tryz.underlying4
  a4 := Tryz.isAgg4
  z4 := Tryz.sizeOf4
  v4 := Tryz.zeroValue4
  t5 := Tryz.underlying5
  a5 := Tryz.isAgg5
  z5 := Tryz.sizeOf5
  v5 := Tryz.zeroValue5
  t9 := Tryz.underlying9
  a9 := Tryz.isAgg9
  z9 := Tryz.sizeOf9
  v9 := Tryz.zeroValue9
  t31 := Tryz.underlying34
  a31 := Tryz.isAgg34
  z31 := Tryz.sizeOf34
  v31 := Tryz.zeroValue34
  t46 := Tryz.underlying260
  a46 := Tryz.isAgg260
  z46 := Tryz.sizeOf260
  v46 := Tryz.zeroValue260
  t51 := Tryz.underlying195
  a51 := Tryz.isAgg195
  z51 := Tryz.sizeOf195
  v51 := Tryz.zeroValue195
  t53 := Tryz.underlying198
  a53 := Tryz.isAgg198
  z53 := Tryz.sizeOf198
  v53 := Tryz.zeroValue198
  t131 := Tryz.underlying233
  a131 := Tryz.isAgg233
  z131 := Tryz.sizeOf233
  v131 := Tryz.zeroValue233
  t182 := Tryz.underlying314
  a182 := Tryz.isAgg314
  z182 := Tryz.sizeOf314
  v182 := Tryz.zeroValue314
  t183 := Tryz.underlying315
  a183 := Tryz.isAgg315
  z183 := Tryz.sizeOf315
  v183 := Tryz.zeroValue315
  t218 := Tryz.underlying326
  a218 := Tryz.isAgg326
  z218 := Tryz.sizeOf326
  v218 := Tryz.zeroValue326
  t222 := Tryz.underlying330
  a222 := Tryz.isAgg330
  z222 := Tryz.sizeOf330
  v222 := Tryz.zeroValue330
  t228 := Tryz.underlying332
  a228 := Tryz.isAgg332
  z228 := Tryz.sizeOf332
  v228 := Tryz.zeroValue332
  t229 := Tryz.underlying333
  a229 := Tryz.isAgg333
  z229 := Tryz.sizeOf333
  v229 := Tryz.zeroValue333 }
def Tryz.trimSuffix_ren : Go.Shelf.Ren := ⟨fun | 102 => 171 | 209 => 201 | 207 => 226 | n => n, fun | 9 => 9 | 4 => 4 | 3 => 3 | n => n, fun | n => n⟩
theorem Tryz.trimSuffix : Go.Proofs.Lays.n102 Tryz.prog Tryz.trimSuffix_ren := {
  mixed := by kernel_rfl
  f102 := Tryz.func171.trans (congrArg some (by kernel_rfl))
  f207 := Tryz.func226.trans (congrArg some (by kernel_rfl))
  f209 := Tryz.func201.trans (congrArg some (by kernel_rfl))
  t3 := Tryz.underlying3
  a3 := Tryz.isAgg3
  z3 := Tryz.sizeOf3
  v3 := Tryz.zeroValue3
  t4 := Tryz.underlying4
  a4 := Tryz.isAgg4
  z4 := Tryz.sizeOf4
  v4 := Tryz.zeroValue4
  t9 := Tryz.underlying9
  a9 := Tryz.isAgg9
  z9 := Tryz.sizeOf9
  v9 := Tryz.zeroValue9 }
end Go.Proofs


set_option linter.unusedVariables false
set_option linter.unusedSimpArgs false

namespace Go.Proofs.YtpfhmcdcmepfdaaGreatDoor
open Go.RowKit Go.Shelf
open Go.Proofs

theorem letter_any (x : Nat) (h : x ≤ 1114111) (w : World) : Calls Tryz.prog 207 #[.int .i32 x] w fun e w' => e = .returned (.bool (Tg.letter x)) ∧ w' = w := by
  go_enter Tryz.func207, Tryz.ntmps207
  go_wp2
  all_goals
    go_ret
    refine ⟨ret_bool ?_, rfl⟩
    rw [Bool.eq_iff_iff]
    simp [Tg.letter]
    omega
theorem rletter_any (x : Nat) (h : x < 256) (w : World) : Calls Tryz.prog 192 #[.int .u8 x] w fun e w' => e = .returned (.bool (Tg.letter x)) ∧ w' = w := by
  go_enter Tryz.func192, Tryz.ntmps192
  go_wp2
  all_goals
    go_ret
    refine ⟨ret_bool ?_, rfl⟩
    rw [Bool.eq_iff_iff]
    simp [Tg.letter]
    omega
theorem dec_ascii {s : ByteArray} {i : Nat} (h : (s.get! i).toNat < 128) : Utf8.decode s i = ((s.get! i).toNat, 1) := by
  unfold Utf8.decode
  simp [h]
theorem dec_other {s : ByteArray} {i : Nat} (h : 128 ≤ (s.get! i).toNat) : 128 ≤ (Utf8.decode s i).1 := by
  have h0 : ¬ (s.get! (i + 0)).toNat < 128 := by rw [Nat.add_zero]; omega
  unfold Utf8.decode
  simp only [h0, if_false]
  repeat' split
  all_goals first
    | (simp only [Utf8.runeError]; omega)
    | (rename_i hc; simp only [ge_iff_le, Bool.and_eq_true, decide_eq_true_eq] at hc; simp only; omega)
theorem get_list {s : ByteArray} {i : Nat} (h : i < s.size) : s.get! i = s.data.toList[i]'(by simpa using h) := by
  have : s.get! i = s.data[i]! := rfl
  rw [this, getElem!_pos s.data i h]
  simp
theorem idx_letters (s : ByteArray) : decide (0 ≤ Lib.idxFunc (fun r => !Tg.letter r) true s) = !(s.data.toList.all fun c => Tg.letter c.toNat) := by
  have big : ∀ r, 128 ≤ r → Tg.letter r = false := fun r hr => by
    rw [Bool.eq_false_iff]
    intro k
    simp [Tg.letter] at k
    omega
  have key : ∀ f pos, s.size ≤ pos + f → (0 ≤ Lib.idxFuncFrom (fun r => !Tg.letter r) true s f pos ↔ ∃ i, ∃ hi : i < s.data.toList.length, pos ≤ i ∧ Tg.letter (s.data.toList[i]).toNat = false) := by
    intro f
    induction f with
    | zero =>
      intro pos hp
      constructor
      · intro h; simp [Lib.idxFuncFrom] at h
      · rintro ⟨i, hi, h1, _⟩
        have : i < s.size := by simpa using hi
        omega
    | succ f ih =>
      intro pos hp
      unfold Lib.idxFuncFrom
      by_cases hlt : pos < s.size
      · rw [if_pos hlt]
        have hg := get_list hlt
        have hpl : pos < s.data.toList.length := by simpa using hlt
        by_cases ha : (s.get! pos).toNat < 128
        · rw [dec_ascii ha]
          cases hl : Tg.letter (s.get! pos).toNat with
          | false =>
            simp only [hl, Bool.not_false, if_true]
            constructor
            · intro _; exact ⟨pos, hpl, Nat.le_refl _, by rw [← hg]; exact hl⟩
            · intro _; omega
          | true =>
            simp only [hl, Bool.not_true, Bool.false_eq_true, if_false]
            rw [ih (pos + 1) (by omega)]
            constructor
            · rintro ⟨i, hi, h1, h2⟩; exact ⟨i, hi, by omega, h2⟩
            · rintro ⟨i, hi, h1, h2⟩
              refine ⟨i, hi, ?_, h2⟩
              by_cases e : i = pos
              · subst e
                rw [← hg, hl] at h2
                cases h2
              · omega
        · have h1 := big _ (dec_other (s := s) (i := pos) (by omega))
          simp only [h1, Bool.not_false, if_true]
          constructor
          · intro _; exact ⟨pos, hpl, Nat.le_refl _, by rw [← hg]; exact big _ (by omega)⟩
          · intro _; omega
      · rw [if_neg hlt]
        constructor
        · intro h; simp at h
        · rintro ⟨i, hi, h1, _⟩
          have : i < s.size := by simpa using hi
          omega
  rw [Bool.eq_iff_iff]
  simp only [decide_eq_true_eq, Bool.not_eq_true', List.all_eq_false]
  unfold Lib.idxFunc
  rw [key s.size 0 (by omega)]
  constructor
  · rintro ⟨i, hi, _, h⟩; exact ⟨_, List.getElem_mem hi, by simpa using h⟩
  · rintro ⟨c, hc, h⟩
    obtain ⟨i, hi, rfl⟩ := List.getElem_of_mem hc
    exact ⟨i, hi, Nat.zero_le _, by simpa using h⟩
theorem word1 (w : World) : PredAtRunes Tryz.prog 206 #[] (fun r => !Tg.letter r) w := fun W x hx _ => by
  unfold FnGives
  go_enter Tryz.func206, Tryz.ntmps206
  go_wp2_with (go_at_call 207; refine (letter_any _ hx _).mono ?_; rintro e w' ⟨rfl, rfl⟩)
  go_ret
  exact ⟨rfl, 0, rfl⟩
theorem containsFunc_any (s : ByteArray) (w : World) : Calls Tryz.prog 205 #[.string s, .func (.func 206) #[] #[]] w fun e w' => e = .returned (.bool (!(s.data.toList.all fun c => Tg.letter c.toNat))) ∧ Ext w w' := by
  rw [← idx_letters]
  exact Any.strings_ContainsFunc_runes Tryz.containsFunc 206 #[] (enters_of Tryz.func206 (by kernel_rfl) rfl) _ s _ (word1 _)
theorem word_any (s : ByteArray) (w : World) : Calls Tryz.prog 179 #[.string s] w fun e w' => e = .returned (.bool (Tg.wordB s.data.toList)) ∧ Ext w w' := by
  have hl : s.toList.length = s.size := by rw [Lib.toList_data]; simp
  have hc := containsFunc_any s
  have hW : Hid (Tg.wordB s.data.toList = (!s.toList.isEmpty && decide ((s.size : Int) ≤ 64) && !(s.toList == [46]) && !(s.toList == [46, 46]) && s.data.toList.all fun c => Tg.letter c.toNat)) := Lib.hid (by
    have hd : decide ((s.size : Int) ≤ 64) = decide (s.data.toList.length ≤ 64) := by
      congr 1; apply propext; rw [← Lib.toList_data]; omega
    rw [hd, Lib.toList_data]; unfold Tg.wordB; cases s.data.toList <;> simp [bne])
  generalize (s.data.toList.all fun c => Tg.letter c.toNat) = b at hc hW
  have HC := Lib.hid hc
  clear hc
  go_enter Tryz.func179, Tryz.ntmps179
  go_wp2_with (go_at_call 205; refine (HC.out _).mono ?_; rintro e w' ⟨rfl, hxl⟩; obtain ⟨xl, rfl⟩ := hxl.asLater; clear hxl)
  all_goals
    go_ret
    refine ⟨ret_bool ?_, (by (repeat (first | with_reducible exact Ext.refl _ | with_reducible exact Ext.refl _ | with_reducible refine Ext.drew ?_ | with_reducible refine Ext.drewN ?_ _ | with_reducible refine Ext.alloc ?_ _ | with_reducible refine Ext.onto ?_ _ | (with_reducible refine Ext.setCells ?_ ?_ _ _; rotate_left; focus (first | omega | (simp; done) | (simp; omega))) | (with_reducible refine Ext.setCell ?_ ?_ _; rotate_left; focus (first | omega | (simp; done) | (simp; omega))))))⟩
    rw [hW.out]
    simp_all
    try omega
theorem contains_one (s : ByteArray) (c : UInt8) (w : World) : Calls Tryz.prog 153 #[.string s, .string ⟨#[c]⟩] w fun e w' => e = .returned (.bool (s.data.toList.contains c)) ∧ w' = w := by
  have h := Any.strings_Contains_one Tryz.contains s c w
  change Calls Tryz.prog 153 _ _ _ at h
  have e : decide (0 ≤ Lib.indexByte s.data.toList c) = s.data.toList.contains c := by
    generalize s.data.toList = l
    induction l with
    | nil => rfl
    | cons b l ih =>
      rw [List.contains_cons, ← ih]
      have := Lib.indexByte_ge l c
      show decide (0 ≤ if (b == c) = true then (0 : Int) else if (Lib.indexByte l c == -1) = true then -1 else Lib.indexByte l c + 1) = _
      by_cases e : b = c
      · subst e; simp
      · rw [if_neg (by simpa using e)]
        have e2 : (c == b) = false := by simp [Ne.symm e]
        rw [e2, Bool.false_or]
        generalize Lib.indexByte l c = z at *
        by_cases hz : z = -1
        · subst hz; rfl
        · rw [if_neg (by simpa using hz)]
          congr 1
          apply propext
          omega
  rw [e] at h
  exact h
theorem name_any (s : ByteArray) (w : World) : Calls Tryz.prog 176 #[.string s] w fun e w' => e = .returned (.bool (Tg.nameB s.data.toList)) ∧ Ext w w' := by
  have hc := contains_one s 46
  have hw := word_any s
  have hN : Hid (Tg.nameB s.data.toList = (Tg.wordB s.data.toList && !(s.data.toList.contains 46))) := Lib.hid rfl
  generalize Tg.wordB s.data.toList = a at hw hN
  generalize s.data.toList.contains 46 = b at hc hN
  have HC := Lib.hid hc
  have HW := Lib.hid hw
  clear hc hw
  go_enter Tryz.func176, Tryz.ntmps176
  go_wp2_with (first | (go_at_call 179; refine (HW.out _).mono ?_; rintro e w' ⟨rfl, hxl⟩; obtain ⟨xl, rfl⟩ := hxl.asLater; clear hxl) | (go_at_call 153; refine (HC.out _).mono ?_; rintro e w' ⟨rfl, rfl⟩))
  all_goals
    go_ret
    refine ⟨ret_bool ?_, (by (repeat (first | with_reducible exact Ext.refl _ | with_reducible exact Ext.refl _ | with_reducible refine Ext.drew ?_ | with_reducible refine Ext.drewN ?_ _ | with_reducible refine Ext.alloc ?_ _ | with_reducible refine Ext.onto ?_ _ | (with_reducible refine Ext.setCells ?_ ?_ _ _; rotate_left; focus (first | omega | (simp; done) | (simp; omega))) | (with_reducible refine Ext.setCell ?_ ?_ _; rotate_left; focus (first | omega | (simp; done) | (simp; omega))))))⟩
    rw [hN.out]
    simp_all

/-! ### The specification -/
theorem rhas_byte (s : ByteArray) (c : UInt8) (w : World) (hs : s.size ≤ 9223372036854775807) : Calls Tryz.prog 166 #[.string s, .int .u8 c.toNat] w fun e w' => e = .returned (.bool (s.data.toList.contains c)) ∧ Ext w w' := by
  have hl : s.data.toList.length = s.size := by simp
  have hc0 := c.toNat_lt
  go_enter Tryz.func166, Tryz.ntmps166
  go_wp2
  go_loopw [5] (fun i wr => ∃ k : Nat, k ≤ s.size ∧ i = .int .i64 k ∧ Ext w wr ∧ Hid (∀ j (h : j < s.data.toList.length), j < k → s.data.toList[j] ≠ c)) (fun i _ => s.size - (intOf i).toNat)
  case atStart => exact ⟨0, Nat.zero_le _, rfl, Ext.refl _, Lib.hid (fun j _ h => absurd h (Nat.not_lt_zero _))⟩
  case round =>
    obtain ⟨k, hk, rfl, hx, HJ⟩ := hrel
    have HX := Lib.hid hx
    clear hx
    by_cases hlt : k < s.size
    · have hk2 : k < s.data.toList.length := by omega
      have hg : s[k] = s.data.toList[k] := by simp [ByteArray.getElem_eq_getElem_data]
      by_cases hc : s.data.toList[k] = c
      · have HQ : Hid (s.data.toList.contains c = true) := Lib.hid (by rw [List.contains_iff_mem, ← hc]; exact List.getElem_mem hk2)
        have hcc : ((s.data[k].toNat : Int) == (c.toNat : Int)) = true := by rw [← ByteArray.getElem_eq_getElem_data, hg, hc]; simp
        go_wp2
        go_ret
        exact ⟨ret_bool HQ.out.symm, HX.out⟩
      · have HN := Lib.hid (show ∀ j (h : j < s.data.toList.length), j < k + 1 → s.data.toList[j] ≠ c from fun j h hj => by
          by_cases e : j = k
          · subst e; exact hc
          · exact HJ.out j h (by omega))
        have hcc : ((s.data[k].toNat : Int) == (c.toNat : Int)) = false := by
          rw [← ByteArray.getElem_eq_getElem_data, hg, beq_eq_false_iff_ne]
          exact fun h => hc (UInt8.toNat_inj.1 (by omega))
        go_wp2
        go_roundw
        case rel => exact ⟨k + 1, by omega, by go_num, HX.out, HN⟩
        case measure => simp [intOf]; omega
    · have HQ : Hid (s.data.toList.contains c = false) := Lib.hid (by
        rw [Bool.eq_false_iff]
        intro h
        rw [List.contains_iff_mem] at h
        obtain ⟨j, hj, e⟩ := List.getElem_of_mem h
        exact HJ.out j hj (by omega) e)
      go_wp2
      go_ret
      exact ⟨ret_bool HQ.out.symm, HX.out⟩
theorem rword_any (s : ByteArray) (w : World) (hs : s.size ≤ 9223372036854775807) : Calls Tryz.prog 165 #[.string s] w fun e w' => e = .returned (.bool (Tg.wordB s.data.toList)) ∧ Ext w w' := by
  have hl : s.data.toList.length = s.size := by simp
  have hl2 : s.toList = s.data.toList := Lib.toList_data s
  have hW : Hid (Tg.wordB s.data.toList = (s.toList != [] && decide (s.size ≤ 64) && s.toList != [46] && s.toList != [46, 46] && s.data.toList.all fun c => Tg.letter c.toNat)) := Lib.hid (by rw [hl2, ← hl]; rfl)
  have hz : s.size = 0 → Hid (Tg.wordB s.data.toList = false) := fun h => Lib.hid (by
    have : s.data.toList = [] := List.eq_nil_of_length_eq_zero (hl.trans h)
    rw [this]; rfl)
  by_cases h0 : s.size = 0
  · have HZ := hz h0
    clear hz hW hl hl2
    go_enter Tryz.func165, Tryz.ntmps165
    go_wp2
    go_ret
    exact ⟨ret_bool HZ.out.symm, (by (repeat (first | with_reducible exact Ext.refl _ | with_reducible exact Ext.refl _ | with_reducible refine Ext.drew ?_ | with_reducible refine Ext.drewN ?_ _ | with_reducible refine Ext.alloc ?_ _ | with_reducible refine Ext.onto ?_ _ | (with_reducible refine Ext.setCells ?_ ?_ _ _; rotate_left; focus (first | omega | (simp; done) | (simp; omega))) | (with_reducible refine Ext.setCell ?_ ?_ _; rotate_left; focus (first | omega | (simp; done) | (simp; omega))))))⟩
  clear hz
  by_cases h1 : s.size ≤ 64 ∧ s.toList ≠ [46] ∧ s.toList ≠ [46, 46]
  · obtain ⟨h2, h3, h4⟩ := h1
    have e0 : s.toList ≠ [] := fun h => h0 (by rw [← hl, ← hl2, h]; rfl)
    have hV : Hid (Tg.wordB s.data.toList = (s.data.toList.all fun c => Tg.letter c.toNat)) := Lib.hid (by rw [hW.out]; simp [h2, h3, h4, e0, bne])
    have b0 : ((s.size : Int) == 0) = false := by rw [beq_eq_false_iff_ne]; omega
    have b1 : decide (64 < (s.size : Int)) = false := by simp; omega
    have b2 : (s.toList == [46]) = false := by rw [beq_eq_false_iff_ne]; exact h3
    have b3 : (s.toList == [46, 46]) = false := by rw [beq_eq_false_iff_ne]; exact h4
    clear hW hl2 h3 h4 e0
    go_enter Tryz.func165, Tryz.ntmps165
    go_wp2
    go_loopw [3] (fun i wr => ∃ k : Nat, k ≤ s.size ∧ i = .int .i64 k ∧ Ext w wr ∧ Hid (∀ j (h : j < s.data.toList.length), j < k → Tg.letter (s.data.toList[j]).toNat = true)) (fun i _ => s.size - (intOf i).toNat)
    case atStart => exact ⟨0, Nat.zero_le _, rfl, Ext.refl _, Lib.hid (fun j _ h => absurd h (Nat.not_lt_zero _))⟩
    case round =>
      obtain ⟨k, hk, rfl, hx, HJ⟩ := hrel
      have HX := Lib.hid hx
      clear hx
      by_cases hlt : k < s.size
      · have hk2 : k < s.data.toList.length := by omega
        have hg : s[k] = s.data.toList[k] := by simp [ByteArray.getElem_eq_getElem_data]
        have hb := (s[k]).toNat_lt
        cases hc : Tg.letter (s[k]).toNat with
        | false =>
          have HQ : Hid (Tg.wordB s.data.toList = false) := Lib.hid (by
            rw [hV.out, List.all_eq_false]
            exact ⟨_, List.getElem_mem hk2, by rw [← hg, hc]; simp⟩)
          have HC := Lib.hid hc
          clear hc hg
          go_wp2_with (go_at_call 192; refine (rletter_any _ hb _).mono ?_; rw [HC.out]; rintro e w' ⟨rfl, rfl⟩)
          go_ret
          exact ⟨ret_bool HQ.out.symm, HX.out⟩
        | true =>
          have HN := Lib.hid (show ∀ j (h : j < s.data.toList.length), j < k + 1 → Tg.letter (s.data.toList[j]).toNat = true from fun j h hj => by
            by_cases e : j = k
            · subst e; rw [← hg]; exact hc
            · exact HJ.out j h (by omega))
          have HC := Lib.hid hc
          clear hc hg
          go_wp2_with (go_at_call 192; refine (rletter_any _ hb _).mono ?_; rw [HC.out]; rintro e w' ⟨rfl, rfl⟩)
          go_roundw
          case rel => exact ⟨k + 1, by omega, by go_num, HX.out, HN⟩
          case measure => simp [intOf]; omega
      · have HQ : Hid (Tg.wordB s.data.toList = true) := Lib.hid (by
          rw [hV.out, List.all_eq_true]
          intro c hc
          obtain ⟨j, hj, rfl⟩ := List.getElem_of_mem hc
          exact HJ.out j hj (by omega))
        go_wp2
        go_ret
        exact ⟨ret_bool HQ.out.symm, HX.out⟩
  · have HV : Hid (Tg.wordB s.data.toList = false) := Lib.hid (by
      rw [hW.out]
      by_cases k1 : s.size ≤ 64
      · by_cases k2 : s.toList = [46]
        · simp [k2]
        · by_cases k3 : s.toList = [46, 46]
          · simp [k3]
          · exact absurd ⟨k1, k2, k3⟩ h1
      · simp [k1])
    have HN := Lib.hid h1
    clear h1 hW
    go_enter Tryz.func165, Tryz.ntmps165
    go_wp2
    all_goals first
      | (go_ret; exact ⟨ret_bool HV.out.symm, (by (repeat (first | with_reducible exact Ext.refl _ | with_reducible exact Ext.refl _ | with_reducible refine Ext.drew ?_ | with_reducible refine Ext.drewN ?_ _ | with_reducible refine Ext.alloc ?_ _ | with_reducible refine Ext.onto ?_ _ | (with_reducible refine Ext.setCells ?_ ?_ _ _; rotate_left; focus (first | omega | (simp; done) | (simp; omega))) | (with_reducible refine Ext.setCell ?_ ?_ _; rotate_left; focus (first | omega | (simp; done) | (simp; omega))))))⟩)
      | (exfalso; apply HN.out; refine ⟨by omega, ?_, ?_⟩ <;> simp_all)
theorem rname_any (s : ByteArray) (w : World) (hs : s.size ≤ 9223372036854775807) : Calls Tryz.prog 135 #[.string s] w fun e w' => e = .returned (.bool (Tg.nameB s.data.toList)) ∧ Ext w w' := by
  have hc : ∀ w, Calls Tryz.prog 166 #[.string s, .int .u8 46] w fun e w' => e = .returned (.bool (s.data.toList.contains 46)) ∧ Ext w w' := fun w => rhas_byte s 46 w hs
  have hw := fun w => rword_any s w hs
  have hN : Hid (Tg.nameB s.data.toList = (Tg.wordB s.data.toList && !(s.data.toList.contains 46))) := Lib.hid rfl
  generalize Tg.wordB s.data.toList = a at hw hN
  generalize s.data.toList.contains 46 = b at hc hN
  have HC := Lib.hid hc
  have HW := Lib.hid hw
  clear hc hw
  go_enter Tryz.func135, Tryz.ntmps135
  go_wp2_with (first | (go_at_call 165; refine (HW.out _).mono ?_; rintro e w' ⟨rfl, hxl⟩; obtain ⟨xl, rfl⟩ := hxl.asLater; clear hxl) | (go_at_call 166; refine (HC.out _).mono ?_; rintro e w' ⟨rfl, hxl⟩; obtain ⟨xl, rfl⟩ := hxl.asLater; clear hxl))
  all_goals
    go_ret
    refine ⟨ret_bool ?_, (by (repeat (first | with_reducible exact Ext.refl _ | with_reducible exact Ext.refl _ | with_reducible refine Ext.drew ?_ | with_reducible refine Ext.drewN ?_ _ | with_reducible refine Ext.alloc ?_ _ | with_reducible refine Ext.onto ?_ _ | (with_reducible refine Ext.setCells ?_ ?_ _ _; rotate_left; focus (first | omega | (simp; done) | (simp; omega))) | (with_reducible refine Ext.setCell ?_ ?_ _; rotate_left; focus (first | omega | (simp; done) | (simp; omega))))))⟩
    rw [hN.out]
    simp_all
end Go.Proofs.YtpfhmcdcmepfdaaGreatDoor


set_option linter.unusedVariables false
set_option linter.unusedSimpArgs false
namespace Go.Proofs.YtpfhmcdcmepfdaaGreatDoor
open Go.RowKit Go.Shelf
open Go.Proofs

abbrev ReadsStr (w : World) (B : Nat) (A : Option Addr) (l : List ByteArray) : Prop := Reads 1 encStr w B A l
abbrev OwnsStr (base : Nat) (w : World) (A : Option Addr) (c : Nat) (l : List ByteArray) : Prop := Owns 9 1 encStr base w A c l
theorem strT : ElemTy Tryz.prog 34 9 1 16 := ⟨by kernel_rfl, by kernel_rfl, by omega⟩
theorem ReadsStr.cell {w : World} {B : Nat} {A : Option Addr} {l : List ByteArray} (h : ReadsStr w B A l) (i : Nat) (hi : i < l.length) : ∃ b off, A = some ⟨b, off, none⟩ ∧ b < B ∧ w.cell? ⟨b, off + i, none⟩ = some (.string l[i]) := by
  obtain ⟨b, off, h1, h2, h3⟩ := h (by omega)
  exact ⟨b, off, h1, h2, by simpa using h3 i hi 0 _ rfl⟩
section
attribute [local go_sem] Oper.semAt_some
set_option maxRecDepth 100000 in
set_option maxHeartbeats 1000000 in
theorem svalues1_in (F : Fence) (n : Nat) (hF : F.fn 225) (hro : F.round = none) (hn : 1 ≤ n) (l bl n0 : Nat) (A : Option Addr) (c : Nat) (ls : List ByteArray) (W : World)
    (hlen : ls.length ≤ 140737488355328) (hl : Boxed W bl 34 (.slice A ls.length c)) (hr : ReadsStr W n0 A ls) (hn0 : n0 ≤ W.heap.size) (S : Nat → Prop) (hS : ∀ k, k < n0 → ¬ S k) (hSb : ¬ S bl)
    (J : Nat → World → Prop) (h0 : J 0 W) (hJ : ∀ k W1 W2, J k W1 → Ext W1 W2 → J k W2)
    (hY : ∀ k (h : k < ls.length) W1, J k W1 → ButS S W W1 → YieldAt F (n - 1) Tryz.prog l #[.string ls[k]] W1 fun e W' => e = .returned (.bool true) ∧ J (k + 1) W' ∧ ButS S W1 W') :
    CallsIn F n Tryz.prog 225 #[.func (.yield l) #[] #[], .pointer (some ⟨bl, 0, none⟩)] W fun e W' => (∃ v, e = .returned v) ∧ J ls.length W' ∧ ButS S W W' := by
  refine callsIn_of_wp Tryz.func225 rfl hF ?_ hro
  simp only [Tryz.ntmps225, List.size_toArray, List.length_cons, List.length_nil, Nat.reduceAdd, Nat.reduceSub, Array.replicate_succ, Array.replicate_zero, List.push_toArray, List.append_toArray, List.nil_append, List.cons_append]
  have hcl := hl.cell
  have HY := Lib.hid hY
  have HJ := Lib.hid hJ
  have H0 := Lib.hid h0
  have HR := Lib.hid hr
  have HSn := Lib.hid hS
  have HSb := Lib.hid hSb
  clear hY hJ h0 hr hS hSb
  gi_wp2
  gi_loopw [7] (fun i wr => ∃ k : Nat, k ≤ ls.length ∧ i = .int .i64 k ∧ Hid (J k wr) ∧ Hid (ButS S W wr)) (fun i _ => ls.length - (intOf i).toNat)
  case atStart => exact ⟨0, Nat.zero_le _, rfl, H0, Lib.hid (ButS.refl _ _)⟩
  case round =>
    obtain ⟨k, hk, rfl, HJk, HB⟩ := hrel
    by_cases hlt : k < ls.length
    · obtain ⟨b, off, rfl, hb, c1⟩ := ReadsStr.cell (HR.out.butS HB.out hn0 HSn.out) k hlt
      have hsz := HB.out.size
      obtain ⟨fn, tmps, assign, body, hy, hR⟩ := HY.out k hlt wr HJk.out HB.out
      have HRR := Lib.hid hR
      clear hR
      generalize ls[k] = s at *
      gi_wp2
      refine HRR.out.mono ?_
      rintro e W' ⟨rfl, hj, hb'⟩
      have HJ2 := Lib.hid hj
      have HB2 := Lib.hid (HB.out.trans hb')
      clear hj hb' hy HRR
      gi_wp2
      go_roundw
      case rel => exact ⟨k + 1, by omega, by go_num, HJ2, HB2⟩
      case measure => simp [intOf]; omega
    · have e : k = ls.length := by omega
      subst e
      gi_wp2
      go_end0
      exact ⟨⟨_, rfl⟩, HJk.out, HB.out⟩

set_option maxRecDepth 100000 in
set_option maxHeartbeats 2000000 in
theorem sappendSeq_ok (bl : Nat) (A : Option Addr) (c : Nat) (ls : List ByteArray) (w : World) (hlen : ls.length * 16 ≤ 140737488355328) (hbl : Boxed w bl 34 (.slice A ls.length c)) (hr : ReadsStr w w.heap.size A ls) :
    Calls Tryz.prog 240 #[.slice none 0 0, .func (.func 225) #[] #[.pointer (some ⟨bl, 0, none⟩)]] w fun e w' =>
      ∃ A' c', e = .returned (.slice A' ls.length c') ∧ OwnsStr w.heap.size w' A' c' ls ∧ Ext w w' := by
  have HP := Lib.hid hr
  have HBL := Lib.hid hbl
  have hbl' := hbl.lt
  clear hr hbl
  refine (callsIn_wide (n := 3)).1 ?_
  refine callsIn_of_wp_marks Tryz.func240 rfl trivial ?_ rfl
  simp only [Tryz.ntmps240, List.size_toArray, List.length_cons, List.length_nil, Nat.reduceAdd, Nat.reduceSub, Array.replicate_succ, Array.replicate_zero, List.push_toArray, List.append_toArray, List.nil_append, List.cons_append]
  gi_wp2
  have b1 : Boxed (w.alloc (.cells #[.slice none 0 0] 34)) w.heap.size 34 (.slice none 0 0) := Boxed.new w 34 _
  have b2 : Boxed (w.alloc (.cells #[.slice none 0 0] 34)) bl 34 (.slice A ls.length c) := HBL.out.alloc _
  have bs : (w.alloc (.cells #[.slice none 0 0] 34)).heap.size = w.heap.size + 1 := by simp
  have bx : Ext w (w.alloc (.cells #[.slice none 0 0] 34)) := (Ext.refl _).alloc _
  generalize (w.alloc (.cells #[.slice none 0 0] 34)) = W0 at b1 b2 bs bx ⊢
  refine rf_enter rfl (by omega) (gf := 225) (lb := #[.pointer (some ⟨bl, 0, none⟩)]) rfl trivial (enters_of Tryz.func225 (by kernel_rfl) rfl) ?_
  intro fn WL hfn hE hEs hl0 hD0
  have hEa := Nat.le_of_eq hEs
  have hEb := Nat.le_of_eq hEs.symm
  clear hEs
  refine CallsIn.mono (svalues1_in Fence.wide (3 - 1) trivial rfl (by omega) (W0.heap.size + 1) bl w.heap.size A c ls WL (by omega) (Boxed.ext b2 hE) (HP.out.ext (bx.trans hE) (Nat.le_refl _)) (by omega)
    (fun k => k = w.heap.size ∨ WL.heap.size ≤ k) (fun k hk => by omega) (by omega)
    (fun k W => ∃ A' c' l', Hid (l' = ls.take k) ∧ Boxed W w.heap.size 34 (.slice A' l'.length c') ∧ OwnsStr WL.heap.size W A' c' l')
    ⟨none, 0, [], Lib.hid rfl, Boxed.ext b1 hE, Owns.nil _ _ _ _ _⟩ (fun k W1 W2 ⟨A', c', l', h1, h2, h3⟩ hx => ⟨A', c', l', h1, Boxed.ext h2 hx, h3.ext hx⟩) ?hY) ?post
  case hY =>
    rintro k hk W1 ⟨A', c', l', HL, hbo, ho⟩ hBS
    have hsz1 := hBS.size
    have hrec := (hBS.block (W0.heap.size + 1) (by omega) (by omega)).trans hl0
    have hlt := (Array.getElem?_eq_some_iff.1 hrec).1
    have hll1 : l'.length ≤ k := by rw [HL.out, List.length_take]; omega
    have hll2 : k ≤ l'.length := by rw [HL.out, List.length_take]; omega
    have HTK : Hid (ls.take (k + 1) = ls.take k ++ [ls[k]]) := Lib.hid (List.take_succ_eq_append_getElem hk)
    generalize ls[k] = s at *
    refine rf_round hrec hfn rfl ?_
    have HREC := Lib.hid hrec
    have HBS := Lib.hid bs
    clear hrec bs
    gi_wp2
    refine ⟨(Array.getElem?_eq_some_iff.1 HREC.out).2, ?_⟩
    intro W2 hb2 hs2 hr2
    have hbp2 : Boxed W2 w.heap.size 34 (.slice A' l'.length c') := boxed_but hbo hb2 (by have := HBS.out; omega)
    have ho2 : OwnsStr WL.heap.size W2 A' c' l' := ho.but hb2 (by have := HBS.out; omega)
    have c3 := hbp2.cell
    have hs2a : W2.heap.size ≤ W1.heap.size := Nat.le_of_eq hs2
    have hs2b : W1.heap.size ≤ W2.heap.size := Nat.le_of_eq hs2.symm
    have HB2 := Lib.hid hb2
    have HR2 := Lib.hid hr2
    have HO2 := Lib.hid ho2
    have HP2 := Lib.hid hbp2
    clear hb2 hr2 hs2 ho hbo ho2 hbp2
    gi_wp2_with (gi_at_builtin; refine app_fromIn strT sE rfl _ _ rfl WL.heap.size _ _ l' rfl (HO2.out.alloc _) _ 1 _ [s] rfl rfl (new_cellsAt (by omega) _ _) (by omega) (by omega) (by simp; omega) ?_; intro A3 c3' l3 w3 HL3 HO3 hB hl1 hl2 hG; have HO3' := Lib.hid HO3; have HB3 := Lib.hid hB; have HG3 := Lib.hid hG; have hbp3 : Boxed w3 w.heap.size 34 (.slice A' l'.length c') := (hB.block _ (by have := HBS.out; omega)).trans (HP2.out.alloc _); have hc3 := hbp3.cell; have hf3 := hbp3.frozen; have HP3 := Lib.hid hbp3; have hsz3 := hB.size; clear HO3 hB hG hbp3)
    refine ⟨?_, ?_⟩
    · refine (Below.heap_setCell _ _ _ _ (by show _ ≠ w.heap.size; have := HBS.out; omega)).trans ?_
      exact (HB3.out.block _ (by have := HBS.out; omega)).trans ((Below.heap_alloc _ _ _ (by omega)).trans HR2.out)
    intro W4 hb4 hr4
    refine ⟨rfl, ⟨A3, c3', l3, Lib.hid (by rw [HL3.out, HTK.out, HL.out]), boxed_but (HP3.out.set _) hb4 (by have := HBS.out; omega), (HO3'.out.other (p := ⟨w.heap.size, 0, none⟩) (by show w.heap.size < _; have := HBS.out; omega) _).but hb4 (by have := HBS.out; omega)⟩, ?_⟩
    refine ButS.back (l := W0.heap.size + 1) ?_ (hr4.trans HREC.out.symm)
    refine ButS.trans (b := W2) (ButS.of_but HB2.out (.inr (.inr rfl))) ?_
    refine ButS.trans (b := w3) (ButS.trans (ButS.of_ext ((Ext.refl W2).alloc _)) (ButS.of_grownBy HG3.out (fun k e => .inl (.inr (HO2.out.blk k e))))) ?_
    exact ((ButS.refl _ w3).setCell (p := ⟨w.heap.size, 0, none⟩) (.inl (.inl (.inl rfl))) _).trans (ButS.of_but hb4 (.inr (.inr rfl)))
  case post =>
    rintro e W' ⟨⟨v', rfl⟩, ⟨A', c', l', HL, hbo, ho⟩, hB⟩
    have hl' : l' = ls := by rw [HL.out, List.take_length]
    subst hl'
    refine ⟨⟨_, rfl⟩, .inl ⟨(hB.block _ (by omega) (by omega)).trans hl0, ?_⟩⟩
    intro W'' hBut
    have hK : W''.heap[W0.heap.size]? = some (.deferred (some [])) := (hBut.block _ (by have := hB.size; omega) (fun e => by injection e; omega)).trans ((hB.block _ (by omega) (by omega)).trans hD0)
    have hc := (boxed_but hbo hBut (by omega)).cell
    have HE : Hid (Ext w (W''.putObj W0.heap.size (.deferred none))) := by
      refine Lib.hid ?_
      have f1 : ButS (fun k => w.heap.size ≤ k) w W' := (ButS.of_ext (bx.trans hE)).trans (hB.mono (fun k _ e => by omega))
      have f2 : ButS (fun k => w.heap.size ≤ k) w W'' := f1.trans (ButS.of_but hBut (.inr (by omega)))
      exact (f2.trans (ButS.of_but (grownBy_putObj' W'' W0.heap.size (.deferred none)) (.inr (by omega)))).toExt (fun k hk => by omega)
    have HO : Hid (OwnsStr w.heap.size (W''.putObj W0.heap.size (.deferred none)) A' c' l') := Lib.hid (((ho.but hBut (by omega)).but (grownBy_putObj' W'' W0.heap.size (.deferred none)) (by omega)).lower (by omega))
    have HK := Lib.hid hK
    have HBS := Lib.hid bs
    clear hK bs hl0 hD0 hbo ho
    gi_wp2
    refine ⟨by simp, .inl ⟨_, _, rfl, run_takeDeferred HK.out, ?_⟩⟩
    exact ⟨_, results_tmp rfl _ _ _, A', c', rfl, HO.out, HE.out⟩
end
theorem svalues_any (A : Option Addr) (n c : Nat) (w : World) :
    Calls Tryz.prog 200 #[.slice A n c] w fun e w' => e = .returned (.func (.func 225) #[] #[.pointer (some ⟨w.heap.size, 0, none⟩)]) ∧ w.alloc (.cells #[.slice A n c] 34) = w' := by
  go_enter Tryz.func200, Tryz.ntmps200
  go_wp2
  go_ret
  exact ⟨rfl, rfl⟩
theorem scollect_ok (bl : Nat) (A : Option Addr) (c : Nat) (ls : List ByteArray) (w : World) (hlen : ls.length * 16 ≤ 140737488355328) (hbl : Boxed w bl 34 (.slice A ls.length c)) (hr : ReadsStr w w.heap.size A ls) :
    Calls Tryz.prog 223 #[.func (.func 225) #[] #[.pointer (some ⟨bl, 0, none⟩)]] w fun e w' =>
      ∃ A' c', e = .returned (.slice A' ls.length c') ∧ OwnsStr w.heap.size w' A' c' ls ∧ Ext w w' := by
  have H := Lib.hid (sappendSeq_ok bl A c ls w hlen hbl hr)
  clear hbl hr
  go_enter Tryz.func223, Tryz.ntmps223
  go_wp2_with (go_at_call 240; refine H.out.mono ?_; rintro e w' ⟨A', c', rfl, ho, hx⟩)
  go_ret
  exact ⟨A', c', rfl, ho, hx⟩
end Go.Proofs.YtpfhmcdcmepfdaaGreatDoor


set_option linter.unusedVariables false
set_option linter.unusedSimpArgs false
namespace Go.Proofs.YtpfhmcdcmepfdaaGreatDoor
open Go.RowKit Go.Shelf
open Go.Proofs

/-- Texts lie in a block, one a cell. -/
def StrAt (w : World) (g : Nat) (zs : List (List UInt8)) : Prop := g < w.heap.size ∧ Go.Sort.Holds Go.Proofs.encStr w g 0 zs.toArray
theorem putRow_but (w : World) (g n : Nat) (d : Array (List UInt8)) (os : Array Obj) : ButS (· = g) w (Go.Sort.grow (Go.Sort.putRow Go.Proofs.encStr (Go.Sort.ahead w n) g 0 d) os) := by
  refine ⟨rfl, rfl, rfl, ?_, fun j hj hn => ?_⟩
  · simp [Go.Sort.grow, Go.Sort.putRow, Go.Sort.mapBlock, Go.Sort.ahead]
  · have hn' : ¬ j = g := hn
    show ((Go.Sort.putRow Go.Proofs.encStr (Go.Sort.ahead w n) g 0 d).heap ++ os)[j]? = w.heap[j]?
    have hs : j < (Go.Sort.putRow Go.Proofs.encStr (Go.Sort.ahead w n) g 0 d).heap.size := by simp [Go.Sort.putRow, Go.Sort.mapBlock, Go.Sort.ahead]; exact hj
    rw [Array.getElem?_append_left hs]
    simp only [Go.Sort.putRow, Go.Sort.mapBlock, Go.Sort.ahead, Array.getElem?_modify]
    rw [if_neg (Ne.symm hn')]
theorem grow_none (w : World) : Go.Sort.grow w #[] = w := by simp [Go.Sort.grow]
theorem putRow_size (w : World) (g n : Nat) (d : Array (List UInt8)) : (Go.Sort.putRow Go.Proofs.encStr (Go.Sort.ahead w n) g 0 d).heap.size = w.heap.size := by simp [Go.Sort.putRow, Go.Sort.mapBlock, Go.Sort.ahead]
theorem strAt_put {w : World} {g : Nat} {zs ys : List (List UInt8)} (h : StrAt w g zs) (hs : ys.length = zs.length) (n : Nat) (os : Array Obj) : StrAt (Go.Sort.grow (Go.Sort.putRow Go.Proofs.encStr (Go.Sort.ahead w n) g 0 ys.toArray) os) g ys := by
  refine ⟨Nat.lt_of_lt_of_le h.1 (putRow_but w g n ys.toArray os).size, ?_⟩
  refine Go.Sort.holds_grow _ _ _ _ _ _ (by rw [putRow_size]; exact h.1) ?_
  exact Go.Sort.holds_putRow _ (Go.Sort.ahead w n) g 0 zs.toArray ys.toArray h.2 (by simpa using hs)
theorem StrAt.first {w : World} {g : Nat} {zs ys : List (List UInt8)} (h : StrAt w g (zs ++ ys)) : StrAt w g zs := by
  refine ⟨h.1, fun j hj => ?_⟩
  have hj' : j < zs.length := by simpa using hj
  have := h.2 j (by simp; omega)
  rw [getElem!_pos (zs ++ ys).toArray j (by simp; omega)] at this
  rw [getElem!_pos zs.toArray j hj]
  simpa [List.getElem_append_left hj'] using this
theorem strAt_of {base : Nat} {w : World} {g c : Nat} {l : List ByteArray} (h : OwnsStr base w (some ⟨g, 0, none⟩) c l) (h0 : l ≠ []) : StrAt w g (l.map (·.data.toList)) := by
  have hr := h.reads sE
  rcases h.cases with ⟨k, _⟩ | ⟨g', cur, k, h2, h3, h4, h5, h6, h7⟩
  · cases k
  · injection k with k; injection k with k; subst k
    refine ⟨(Array.getElem?_eq_some_iff.1 h3).1, fun j hj => ?_⟩
    have hj' : j < l.length := by simpa using hj
    obtain ⟨b, off, e1, _, hc⟩ := ReadsStr.cell hr j hj'
    injection e1 with e1; injection e1 with e1 e2; subst e1 e2
    refine ⟨?_, by simp [World.frozen?, h3]⟩
    rw [hc, getElem!_pos _ j hj]
    simp
theorem ssort_any (g c : Nat) (zs : List (List UInt8)) (w : World) (h : StrAt w g zs) (hl : zs.length ≤ 140737488355328) :
    Calls Tryz.prog 224 #[.slice (some ⟨g, 0, none⟩) zs.length c] w fun e w' => e = .returned (.tuple #[]) ∧ StrAt w' g (zs.mergeSort fun x y => decide (x ≤ y)) ∧ ButS (· = g) w w' := by
  have hc := Any.slices_Sort_string Tryz.sortS g 0 c zs w h.2 h.1 (by omega)
  change Calls Tryz.prog 224 _ _ _ at hc
  refine hc.mono ?_
  rintro e w' ⟨rfl, n, os, rfl⟩
  exact ⟨rfl, strAt_put h (by simp) n os, putRow_but _ _ _ _ _⟩
theorem compact_len (zs : List (List UInt8)) : (Lib.compact zs).length ≤ zs.length := by
  have key : ∀ m, (Lib.compactUpTo zs.toArray m).length ≤ m := by
    intro m
    induction m with
    | zero => simp [Lib.compactUpTo]
    | succ m ih =>
      rw [Lib.compactUpTo_succ]
      split
      · rw [List.length_append, List.length_singleton]; omega
      · rw [List.length_append, List.length_nil]; omega
  exact key zs.length
theorem scompact_any (g c : Nat) (zs : List (List UInt8)) (w : World) (h : StrAt w g zs) (hl : zs.length ≤ 140737488355328) (hcap : zs.length ≤ c) :
    Calls Tryz.prog 198 #[.slice (some ⟨g, 0, none⟩) zs.length c] w fun e w' => e = .returned (.slice (some ⟨g, 0, none⟩) (Lib.compact zs).length c) ∧ StrAt w' g (Lib.compact zs) ∧ (Lib.compact zs).length ≤ zs.length ∧ ButS (· = g) w w' := by
  have hc := Any.slices_Compact_string Tryz.compactS g 0 c zs w h.2 (by omega) hcap
  change Calls Tryz.prog 198 _ _ _ at hc
  have hle : (Lib.compact zs).length ≤ zs.length := compact_len zs
  refine hc.mono ?_
  rintro e w' ⟨rfl, q, rfl⟩
  have hs : (Lib.compact zs ++ List.replicate (zs.length - (Lib.compact zs).length) ([] : List UInt8)).length = zs.length := by simp; omega
  have k := strAt_put h hs q #[]
  rw [grow_none] at k
  have k2 := putRow_but w g q (Lib.compact zs ++ List.replicate (zs.length - (Lib.compact zs).length) ([] : List UInt8)).toArray #[]
  rw [grow_none] at k2
  exact ⟨rfl, k.first, hle, k2⟩
theorem joinExtra : Builder.Extra Tryz.prog Tryz.join_ren where
  sizeBuilder := by kernel_rfl
  liesBuilder := by kernel_rfl
  t5 := by kernel_rfl
  a5 := fun w => by kernel_rfl
  z5 := fun w => by kernel_rfl
  v5 := fun w => by kernel_rfl
  infoByte := by kernel_rfl
  cellsByte := by kernel_rfl
  sizeByte := by kernel_rfl
  neB5 := by decide
theorem sjoin_any (g c : Nat) (zs : List (List UInt8)) (w : World) (h : StrAt w g zs) (hl : zs.length ≤ 140737488355328) (hcap : zs.length ≤ c) (hj : (Lib.join zs [44]).length ≤ 140737488355328) :
    Calls Tryz.prog 197 #[.slice (some ⟨g, 0, none⟩) zs.length c, .string ⟨#[44]⟩] w fun e w' => e = .returned (.string ⟨(Lib.join zs [44]).toArray⟩) ∧ Ext w w' := by
  have e1 : (zs.map fun z => (⟨z.toArray⟩ : ByteArray)).map (·.data.toList) = zs := by simp [List.map_map, Function.comp_def]
  have hc := Any.strings_Join Tryz.join joinExtra g 0 c (zs.map fun z => (⟨z.toArray⟩ : ByteArray)) ⟨#[44]⟩ w (fun j x hx => by
    rw [List.getElem?_map] at hx
    cases hz : zs[j]? with
    | none => rw [hz] at hx; cases hx
    | some z =>
      rw [hz] at hx
      simp only [Option.map_some, Option.some.injEq] at hx
      subst hx
      have hlt := (List.getElem?_eq_some_iff.1 hz).1
      have := (h.2 j (by simpa using hlt)).1
      rw [this, getElem!_pos zs.toArray j (by simpa using hlt)]
      have e2 : zs[j] = z := (List.getElem?_eq_some_iff.1 hz).2
      simp [e2]) h.1 (by simpa using hl) (by simpa using hcap) (by rw [e1]; exact hj)
  change Calls Tryz.prog 197 _ _ _ at hc
  rw [e1, List.length_map] at hc
  exact hc.mono (fun e w' ⟨a, b⟩ => ⟨a, b⟩)
end Go.Proofs.YtpfhmcdcmepfdaaGreatDoor


set_option linter.unusedVariables false
set_option linter.unusedSimpArgs false
namespace Go.Proofs.YtpfhmcdcmepfdaaGreatDoor
open Go.RowKit Go.Shelf
open Go.Proofs

def bsT (s : ByteArray) : List UInt8 := s.data.toList
theorem bsT_size (s : ByteArray) : (bsT s).length = s.size := by simp [bsT]
def sortBs (ls : List ByteArray) : List (List UInt8) := (ls.map bsT).mergeSort fun x y => decide (x ≤ y)
theorem sortBs_len (ls : List ByteArray) : (sortBs ls).length = ls.length := by simp [sortBs]
theorem sortBs_mem (ls : List ByteArray) (x : List UInt8) : x ∈ sortBs ls ↔ x ∈ ls.map bsT := by simp [sortBs, List.mem_mergeSort]
theorem sortBs_le (ls : List ByteArray) : (sortBs ls).Pairwise (· ≤ ·) := by
  have h := List.pairwise_mergeSort (le := fun x y : List UInt8 => decide (x ≤ y)) (fun a b c h1 h2 => by
    simp only [decide_eq_true_eq] at h1 h2 ⊢
    exact List.le_trans h1 h2) (fun a b => by
    rcases List.le_total a b with h | h <;> simp [h]) (ls.map bsT)
  exact h.imp (fun h => by simpa using h)
/-- Sorted, each once. -/
def setBs (ls : List ByteArray) : List (List UInt8) := Lib.compact (sortBs ls)
theorem setBs_asc (ls : List ByteArray) : Tg.Asc (setBs ls) := (Tg.compact_spec _ (sortBs_le ls)).1
theorem setBs_mem (ls : List ByteArray) (x : List UInt8) : x ∈ setBs ls ↔ x ∈ ls.map bsT := ((Tg.compact_spec _ (sortBs_le ls)).2 x).trans (sortBs_mem ls x)
theorem setBs_len (ls : List ByteArray) : (setBs ls).length ≤ ls.length := by
  have := compact_len (sortBs ls)
  rw [sortBs_len] at this
  exact this
theorem ssorted_any (bl : Nat) (A : Option Addr) (c : Nat) (ls : List ByteArray) (w : World) (h0 : ls ≠ []) (hlen : ls.length * 16 ≤ 140737488355328) (hbl : Boxed w bl 34 (.slice A ls.length c)) (hr : ReadsStr w w.heap.size A ls) :
    Calls Tryz.prog 199 #[.func (.func 225) #[] #[.pointer (some ⟨bl, 0, none⟩)]] w fun e w' =>
      ∃ g c', e = .returned (.slice (some ⟨g, 0, none⟩) (sortBs ls).length c') ∧ w.heap.size ≤ g ∧ (sortBs ls).length ≤ c' ∧ StrAt w' g (sortBs ls) ∧ Ext w w' := by
  have H := Lib.hid (scollect_ok bl A c ls w hlen hbl hr)
  have HL := sortBs_len ls
  have hle : ls.length ≤ 140737488355328 := by omega
  clear hbl hr hlen
  go_enter Tryz.func199, Tryz.ntmps199
  go_wp2_with (first
    | (go_at_call 223; refine H.out.mono ?_; rintro e w' ⟨A', c', rfl, ho, hx⟩)
    | (go_at_call 224; refine (show Hid _ from ?_).out))
  refine Lib.hid ?_
  rcases ho.cases with ⟨_, _, k⟩ | ⟨g, cur, rfl, h2, h3, h4, _, _, _⟩
  · exact absurd k h0
  have hS := strAt_of ho h0
  have hs := ssort_any g c' (ls.map (·.data.toList)) w' hS (by rw [List.length_map]; exact hle)
  rw [List.length_map] at hs
  have HX := Lib.hid hx
  clear ho hx H h3
  refine hs.mono ?_
  rintro e w2 ⟨rfl, hs2, hb2⟩
  have HB := Lib.hid hb2
  have HS2 := Lib.hid hs2
  clear hs hb2 hs2 hS
  go_wp2
  go_ret
  refine ⟨g, c', ?_, h2, ?_, HS2.out, ((ButS.of_ext HX.out).trans (HB.out.mono (S' := fun k => w.heap.size ≤ k) (fun k _ e => by subst e; exact h2))).toExt (fun k hk => by omega)⟩
  · rw [HL]; rfl
  · rw [HL]; exact h4
/-- No name among them. -/
def badB (ls : List ByteArray) : Bool := ls.any fun s => !Tg.nameB (bsT s)
theorem badB_step (ls : List ByteArray) (k : Nat) (h : k < ls.length) (hk : (ls.take k).any (fun s => !Tg.nameB (bsT s)) = false) (hn : Tg.nameB (bsT ls[k]) = true) : (ls.take (k + 1)).any (fun s => !Tg.nameB (bsT s)) = false := by
  rw [List.take_succ_eq_append_getElem h, List.any_append, hk]
  simp [hn]
theorem tags1_any (s : ByteArray) (w : World) : Calls Tryz.prog 196 #[.string s] w fun e w' => e = .returned (.bool (!Tg.nameB (bsT s))) ∧ Ext w w' := by
  have H := Lib.hid (name_any s)
  go_enter Tryz.func196, Tryz.ntmps196
  go_wp2_with (go_at_call 176; refine (H.out _).mono ?_; rintro e w' ⟨rfl, hxl⟩; obtain ⟨xl, rfl⟩ := hxl.asLater; clear hxl)
  go_ret
  exact ⟨rfl, (by (repeat (first | with_reducible exact Ext.refl _ | with_reducible exact Ext.refl _ | with_reducible refine Ext.drew ?_ | with_reducible refine Ext.drewN ?_ _ | with_reducible refine Ext.alloc ?_ _ | with_reducible refine Ext.onto ?_ _ | (with_reducible refine Ext.setCells ?_ ?_ _ _; rotate_left; focus (first | omega | (simp; done) | (simp; omega))) | (with_reducible refine Ext.setCell ?_ ?_ _; rotate_left; focus (first | omega | (simp; done) | (simp; omega))))))⟩
theorem sindexF_any (A : Option Addr) (c : Nat) (ls : List ByteArray) (w : World) (hlen : ls.length ≤ 140737488355328) (hr : ReadsStr w w.heap.size A ls) :
    Calls Tryz.prog 204 #[.slice A ls.length c, .func (.func 196) #[] #[]] w fun e w' => ∃ i : Int, e = .returned (.int .i64 i) ∧ (badB ls = true → 0 ≤ i) ∧ (badB ls = false → i = -1) ∧ Ext w w' := by
  have HR := Lib.hid hr
  clear hr
  go_enter Tryz.func204, Tryz.ntmps204
  go_wp2
  go_loopw [8] (fun i wr => ∃ k : Nat, k ≤ ls.length ∧ i = .int .i64 k ∧ Ext w wr ∧ Hid ((ls.take k).any (fun s => !Tg.nameB (bsT s)) = false)) (fun i _ => ls.length - (intOf i).toNat)
  case atStart => exact ⟨0, Nat.zero_le _, rfl, Ext.refl _, Lib.hid rfl⟩
  case round =>
    obtain ⟨k, hk, rfl, hx, HJ⟩ := hrel
    have HX := Lib.hid hx
    by_cases hlt : k < ls.length
    · obtain ⟨b, off, rfl, hb, c1⟩ := ReadsStr.cell (HR.out.on hx) k hlt
      have HT := Lib.hid (tags1_any ls[k])
      have HN := Lib.hid (badB_step ls k hlt HJ.out)
      have HM : Hid (Tg.nameB (bsT ls[k]) = false → badB ls = true) := Lib.hid (fun h => by
        rw [badB, List.any_eq_true]; exact ⟨ls[k], List.getElem_mem hlt, by simp [h]⟩)
      generalize ls[k] = s at *
      clear hx
      cases hn : Tg.nameB (bsT s) with
      | true =>
        rw [hn] at HT
        have HN2 := Lib.hid (HN.out hn)
        clear HN HM hn
        go_wp2_with (go_at_call 196; refine (HT.out _).mono ?_; rintro e w' ⟨rfl, hxl⟩; obtain ⟨xl, rfl⟩ := hxl.asLater; clear hxl)
        go_roundw
        case rel => exact ⟨k + 1, by omega, by go_num, (by (repeat (first | with_reducible exact HX.out | with_reducible exact Ext.refl _ | with_reducible refine Ext.drew ?_ | with_reducible refine Ext.drewN ?_ _ | with_reducible refine Ext.alloc ?_ _ | with_reducible refine Ext.onto ?_ _ | (with_reducible refine Ext.setCells ?_ ?_ _ _; rotate_left; focus (first | omega | (simp; done) | (simp; omega))) | (with_reducible refine Ext.setCell ?_ ?_ _; rotate_left; focus (first | omega | (simp; done) | (simp; omega)))))), HN2⟩
        case measure => simp [intOf]; omega
      | false =>
        rw [hn] at HT
        have HM2 := Lib.hid (HM.out hn)
        clear HN HM hn
        go_wp2_with (go_at_call 196; refine (HT.out _).mono ?_; rintro e w' ⟨rfl, hxl⟩; obtain ⟨xl, rfl⟩ := hxl.asLater; clear hxl)
        go_ret
        exact ⟨k, rfl, fun _ => by omega, fun h => (by rw [HM2.out] at h; cases h), (by (repeat (first | with_reducible exact HX.out | with_reducible exact Ext.refl _ | with_reducible refine Ext.drew ?_ | with_reducible refine Ext.drewN ?_ _ | with_reducible refine Ext.alloc ?_ _ | with_reducible refine Ext.onto ?_ _ | (with_reducible refine Ext.setCells ?_ ?_ _ _; rotate_left; focus (first | omega | (simp; done) | (simp; omega))) | (with_reducible refine Ext.setCell ?_ ?_ _; rotate_left; focus (first | omega | (simp; done) | (simp; omega))))))⟩
    · have HQ : Hid (badB ls = false) := Lib.hid (by have h := HJ.out; rwa [List.take_of_length_le (by omega)] at h)
      go_wp2
      go_ret
      exact ⟨-1, rfl, fun h => (by rw [HQ.out] at h; cases h), fun _ => rfl, HX.out⟩
theorem scontainsF_any (A : Option Addr) (c : Nat) (ls : List ByteArray) (w : World) (hlen : ls.length ≤ 140737488355328) (hr : ReadsStr w w.heap.size A ls) :
    Calls Tryz.prog 177 #[.slice A ls.length c, .func (.func 196) #[] #[]] w fun e w' => e = .returned (.bool (badB ls)) ∧ Ext w w' := by
  have H := Lib.hid (sindexF_any A c ls w hlen hr)
  clear hr
  cases hb : badB ls with
  | true =>
    rw [hb] at H
    go_enter Tryz.func177, Tryz.ntmps177
    go_wp2_with (go_at_call 204; refine H.out.mono ?_; rintro e w' ⟨i, rfl, h1, _, hx⟩; have h2 := h1 rfl; obtain ⟨xl, rfl⟩ := hx.asLater; clear hx h1)
    go_ret
    exact ⟨ret_bool (by first | simp; done | (simp; omega)), (by (repeat (first | with_reducible exact Ext.refl _ | with_reducible exact Ext.refl _ | with_reducible refine Ext.drew ?_ | with_reducible refine Ext.drewN ?_ _ | with_reducible refine Ext.alloc ?_ _ | with_reducible refine Ext.onto ?_ _ | (with_reducible refine Ext.setCells ?_ ?_ _ _; rotate_left; focus (first | omega | (simp; done) | (simp; omega))) | (with_reducible refine Ext.setCell ?_ ?_ _; rotate_left; focus (first | omega | (simp; done) | (simp; omega))))))⟩
  | false =>
    rw [hb] at H
    go_enter Tryz.func177, Tryz.ntmps177
    go_wp2_with (go_at_call 204; refine H.out.mono ?_; rintro e w' ⟨i, rfl, _, h1, hx⟩; have h2 := h1 rfl; subst h2; obtain ⟨xl, rfl⟩ := hx.asLater; clear hx h1)
    go_ret
    exact ⟨rfl, (by (repeat (first | with_reducible exact Ext.refl _ | with_reducible exact Ext.refl _ | with_reducible refine Ext.drew ?_ | with_reducible refine Ext.drewN ?_ _ | with_reducible refine Ext.alloc ?_ _ | with_reducible refine Ext.onto ?_ _ | (with_reducible refine Ext.setCells ?_ ?_ _ _; rotate_left; focus (first | omega | (simp; done) | (simp; omega))) | (with_reducible refine Ext.setCell ?_ ?_ _; rotate_left; focus (first | omega | (simp; done) | (simp; omega))))))⟩
/-- The text of tags. -/
def tagTx (ls : List ByteArray) : List UInt8 := Lib.join (setBs ls) [44]
def tagN (ls : List ByteArray) : Int := if badB ls then 1 else if 4096 < (tagTx ls).length then 2 else 0
def tagS (ls : List ByteArray) : List UInt8 := if tagN ls = 0 then tagTx ls else []
theorem join_le (m : Nat) : ∀ l : List (List UInt8), (∀ p ∈ l, p.length ≤ m) → (Lib.join l [44]).length ≤ l.length * (m + 1)
  | [], _ => by simp [Lib.join, Lib.joinTail]
  | [x], h => by rw [Lib.join_one]; have := h x (by simp); simp; omega
  | x :: y :: r, h => by
    rw [Tg.join_two, List.length_append, List.length_cons, List.length_cons]
    have h1 := h x (by simp)
    have h2 := join_le m (y :: r) (fun p hp => h p (by simp at hp ⊢; exact .inr hp))
    rw [List.length_cons] at h2 ⊢
    rw [Nat.add_mul (r.length + 1) 1]
    omega
theorem tagTx_len (ls : List ByteArray) (h : badB ls = false) : (tagTx ls).length ≤ ls.length * 65 := by
  have h1 := join_le 64 (setBs ls) (fun p hp => by
    rw [setBs_mem, List.mem_map] at hp
    obtain ⟨s, hs, rfl⟩ := hp
    have h2 : Tg.nameB (bsT s) = true := by
      rw [badB, List.any_eq_false] at h
      have := h s hs
      simpa using this
    simp only [Tg.nameB, Tg.wordB, Bool.and_eq_true, decide_eq_true_eq] at h2
    exact h2.1.1.1.1.2)
  have h2 := setBs_len ls
  have h3 := Nat.mul_le_mul_right 65 h2
  exact Nat.le_trans h1 h3
set_option maxRecDepth 100000 in
set_option maxHeartbeats 1000000 in
theorem ptags_any (A : Option Addr) (c : Nat) (ls : List ByteArray) (w : World) (h0 : ls ≠ []) (hlen : ls.length ≤ 1000000) (hr : ReadsStr w w.heap.size A ls) :
    Calls Tryz.prog 169 #[.slice A ls.length c] w fun e w' => e = .returned (.tuple #[.string ⟨(tagS ls).toArray⟩, .int .i64 (tagN ls)]) ∧ Ext w w' := by
  have HC := Lib.hid (fun W (hx : Ext w W) => scontainsF_any A c ls W (by omega) (hr.on hx))
  have HR := Lib.hid hr
  have h00 := Lib.hid h0
  clear hr h0
  cases hb : badB ls with
  | true =>
    rw [hb] at HC
    have HN : Hid (tagN ls = 1) := Lib.hid (by rw [tagN, hb]; rfl)
    have HS : Hid (tagS ls = []) := Lib.hid (by rw [tagS, HN.out]; rfl)
    clear hb
    go_enter Tryz.func169, Tryz.ntmps169
    go_wp2_with (go_at_call 177; refine (HC.out _ (Ext.refl _)).mono ?_; rintro e w' ⟨rfl, hxl⟩; obtain ⟨xl, rfl⟩ := hxl.asLater; clear hxl)
    rw [HN.out, HS.out]
    refine bodyPost_ret (v := .tuple #[.string ⟨([] : List UInt8).toArray⟩, .int .i64 1]) ?_ rfl ⟨rfl, (by (repeat (first | with_reducible exact Ext.refl _ | with_reducible exact Ext.refl _ | with_reducible refine Ext.drew ?_ | with_reducible refine Ext.drewN ?_ _ | with_reducible refine Ext.alloc ?_ _ | with_reducible refine Ext.onto ?_ _ | (with_reducible refine Ext.setCells ?_ ?_ _ _; rotate_left; focus (first | omega | (simp; done) | (simp; omega))) | (with_reducible refine Ext.setCell ?_ ?_ _; rotate_left; focus (first | omega | (simp; done) | (simp; omega))))))⟩
    simp [results, Tryz.results169, go_sem, ↓IntWalk.iteOmega]
  | false =>
    rw [hb] at HC
    have hT := tagTx_len ls hb
    have HTx : Hid (Lib.join (setBs ls) [44] = tagTx ls) := Lib.hid rfl
    have HN : Hid (tagN ls = if 4096 < (tagTx ls).length then 2 else 0) := Lib.hid (by rw [tagN, hb]; rfl)
    have HS : Hid (tagS ls = if tagN ls = 0 then tagTx ls else []) := Lib.hid rfl
    have hl1 := setBs_len ls
    have hl2 := Nat.le_of_eq (sortBs_len ls)
    clear hb
    go_enter Tryz.func169, Tryz.ntmps169
    go_wp2_with (first
      | (go_at_call 177; refine (HC.out _ (Ext.refl _)).mono ?_; rintro e w' ⟨rfl, hxl⟩; obtain ⟨xl, rfl⟩ := hxl.asLater; clear hxl)
      | (go_at_call 200; refine (svalues_any _ _ _ _).mono ?_; rintro e w' ⟨rfl, rfl⟩)
      | (go_at_call 199; refine (show Hid _ from ?_).out))
    refine Lib.hid ?_
    have hx1 : Ext w ((later w xl).alloc (.cells #[.slice A ls.length c] 34)) := (ext_later _ _).alloc _
    have hbx : Boxed ((later w xl).alloc (.cells #[.slice A ls.length c] 34)) (w.heap.size + xl.n) 34 (.slice A ls.length c) := by
      have h := Boxed.new (later w xl) 34 (.slice A ls.length c)
      rwa [later_size] at h
    have hs := ssorted_any _ A c ls _ h00.out (by omega) hbx (HR.out.on hx1)
    refine hs.mono ?_
    clear hs hbx
    rintro e w2 ⟨g, c', rfl, hg, hc, hS, hx2⟩
    have HX2 := Lib.hid (hx1.trans hx2)
    have hg0 : w.heap.size ≤ g := Nat.le_trans hx1.size hg
    have hcm := scompact_any g c' (sortBs ls) w2 hS (by omega) hc
    clear hx1 hx2 hg
    go_wp2_with (go_at_call 198; refine (show Hid _ from ?_).out)
    refine Lib.hid ?_
    refine hcm.mono ?_
    clear hcm hS
    rintro e w3 ⟨rfl, hS3, hl3, hb3⟩
    have HB3 := Lib.hid hb3
    have hj := sjoin_any g c' (setBs ls) w3 hS3 (by omega) (by show (Lib.compact (sortBs ls)).length ≤ _; omega) (by rw [HTx.out]; omega)
    rw [HTx.out] at hj
    have HJ := Lib.hid hj
    clear hj hb3 hS3
    have HX3 : Hid (Ext w w3) := Lib.hid (((ButS.of_ext HX2.out).trans (HB3.out.mono (S' := fun k => w.heap.size ≤ k) (fun k _ e => by subst e; exact hg0))).toExt (fun k hk => by omega))
    clear HB3 HX2
    have hz : ((⟨(tagTx ls).toArray⟩ : ByteArray)).size = (tagTx ls).length := by simp [ByteArray.size]
    by_cases h4 : 4096 < (tagTx ls).length
    · rw [if_pos h4] at HN
      have HS2 : Hid (tagS ls = []) := Lib.hid (by rw [HS.out, HN.out]; rfl)
      go_wp2_with (go_at_call 197; refine (show Hid _ from ?_).out)
      refine Lib.hid ?_
      refine HJ.out.mono ?_
      rintro e w' ⟨rfl, hxl⟩; obtain ⟨xl, rfl⟩ := hxl.asLater; clear hxl
      go_wp2
      rw [HN.out, HS2.out]
      refine bodyPost_ret (v := .tuple #[.string ⟨([] : List UInt8).toArray⟩, .int .i64 2]) ?_ rfl ⟨rfl, (by (repeat (first | with_reducible exact HX3.out | with_reducible exact Ext.refl _ | with_reducible refine Ext.drew ?_ | with_reducible refine Ext.drewN ?_ _ | with_reducible refine Ext.alloc ?_ _ | with_reducible refine Ext.onto ?_ _ | (with_reducible refine Ext.setCells ?_ ?_ _ _; rotate_left; focus (first | omega | (simp; done) | (simp; omega))) | (with_reducible refine Ext.setCell ?_ ?_ _; rotate_left; focus (first | omega | (simp; done) | (simp; omega))))))⟩
      simp [results, Tryz.results169, go_sem, ↓IntWalk.iteOmega]
    · rw [if_neg h4] at HN
      have HS2 : Hid (tagS ls = tagTx ls) := Lib.hid (by rw [HS.out, HN.out]; rfl)
      go_wp2_with (go_at_call 197; refine (show Hid _ from ?_).out)
      refine Lib.hid ?_
      refine HJ.out.mono ?_
      rintro e w' ⟨rfl, hxl⟩; obtain ⟨xl, rfl⟩ := hxl.asLater; clear hxl
      go_wp2
      rw [HN.out, HS2.out]
      refine bodyPost_ret (v := .tuple #[.string ⟨(tagTx ls).toArray⟩, .int .i64 0]) ?_ rfl ⟨rfl, (by (repeat (first | with_reducible exact HX3.out | with_reducible exact Ext.refl _ | with_reducible refine Ext.drew ?_ | with_reducible refine Ext.drewN ?_ _ | with_reducible refine Ext.alloc ?_ _ | with_reducible refine Ext.onto ?_ _ | (with_reducible refine Ext.setCells ?_ ?_ _ _; rotate_left; focus (first | omega | (simp; done) | (simp; omega))) | (with_reducible refine Ext.setCell ?_ ?_ _; rotate_left; focus (first | omega | (simp; done) | (simp; omega))))))⟩
      simp [results, Tryz.results169, go_sem, ↓IntWalk.iteOmega]
end Go.Proofs.YtpfhmcdcmepfdaaGreatDoor


set_option linter.unusedVariables false
set_option linter.unusedSimpArgs false
namespace Go.Proofs.YtpfhmcdcmepfdaaGreatDoor
open Go.RowKit Go.Shelf
open Go.Proofs

theorem join_length (l : List (List UInt8)) : l.length ≤ (Lib.join l [44]).length + 1 := by
  match l with
  | [] => simp
  | [x] => simp
  | x :: y :: r =>
    rw [Tg.join_two, List.length_append, List.length_cons]
    have := join_length (y :: r)
    simp only [List.length_cons] at this ⊢
    omega
theorem gensplit_any (s : ByteArray) (w : World) (hs : s.size ≤ 900000) :
    Calls Tryz.prog 195 #[.string s, .string ⟨#[44]⟩, .int .i64 0, .int .i64 (-1)] w fun e w' =>
      ∃ ls : List ByteArray, e = .returned (.slice (some ⟨w.heap.size, 0, none⟩) ls.length ls.length) ∧ Tg.Cut 44 (bsT s) (ls.map bsT) ∧ ReadsStr w' w'.heap.size (some ⟨w.heap.size, 0, none⟩) ls ∧ ls ≠ [] ∧ ls.length ≤ s.size + 1 ∧ Ext w w' := by
  have h1 : 1 ≤ (⟨#[44]⟩ : ByteArray).size := by decide
  have hle := Lib.countB_le ⟨#[44]⟩ h1 s.size s (Nat.le_refl _)
  have hlen := Lib.splitB_all ⟨#[44]⟩ h1 0 _ s rfl
  have c := Any.strings_genSplit_core Tryz.genSplit (by kernel_rfl) s ⟨#[44]⟩ 0 (-1) (Lib.countB s ⟨#[44]⟩ + 1) w (by omega) h1 (Nat.zero_le _)
    (fun x c hx => (Any.strings_Index_one { Tryz.genSplit with } x 44 _).mono fun e w' ⟨he, hw⟩ => ⟨by
      rw [he]
      show _ = Ending.returned (Value.int .i64 (Lib.index x.data.toList [44]))
      rw [Lib.index_one], hw⟩)
    ((Any.strings_Count_one { Tryz.genSplit with } s 44 w).mono fun e w' ⟨he, hw⟩ => ⟨by
      rw [he]
      show _ = Ending.returned (Value.int .i64 ((Lib.count s.data.toList [44] : Nat) : Int))
      rw [Lib.count_one]
      rfl, hw⟩) (by decide) (by decide) (by rw [if_pos (by decide)]; omega)
  rw [Nat.add_sub_cancel] at c
  change Calls Tryz.prog 195 _ _ _ at c
  have hcut : Tg.Cut 44 (bsT s) ((Lib.splitB ⟨#[44]⟩ 0 (Lib.countB s ⟨#[44]⟩) s).map bsT) := by
    have e : (Lib.splitB ⟨#[44]⟩ 0 (Lib.countB s ⟨#[44]⟩) s).map bsT = Lib.splitK [44] 0 (Lib.countB s ⟨#[44]⟩) s.data.toList := Lib.splitB_data _ _ _ _
    rw [e]
    refine Tg.splitK_cut 44 _ _ ?_
    show _ ≤ Lib.count s.data.toList [44]
    rw [Lib.count_one]
    exact Nat.le_refl _
  refine c.mono ?_
  rintro e w' ⟨rfl, rfl⟩
  rw [hlen]
  have e2 : Lib.cellsOf (Lib.splitB ⟨#[44]⟩ 0 (Lib.countB s ⟨#[44]⟩) s) (Lib.countB s ⟨#[44]⟩ + 1) = ((Lib.splitB ⟨#[44]⟩ 0 (Lib.countB s ⟨#[44]⟩) s).map Value.string).toArray := by rw [← hlen]; exact Lib.cellsOf_full _
  rw [e2]
  refine ⟨Lib.splitB ⟨#[44]⟩ 0 (Lib.countB s ⟨#[44]⟩) s, by rw [hlen], hcut, ?_, ?_, by rw [hlen]; omega, (Ext.refl w).alloc _⟩
  · intro _
    refine ⟨w.heap.size, 0, rfl, by simp, fun i hi j v hv => ?_⟩
    have hj : j = 0 := by
      have := (List.getElem?_eq_some_iff.1 hv).1
      simp [encStr] at this
      exact this
    subst hj
    simp only [encStr, List.getElem?_cons_zero, Option.some.injEq] at hv
    subst hv
    rw [World.cell?_alloc_at _ _ _ _ rfl]
    simp [hi]
  · intro e
    rw [e] at hlen
    simp at hlen
theorem psplit_any (s : ByteArray) (w : World) (hs : s.size ≤ 900000) :
    Calls Tryz.prog 168 #[.string s, .string ⟨#[44]⟩] w fun e w' =>
      ∃ (A : Option Addr) (ls : List ByteArray), e = .returned (.slice A ls.length ls.length) ∧ Tg.Cut 44 (bsT s) (ls.map bsT) ∧ ReadsStr w' w'.heap.size A ls ∧ ls ≠ [] ∧ ls.length ≤ s.size + 1 ∧ Ext w w' := by
  have H := Lib.hid (gensplit_any s w hs)
  go_enter Tryz.func168, Tryz.ntmps168
  go_wp2_with (go_at_call 195; refine H.out.mono ?_; rintro e w' ⟨ls, rfl, h1, h2, h3, h4, h5⟩)
  go_ret
  exact ⟨_, ls, rfl, h1, h2, h3, h4, h5⟩
/-- What Split says: no error just of a tag list. -/
theorem tagN_bad {s : ByteArray} {ls : List ByteArray} (hc : Tg.Cut 44 (bsT s) (ls.map bsT)) (h0 : bsT s ≠ []) (hb : badB ls = true) : Tg.tagsB (bsT s) = false := by
  rw [badB, List.any_eq_true] at hb
  obtain ⟨p, hp, hn⟩ := hb
  exact Tg.tags_no hc h0 (p := bsT p) (List.mem_map_of_mem hp) (by simpa using hn)
theorem tagN_ok {s : ByteArray} {ls : List ByteArray} (hc : Tg.Cut 44 (bsT s) (ls.map bsT)) (h0 : bsT s ≠ []) : Tg.tagsB (bsT s) = (decide (tagN ls = 0) && decide (tagS ls = bsT s)) := by
  cases hb : badB ls with
  | true =>
    rw [tagN_bad hc h0 hb]
    have : tagN ls = 1 := by rw [tagN, hb]; rfl
    rw [this]
    rfl
  | false =>
    have hn : ∀ p ∈ ls.map bsT, Tg.nameB p = true := fun p hp => by
      rw [List.mem_map] at hp
      obtain ⟨q, hq, rfl⟩ := hp
      rw [badB, List.any_eq_false] at hb
      have := hb q hq
      simpa using this
    by_cases h4 : 4096 < (tagTx ls).length
    · have e : tagN ls = 2 := by rw [tagN, hb, if_neg (by decide), if_pos h4]
      rw [e]
      by_cases hl : 4096 < (bsT s).length
      · rw [Tg.tags_long hl]; rfl
      · rw [Tg.tags_of hc h0 hn (setBs_asc ls) (setBs_mem ls) (by omega)]
        have : ¬ Lib.join (setBs ls) [44] = bsT s := fun k => by
          have k2 : (tagTx ls).length = (bsT s).length := congrArg List.length k
          omega
        simp [this]
    · have e : tagN ls = 0 := by rw [tagN, hb, if_neg (by decide), if_neg h4]
      have e2 : tagS ls = tagTx ls := by rw [tagS, e]; rfl
      rw [e, e2]
      by_cases hl : 4096 < (bsT s).length
      · rw [Tg.tags_long hl]
        have : ¬ tagTx ls = bsT s := fun k => by rw [k] at h4; exact h4 hl
        simp [this]
      · rw [Tg.tags_of hc h0 hn (setBs_asc ls) (setBs_mem ls) (by omega)]
        simp only [tagTx, decide_true, Bool.true_and]
        exact decide_eq_decide.2 Iff.rfl
theorem str_eq_bs (a : List UInt8) (s : ByteArray) : (a == s.toList) = decide (a = bsT s) := by
  rw [Lib.toList_data]
  rw [Bool.eq_iff_iff, beq_iff_eq]
  exact ⟨fun h => decide_eq_true h, fun h => of_decide_eq_true h⟩
def ListIs (s : ByteArray) (base : Nat) (e : Ending) (w' : World) : Prop := ∃ (A : Option Addr) (c : Nat) (ls : List ByteArray), e = .returned (.tuple #[.slice A ls.length c, .int .i64 (if Tg.tagsB (bsT s) then 0 else 3)]) ∧ ReadsStr w' w'.heap.size A ls ∧
  (Tg.tagsB (bsT s) = true → s.size = 0 ∧ ls = [] ∨ Tg.Cut 44 (bsT s) (ls.map bsT)) ∧ (Tg.tagsB (bsT s) = false → ls = []) ∧ ls.length ≤ s.size + 1
set_option maxHeartbeats 1000000 in
theorem asplit_any (s : ByteArray) (w : World) (hs : s.size ≤ 900000) :
    Calls Tryz.prog 140 #[.string s] w fun e w' => ListIs s w.heap.size e w' ∧ Ext w w' := by
  by_cases h0 : s.size = 0
  · have hb : bsT s = [] := List.eq_nil_of_length_eq_zero ((bsT_size s).trans h0)
    have HT : Hid (Tg.tagsB (bsT s) = true) := Lib.hid (by rw [hb]; exact Tg.tags_nil)
    have e : s = ByteArray.empty := by
      apply ByteArray.ext
      apply Array.toList_inj.1
      exact hb
    have H0 := Lib.hid h0
    subst e
    clear hb h0
    go_enter Tryz.func140, Tryz.ntmps140
    go_wp2
    refine bodyPost_ret (v := .tuple #[.slice none 0 0, .int .i64 0]) ?_ rfl ⟨⟨none, 0, [], by rw [HT.out]; rfl, Reads.nil _ _ _ _ _, fun _ => .inl ⟨H0.out, rfl⟩, fun _ => rfl, by simp⟩, (by (repeat (first | with_reducible exact Ext.refl _ | with_reducible exact Ext.refl _ | with_reducible refine Ext.drew ?_ | with_reducible refine Ext.drewN ?_ _ | with_reducible refine Ext.alloc ?_ _ | with_reducible refine Ext.onto ?_ _ | (with_reducible refine Ext.setCells ?_ ?_ _ _; rotate_left; focus (first | omega | (simp; done) | (simp; omega))) | (with_reducible refine Ext.setCell ?_ ?_ _; rotate_left; focus (first | omega | (simp; done) | (simp; omega))))))⟩
    simp [results, Tryz.results140, go_sem, ↓IntWalk.iteOmega]
  · have hb : bsT s ≠ [] := fun e => h0 (by rw [← bsT_size, e]; rfl)
    have hne : (s.toList == []) = false := by rw [Lib.toList_data, beq_eq_false_iff_ne]; exact hb
    have hne2 : s.toList.isEmpty = false := by rw [Lib.toList_data]; cases h : s.data.toList with
      | nil => exact absurd h hb
      | cons _ _ => rfl
    have HS := Lib.hid (psplit_any s w hs)
    have HB := Lib.hid hb
    clear h0 hb
    go_enter Tryz.func140, Tryz.ntmps140
    go_wp2_with (first
      | (go_at_call 168; refine (show Hid _ from ?_).out)
      | (go_at_call 169; refine (show Hid _ from ?_).out))
    refine Lib.hid ?_
    refine HS.out.mono ?_
    rintro e w1 ⟨A, ls, rfl, h1, h2, h3, h4, h5⟩
    have HC := Lib.hid h1
    have HR := Lib.hid h2
    have HX := Lib.hid h5
    have HT := Lib.hid (tagN_ok h1 HB.out)
    have HP := Lib.hid (fun W (hx : Ext w1 W) => ptags_any A ls.length ls W h3 (by omega) (h2.on hx))
    have HQ := Lib.hid (str_eq_bs (tagS ls) s)
    have HL := Lib.hid h4
    clear h1 h2 h3 h5 HS h4
    generalize tagN ls = n at *
    generalize tagS ls = tx at *
    go_wp2_with (first
      | (go_at_call 169; refine (show Hid _ from ?_).out))
    refine Lib.hid ?_
    refine (HP.out _ (Ext.refl _)).mono ?_
    rintro e w' ⟨rfl, hxl⟩; obtain ⟨xl, rfl⟩ := hxl.asLater; clear hxl
    by_cases hn : n = 0
    · subst hn
      by_cases hq : tx = bsT s
      · have HQ2 : (tx == s.toList) = true := by rw [HQ.out]; simpa using hq
        have HT2 : Hid (Tg.tagsB (bsT s) = true) := Lib.hid (by rw [HT.out]; simpa using hq)
        clear hq HT
        go_wp2
        refine bodyPost_ret (v := .tuple #[.slice A ls.length ls.length, .int .i64 0]) ?_ rfl ⟨⟨_, _, ls, by rw [HT2.out]; rfl, HR.out.on (by (repeat (first | with_reducible exact Ext.refl _ | with_reducible exact Ext.refl _ | with_reducible refine Ext.drew ?_ | with_reducible refine Ext.drewN ?_ _ | with_reducible refine Ext.alloc ?_ _ | with_reducible refine Ext.onto ?_ _ | (with_reducible refine Ext.setCells ?_ ?_ _ _; rotate_left; focus (first | omega | (simp; done) | (simp; omega))) | (with_reducible refine Ext.setCell ?_ ?_ _; rotate_left; focus (first | omega | (simp; done) | (simp; omega)))))), fun _ => .inr HC.out, fun h => (by rw [HT2.out] at h; cases h), HL.out⟩, (by (repeat (first | with_reducible exact HX.out | with_reducible exact Ext.refl _ | with_reducible refine Ext.drew ?_ | with_reducible refine Ext.drewN ?_ _ | with_reducible refine Ext.alloc ?_ _ | with_reducible refine Ext.onto ?_ _ | (with_reducible refine Ext.setCells ?_ ?_ _ _; rotate_left; focus (first | omega | (simp; done) | (simp; omega))) | (with_reducible refine Ext.setCell ?_ ?_ _; rotate_left; focus (first | omega | (simp; done) | (simp; omega))))))⟩
        simp [results, Tryz.results140, go_sem, ↓IntWalk.iteOmega]
      · have HQ2 : (tx == s.toList) = false := by rw [HQ.out]; simpa using hq
        have HT2 : Hid (Tg.tagsB (bsT s) = false) := Lib.hid (by rw [HT.out]; simpa using hq)
        clear hq HT
        go_wp2
        refine bodyPost_ret (v := .tuple #[.slice none 0 0, .int .i64 3]) ?_ rfl ⟨⟨none, 0, [], by rw [HT2.out]; rfl, Reads.nil _ _ _ _ _, fun h => (by rw [HT2.out] at h; cases h), fun _ => rfl, by simp⟩, (by (repeat (first | with_reducible exact HX.out | with_reducible exact Ext.refl _ | with_reducible refine Ext.drew ?_ | with_reducible refine Ext.drewN ?_ _ | with_reducible refine Ext.alloc ?_ _ | with_reducible refine Ext.onto ?_ _ | (with_reducible refine Ext.setCells ?_ ?_ _ _; rotate_left; focus (first | omega | (simp; done) | (simp; omega))) | (with_reducible refine Ext.setCell ?_ ?_ _; rotate_left; focus (first | omega | (simp; done) | (simp; omega))))))⟩
        simp [results, Tryz.results140, go_sem, ↓IntWalk.iteOmega]
    · have HT2 : Hid (Tg.tagsB (bsT s) = false) := Lib.hid (by rw [HT.out]; simp [hn])
      have hn1 : (n == 0) = false := by simpa using hn
      clear HT
      go_wp2
      refine bodyPost_ret (v := .tuple #[.slice none 0 0, .int .i64 3]) ?_ rfl ⟨⟨none, 0, [], by rw [HT2.out]; rfl, Reads.nil _ _ _ _ _, fun h => (by rw [HT2.out] at h; cases h), fun _ => rfl, by simp⟩, (by (repeat (first | with_reducible exact HX.out | with_reducible exact Ext.refl _ | with_reducible refine Ext.drew ?_ | with_reducible refine Ext.drewN ?_ _ | with_reducible refine Ext.alloc ?_ _ | with_reducible refine Ext.onto ?_ _ | (with_reducible refine Ext.setCells ?_ ?_ _ _; rotate_left; focus (first | omega | (simp; done) | (simp; omega))) | (with_reducible refine Ext.setCell ?_ ?_ _; rotate_left; focus (first | omega | (simp; done) | (simp; omega))))))⟩
      simp [results, Tryz.results140, go_sem, ↓IntWalk.iteOmega]
noncomputable def listedB (s : ByteArray) : Bool := Tg.tagsB (bsT s)
theorem olisted_any (s : ByteArray) (w : World) (hs : s.size ≤ 900000) :
    Calls Tryz.prog 96 #[.string s] w fun e w' => e = .returned (.bool (listedB s)) ∧ Ext w w' := by
  have H := Lib.hid (asplit_any s w hs)
  cases ht : Tg.tagsB (bsT s) with
  | true =>
    have HT := Lib.hid ht
    have HL : Hid (listedB s = true) := Lib.hid ht
    clear ht
    go_enter Tryz.func96, Tryz.ntmps96
    go_wp2_with (go_at_call 140; refine H.out.mono ?_; rintro e w' ⟨⟨A, c, ls, rfl, _, _, _, _⟩, hx⟩; rw [HT.out]; obtain ⟨xl, rfl⟩ := hx.asLater; clear hx)
    go_ret
    exact ⟨ret_bool HL.out.symm, (by (repeat (first | with_reducible exact Ext.refl _ | with_reducible exact Ext.refl _ | with_reducible refine Ext.drew ?_ | with_reducible refine Ext.drewN ?_ _ | with_reducible refine Ext.alloc ?_ _ | with_reducible refine Ext.onto ?_ _ | (with_reducible refine Ext.setCells ?_ ?_ _ _; rotate_left; focus (first | omega | (simp; done) | (simp; omega))) | (with_reducible refine Ext.setCell ?_ ?_ _; rotate_left; focus (first | omega | (simp; done) | (simp; omega))))))⟩
  | false =>
    have HT := Lib.hid ht
    have HL : Hid (listedB s = false) := Lib.hid ht
    clear ht
    go_enter Tryz.func96, Tryz.ntmps96
    go_wp2_with (go_at_call 140; refine H.out.mono ?_; rintro e w' ⟨⟨A, c, ls, rfl, _, _, _, _⟩, hx⟩; rw [HT.out]; obtain ⟨xl, rfl⟩ := hx.asLater; clear hx)
    go_ret
    exact ⟨ret_bool HL.out.symm, (by (repeat (first | with_reducible exact Ext.refl _ | with_reducible exact Ext.refl _ | with_reducible refine Ext.drew ?_ | with_reducible refine Ext.drewN ?_ _ | with_reducible refine Ext.alloc ?_ _ | with_reducible refine Ext.onto ?_ _ | (with_reducible refine Ext.setCells ?_ ?_ _ _; rotate_left; focus (first | omega | (simp; done) | (simp; omega))) | (with_reducible refine Ext.setCell ?_ ?_ _; rotate_left; focus (first | omega | (simp; done) | (simp; omega))))))⟩
end Go.Proofs.YtpfhmcdcmepfdaaGreatDoor


set_option linter.unusedVariables false
set_option linter.unusedSimpArgs false
namespace Go.Proofs.YtpfhmcdcmepfdaaGreatDoor
open Go.RowKit Go.Shelf
open Go.Proofs

theorem bsT_ext (s : ByteArray) (p q : Nat) : bsT (s.extract p q) = ((bsT s).drop p).take (q - p) := by
  unfold bsT
  rw [Lib.extract_eq]
theorem bsT_snoc (s : ByteArray) (p k : Nat) (hp : p ≤ k) (hk : k < s.size) : bsT (s.extract p (k + 1)) = bsT (s.extract p k) ++ [s[k]] := by
  have hl : k < (bsT s).length := by rw [bsT_size]; exact hk
  rw [bsT_ext, bsT_ext, show k + 1 - p = (k - p) + 1 by omega, List.take_succ_eq_append_getElem (by rw [List.length_drop]; omega)]
  congr 2
  rw [List.getElem_drop]
  simp [show p + (k - p) = k by omega, bsT, ByteArray.getElem_eq_getElem_data]
theorem bsT_drop (s : ByteArray) (k : Nat) (hk : k < s.size) : (bsT s).drop k = s[k] :: (bsT s).drop (k + 1) := by
  have hl : k < (bsT s).length := by rw [bsT_size]; exact hk
  rw [List.drop_eq_getElem_cons hl]
  simp [bsT, ByteArray.getElem_eq_getElem_data]
def SplRel (w : World) (sep : UInt8) (s : ByteArray) (o f i : Value) (wr : World) : Prop := ∃ (A : Option Addr) (c : Nat) (out : List ByteArray) (p k : Nat), o = .slice A out.length c ∧ f = .int .i64 p ∧ i = .int .i64 k ∧ p ≤ k ∧ k ≤ s.size ∧ out.length ≤ k ∧
  Hid (Tg.Under sep (bsT s) (out.map bsT) (bsT (s.extract p k)) ((bsT s).drop k)) ∧ Hid (OwnsStr w.heap.size wr A c out) ∧ Hid (Ext w wr)
set_option maxHeartbeats 1000000 in
theorem rsplit_any (s : ByteArray) (sep : UInt8) (w : World) (hs : s.size ≤ 900000) :
    Calls Tryz.prog 183 #[.string s, .int .u8 sep.toNat] w fun e w' => ∃ A c out, e = .returned (.slice A out.length c) ∧ Tg.Cut sep (bsT s) (out.map bsT) ∧ OwnsStr w.heap.size w' A c out ∧ out.length ≤ s.size + 1 ∧ Ext w w' := by
  have hsb := sep.toNat_lt
  go_enter Tryz.func183, Tryz.ntmps183
  go_wp2
  go_loopw [5, 6, 7] (SplRel w sep s) (fun _ _ i _ => s.size - (intOf i).toNat)
  case atStart => exact ⟨none, 0, [], 0, 0, rfl, rfl, rfl, Nat.le_refl _, Nat.zero_le _, Nat.le_refl _, Lib.hid (by rw [bsT_ext]; simpa using Tg.Under.start sep (bsT s)), Lib.hid (Owns.nil _ _ _ _ _), Lib.hid (Ext.refl _)⟩
  case round =>
    obtain ⟨A, c, out, p, k, rfl, rfl, rfl, hpk, hk, hok, HU, HO, HX⟩ := hrel
    have hsz := HX.out.size
    by_cases hlt : k < s.size
    · have hd := bsT_drop s k hlt
      by_cases hc : s[k] = sep
      · have hcc : ((s[k].toNat : Int) == (sep.toNat : Int)) = true := by rw [hc]; simp
        have HN : Hid (Tg.Under sep (bsT s) ((out ++ [s.extract p k]).map bsT) (bsT (s.extract (k + 1) (k + 1))) ((bsT s).drop (k + 1))) := Lib.hid (by
          have h := HU.out
          rw [hd, hc] at h
          have h2 := h.cut
          rw [List.map_append, List.map_singleton, bsT_ext s (k + 1) (k + 1), Nat.sub_self, List.take_zero]
          exact h2)
        clear hd hc
        go_wp2_with (at_builtin; refine (show Hid _ from ?_).out)
        refine Lib.hid ?_
        refine app_from strT sE rfl _ _ rfl w.heap.size _ _ out rfl (HO.out.alloc _) _ 1 _ [s.extract p k] rfl rfl (new_cells _ _ _) (by omega) (by omega) (by first | omega | (simp; omega)) ?_
        intro A2 c2 l2 w2 HL hO9 hB9 hl1 hl2 _
        have HO2' := Lib.hid hO9
        have HB2 := Lib.hid hB9
        clear hO9
        clear hB9
        go_wp2
        go_roundw
        case rel => exact ⟨A2, c2, l2, k + 1, k + 1, rfl, by go_num, by go_num, Nat.le_refl _, by omega, by (try simp at hl1 hl2); omega, by rw [HL.out]; exact HN, HO2', Lib.hid ((HX.out.alloc _).grown HB2.out (Nat.le_refl _))⟩
        case measure => simp [intOf]; omega
      · have hcc : ((s[k].toNat : Int) == (sep.toNat : Int)) = false := by
          rw [beq_eq_false_iff_ne]
          exact fun h => hc (UInt8.toNat_inj.1 (by omega))
        have HN : Hid (Tg.Under sep (bsT s) (out.map bsT) (bsT (s.extract p (k + 1))) ((bsT s).drop (k + 1))) := Lib.hid (by
          have h := HU.out
          rw [hd] at h
          rw [bsT_snoc s p k hpk hlt]
          exact h.step hc)
        clear hd hc
        go_wp2
        go_roundw
        case rel => exact ⟨A, c, out, p, k + 1, rfl, rfl, by go_num, by omega, by omega, by omega, HN, HO, HX⟩
        case measure => simp [intOf]; omega
    · have e : k = s.size := by omega
      subst e
      have HN : Hid (Tg.Cut sep (bsT s) ((out ++ [s.extract p s.size]).map bsT)) := Lib.hid (by
        have h := HU.out
        rw [List.drop_eq_nil_of_le (by rw [bsT_size]; omega)] at h
        rw [List.map_append, List.map_singleton]
        exact h.done)
      go_wp2_with (at_builtin; refine (show Hid _ from ?_).out)
      refine Lib.hid ?_
      refine app_from strT sE rfl _ _ rfl w.heap.size _ _ out rfl (HO.out.alloc _) _ 1 _ [s.extract p s.size] rfl rfl (new_cells _ _ _) (by omega) (by omega) (by first | omega | (simp; omega)) ?_
      intro A2 c2 l2 w2 HL hO9 hB9 hl1 hl2 _
      have HO2' := Lib.hid hO9
      have HB2 := Lib.hid hB9
      clear hO9
      clear hB9
      go_wp2
      go_ret
      exact ⟨A2, c2, l2, rfl, by rw [HL.out]; exact HN.out, HO2'.out, by (try simp at hl1 hl2); omega, (HX.out.alloc _).grown HB2.out (Nat.le_refl _)⟩
theorem le_walk (a b : ByteArray) : (Op.bytesLess a.toList b.toList || a.toList == b.toList) = decide (bsT a ≤ bsT b) := by
  rw [bytesLess_eq, Lib.toList_data, Lib.toList_data, Bool.eq_iff_iff]
  simp only [Bool.or_eq_true, decide_eq_true_eq, beq_iff_eq]
  exact List.le_iff_lt_or_eq.symm
theorem ne_walk (a b : ByteArray) : (a.toList != b.toList) = decide (¬ bsT a = bsT b) := by
  rw [Lib.toList_data, Lib.toList_data, Bool.eq_iff_iff]
  simp [bsT]
theorem eq_walk (a b : ByteArray) : (a.toList == b.toList) = decide (bsT a = bsT b) := by
  rw [Lib.toList_data, Lib.toList_data, Bool.eq_iff_iff]
  simp [bsT]
def InsRel (w : World) (l : List ByteArray) (s : ByteArray) (o b i : Value) (wr : World) : Prop := ∃ (A : Option Addr) (c : Nat) (out : List ByteArray) (put : Bool) (k : Nat), o = .slice A out.length c ∧ b = .bool put ∧ i = .int .i64 k ∧ k ≤ l.length ∧ out.length ≤ k + k ∧
  Hid ((out.map bsT, put) = ((l.take k).map bsT).foldl (Tg.insStep (bsT s)) ([], false)) ∧ Hid (OwnsStr w.heap.size wr A c out) ∧ Hid (Ext w wr)
theorem ins_take (l : List ByteArray) (s : List UInt8) (k : Nat) (h : k < l.length) : ((l.take (k + 1)).map bsT).foldl (Tg.insStep s) ([], false) = Tg.insStep s (((l.take k).map bsT).foldl (Tg.insStep s) ([], false)) (bsT l[k]) := by
  rw [List.take_succ_eq_append_getElem h, List.map_append, List.foldl_append]
  rfl
set_option maxHeartbeats 2000000 in
theorem rinsert_any (A0 : Option Addr) (c0 : Nat) (l : List ByteArray) (s : ByteArray) (w : World) (hl : l.length ≤ 900000) (hr : ReadsStr w w.heap.size A0 l) (ha : Tg.Asc (l.map bsT)) :
    Calls Tryz.prog 216 #[.slice A0 l.length c0, .string s] w fun e w' => ∃ A c out, e = .returned (.slice A out.length c) ∧ out.map bsT = Tg.ins (bsT s) (l.map bsT) ∧ OwnsStr w.heap.size w' A c out ∧ Ext w w' := by
  have HR := Lib.hid hr
  have HAs := Lib.hid ha
  clear hr ha
  go_enter Tryz.func216, Tryz.ntmps216
  go_wp2
  go_loopw [5, 6, 7] (InsRel w l s) (fun _ _ i _ => l.length - (intOf i).toNat)
  case atStart => exact ⟨none, 0, [], false, 0, rfl, rfl, rfl, Nat.zero_le _, Nat.le_refl _, Lib.hid rfl, Lib.hid (Owns.nil _ _ _ _ _), Lib.hid (Ext.refl _)⟩
  case round =>
    obtain ⟨A, c, out, put, k, rfl, rfl, rfl, hk, hok, HF, HO, HX⟩ := hrel
    have hsz := HX.out.size
    by_cases hlt : k < l.length
    · obtain ⟨b, off, rfl, hb, c1⟩ := ReadsStr.cell (HR.out.ext HX.out (Nat.le_refl _)) k hlt
      have hst := ins_take l (bsT s) k hlt
      rw [← HF.out] at hst
      generalize l[k] = x at *
      have HLE := Lib.hid (le_walk s x)
      have HNE := Lib.hid (eq_walk x s)
      by_cases h1 : put = false ∧ bsT s ≤ bsT x
      · obtain ⟨rfl, h2⟩ := h1
        have e1 : (Op.bytesLess s.toList x.toList || s.toList == x.toList) = true := by rw [HLE.out]; simpa using h2
        by_cases h3 : bsT x = bsT s
        · have e2 : (x.toList == s.toList) = true := by rw [HNE.out]; simpa using h3
          have HS : Hid (((l.take (k + 1)).map bsT).foldl (Tg.insStep (bsT s)) ([], false) = ((out ++ [s]).map bsT, true)) := Lib.hid (by rw [hst]; simp [Tg.insStep, h3])
          clear hst h2 h3
          go_wp2_with (at_builtin; refine (show Hid _ from ?_).out)
          refine Lib.hid ?_
          refine app_from strT sE rfl _ _ rfl w.heap.size _ _ out rfl (HO.out.alloc _) _ 1 _ [s] rfl rfl (new_cells _ _ _) (by omega) (by omega) (by first | omega | (simp; omega)) ?_
          intro A2 c2 l2 w2 HL hO9 hB9 hl1 hl2 _
          have HO2 := Lib.hid hO9
          have HB2 := Lib.hid hB9
          clear hO9
          have hcx := (hB9.cell (p := ⟨b, off + k, none⟩) hb).trans (Lib.cell?_alloc_some _ c1)
          clear hB9
          go_wp2
          go_roundw
          case rel => exact ⟨A2, c2, l2, true, k + 1, rfl, rfl, by go_num, by omega, by (try simp at hl1 hl2); omega, by rw [HL.out]; exact Lib.hid HS.out.symm, HO2, Lib.hid ((HX.out.alloc _).grown HB2.out (Nat.le_refl _))⟩
          case measure => simp [intOf]; omega
        · have e2 : (x.toList == s.toList) = false := by rw [HNE.out]; simpa using h3
          have HS : Hid (((l.take (k + 1)).map bsT).foldl (Tg.insStep (bsT s)) ([], false) = ((out ++ [s] ++ [x]).map bsT, true)) := Lib.hid (by rw [hst]; simp [Tg.insStep, h2, h3])
          clear hst h2 h3
          go_wp2_with (at_builtin; refine (show Hid _ from ?_).out)
          refine Lib.hid ?_
          refine app_from strT sE rfl _ _ rfl w.heap.size _ _ out rfl (HO.out.alloc _) _ 1 _ [s] rfl rfl (new_cells _ _ _) (by omega) (by omega) (by first | omega | (simp; omega)) ?_
          intro A2 c2 l2 w2 HL hO9 hB9 hl1 hl2 _
          have HO2 := Lib.hid hO9
          have HB2 := Lib.hid hB9
          clear hO9
          have hcx := (hB9.cell (p := ⟨b, off + k, none⟩) hb).trans (Lib.cell?_alloc_some _ c1)
          have hs2 := hB9.size
          try simp at hl1 hl2 hs2
          clear hB9
          go_wp2_with (at_builtin; refine (show Hid _ from ?_).out)
          refine Lib.hid ?_
          refine app_from strT sE rfl _ _ rfl w.heap.size _ _ l2 rfl (HO2.out.alloc _) _ 1 _ [x] rfl rfl (new_cells _ _ _) (by omega) (by omega) (by first | omega | (simp; omega)) ?_
          intro A3 c3 l3 w3 HL3 hO9 hB9 hl3 hl4 _
          have HO3 := Lib.hid hO9
          have HB3 := Lib.hid hB9
          clear hO9
          clear hB9
          go_wp2
          go_roundw
          case rel => exact ⟨A3, c3, l3, true, k + 1, rfl, rfl, by go_num, by omega, by (try simp at hl3 hl4); omega, by rw [HL3.out, HL.out]; exact Lib.hid HS.out.symm, HO3, Lib.hid ((((HX.out.alloc _).grown HB2.out (Nat.le_refl _)).alloc _).grown HB3.out (Nat.le_refl _))⟩
          case measure => simp [intOf]; omega
      · by_cases h3 : bsT x = bsT s
        · have e2 : (x.toList == s.toList) = true := by rw [HNE.out]; simpa using h3
          have HS : Hid (((l.take (k + 1)).map bsT).foldl (Tg.insStep (bsT s)) ([], false) = (out.map bsT, put)) := Lib.hid (by rw [hst]; simp only [Tg.insStep, if_neg h1, if_pos h3])
          cases put with
          | true =>
            clear hst h1 h3
            go_wp2
            go_roundw
            case rel => exact ⟨A, c, out, true, k + 1, rfl, rfl, by go_num, by omega, by omega, Lib.hid HS.out.symm, HO, HX⟩
            case measure => simp [intOf]; omega
          | false =>
            have e1 : (Op.bytesLess s.toList x.toList || s.toList == x.toList) = false := by rw [HLE.out]; simpa using h1
            clear hst h1 h3
            go_wp2
            go_roundw
            case rel => exact ⟨A, c, out, false, k + 1, rfl, rfl, by go_num, by omega, by omega, Lib.hid HS.out.symm, HO, HX⟩
            case measure => simp [intOf]; omega
        · have e2 : (x.toList == s.toList) = false := by rw [HNE.out]; simpa using h3
          have HS : Hid (((l.take (k + 1)).map bsT).foldl (Tg.insStep (bsT s)) ([], false) = ((out ++ [x]).map bsT, put)) := Lib.hid (by rw [hst]; simp only [Tg.insStep, if_neg h1, if_neg h3, List.map_append, List.map_singleton])
          cases put with
          | true =>
            clear hst h1 h3
            go_wp2_with (at_builtin; refine (show Hid _ from ?_).out)
            refine Lib.hid ?_
            refine app_from strT sE rfl _ _ rfl w.heap.size _ _ out rfl (HO.out.alloc _) _ 1 _ [x] rfl rfl (new_cells _ _ _) (by omega) (by omega) (by first | omega | (simp; omega)) ?_
            intro A2 c2 l2 w2 HL hO9 hB9 hl1 hl2 _
            have HO2 := Lib.hid hO9
            have HB2 := Lib.hid hB9
            clear hO9
            clear hB9
            go_wp2
            go_roundw
            case rel => exact ⟨A2, c2, l2, true, k + 1, rfl, rfl, by go_num, by omega, by (try simp at hl1 hl2); omega, by rw [HL.out]; exact Lib.hid HS.out.symm, HO2, Lib.hid ((HX.out.alloc _).grown HB2.out (Nat.le_refl _))⟩
            case measure => simp [intOf]; omega
          | false =>
            have e1 : (Op.bytesLess s.toList x.toList || s.toList == x.toList) = false := by rw [HLE.out]; simpa using h1
            clear hst h1 h3
            go_wp2_with (at_builtin; refine (show Hid _ from ?_).out)
            refine Lib.hid ?_
            refine app_from strT sE rfl _ _ rfl w.heap.size _ _ out rfl (HO.out.alloc _) _ 1 _ [x] rfl rfl (new_cells _ _ _) (by omega) (by omega) (by first | omega | (simp; omega)) ?_
            intro A2 c2 l2 w2 HL hO9 hB9 hl1 hl2 _
            have HO2 := Lib.hid hO9
            have HB2 := Lib.hid hB9
            clear hO9
            clear hB9
            go_wp2
            go_roundw
            case rel => exact ⟨A2, c2, l2, false, k + 1, rfl, rfl, by go_num, by omega, by (try simp at hl1 hl2); omega, by rw [HL.out]; exact Lib.hid HS.out.symm, HO2, Lib.hid ((HX.out.alloc _).grown HB2.out (Nat.le_refl _))⟩
            case measure => simp [intOf]; omega
    · have e : k = l.length := by omega
      subst e
      rw [List.take_length] at HF
      have hi := Tg.ins_false (bsT s) (l.map bsT) [] HAs.out
      rw [← HF.out, List.nil_append] at hi
      cases put with
      | true =>
        have HI : Hid (out.map bsT = Tg.ins (bsT s) (l.map bsT)) := Lib.hid (by simpa using hi)
        clear hi
        go_wp2
        go_ret
        exact ⟨A, c, out, rfl, HI.out, HO.out, HX.out⟩
      | false =>
        have HI : Hid ((out ++ [s]).map bsT = Tg.ins (bsT s) (l.map bsT)) := Lib.hid (by simpa using hi)
        clear hi
        go_wp2_with (at_builtin; refine (show Hid _ from ?_).out)
        refine Lib.hid ?_
        refine app_from strT sE rfl _ _ rfl w.heap.size _ _ out rfl (HO.out.alloc _) _ 1 _ [s] rfl rfl (new_cells _ _ _) (by omega) (by omega) (by first | omega | (simp; omega)) ?_
        intro A2 c2 l2 w2 HL hO9 hB9 hl1 hl2 _
        have HO2 := Lib.hid hO9
        have HB2 := Lib.hid hB9
        clear hO9
        clear hB9
        go_wp2
        go_ret
        exact ⟨A2, c2, l2, rfl, by rw [HL.out]; exact HI.out, HO2.out, (HX.out.alloc _).grown HB2.out (Nat.le_refl _)⟩
def joinS (l : List ByteArray) : List UInt8 := Lib.join (l.map bsT) [44]
theorem join_take (l : List ByteArray) (k : Nat) (h : k < l.length) (h0 : 0 < k) : joinS (l.take (k + 1)) = joinS (l.take k) ++ [44] ++ bsT l[k] := by
  unfold joinS
  rw [List.take_succ_eq_append_getElem h, List.map_append, List.map_singleton, Tg.join_snoc]
  · simp
  · simp; exact ⟨by omega, fun e => by rw [e] at h; simp at h⟩
theorem bsT_app (a b : ByteArray) : bsT (a ++ b) = bsT a ++ bsT b := by simp [bsT, ByteArray.data_append]
theorem rjoined_any (A0 : Option Addr) (c0 : Nat) (l : List ByteArray) (w : World) (hl : l.length ≤ 900000) (hr : ReadsStr w w.heap.size A0 l) (hb : ∀ x ∈ l, x.size ≤ 64) :
    Calls Tryz.prog 217 #[.slice A0 l.length c0] w fun e w' => ∃ s, e = .returned (.string s) ∧ bsT s = joinS l ∧ Ext w w' := by
  have HR := Lib.hid hr
  have HB := Lib.hid hb
  clear hr hb
  go_enter Tryz.func217, Tryz.ntmps217
  go_wp2
  go_loopw [3, 4] (fun o i wr => ∃ (s : ByteArray) (k : Nat), o = .string s ∧ i = .int .i64 k ∧ k ≤ l.length ∧ s.size ≤ 65 * k ∧ Hid (bsT s = joinS (l.take k)) ∧ Hid (Ext w wr)) (fun _ i _ => l.length - (intOf i).toNat)
  case atStart => exact ⟨_, 0, rfl, rfl, Nat.zero_le _, Nat.le_refl _, Lib.hid rfl, Lib.hid (Ext.refl _)⟩
  case round =>
    obtain ⟨s, k, rfl, rfl, hk, hsz, HJ, HX⟩ := hrel
    by_cases hlt : k < l.length
    · have hx64 := HB.out _ (List.getElem_mem hlt)
      obtain ⟨b, off, rfl, hb, c1⟩ := ReadsStr.cell (HR.out.ext HX.out (Nat.le_refl _)) k hlt
      by_cases h0 : 0 < k
      · have HN : Hid (bsT (s ++ ⟨#[44]⟩ ++ l[k]) = joinS (l.take (k + 1))) := Lib.hid (by rw [bsT_app, bsT_app, HJ.out, join_take l k hlt h0]; rfl)
        have d0 : decide ((0 : Int) < (k : Int)) = true := by simp; omega
        generalize l[k] = x at *
        go_wp2
        go_roundw
        case rel => exact ⟨_, k + 1, rfl, by go_num, by omega, by simp only [ByteArray.size_append] <;> first | omega | (simp only [ByteArray.size]; simp; omega), HN, HX⟩
        case measure => simp [intOf]; omega
      · have HN : Hid (bsT (s ++ l[k]) = joinS (l.take (k + 1))) := Lib.hid (by
          have e : k = 0 := by omega
          subst e
          rw [bsT_app, HJ.out, List.take_succ_eq_append_getElem hlt]
          simp [joinS, Lib.join_one]
          rfl)
        have d0 : decide ((0 : Int) < (k : Int)) = false := by simp; omega
        generalize l[k] = x at *
        go_wp2
        go_roundw
        case rel => exact ⟨_, k + 1, rfl, by go_num, by omega, by simp only [ByteArray.size_append] <;> first | omega | (simp only [ByteArray.size]; simp; omega), HN, HX⟩
        case measure => simp [intOf]; omega
    · have HN : Hid (bsT s = joinS l) := Lib.hid (by rw [HJ.out, List.take_of_length_le (by omega)])
      go_wp2
      go_ret
      exact ⟨s, rfl, HN.out, HX.out⟩
theorem insAll_set (ls : List ByteArray) : Tg.insAll (ls.map bsT) = setBs ls :=
  Tg.asc_uniq (Tg.insAll_spec _).1 (setBs_asc ls) (fun x => ((Tg.insAll_spec _).2 x).trans (setBs_mem ls x).symm)
theorem insAll_take (ls : List ByteArray) (k : Nat) (h : k < ls.length) : Tg.insAll ((ls.take (k + 1)).map bsT) = Tg.ins (bsT ls[k]) (Tg.insAll ((ls.take k).map bsT)) := by
  rw [List.take_succ_eq_append_getElem h, List.map_append, List.map_singleton, Tg.insAll_snoc]
theorem insAll_len (ls : List ByteArray) (k : Nat) : (Tg.insAll ((ls.take k).map bsT)).length ≤ ls.length := by
  rw [insAll_set]
  have := setBs_len (ls.take k)
  rw [List.length_take] at this
  omega
theorem name_size {s : ByteArray} (h : Tg.nameB (bsT s) = true) : s.size ≤ 64 := by
  simp only [Tg.nameB, Tg.wordB, Bool.and_eq_true, decide_eq_true_eq] at h
  have := h.1.1.1.1.2
  rwa [bsT_size] at this
theorem RowAt.set2 {w : World} {b : Nat} {a0 a1 : Value} (h : RowAt w b #[a0, a1]) (x y : Value) : rowOf ((w.setCell ⟨b, 0, none⟩ x).setCell ⟨b, 1, none⟩ y) b 0 2 = some #[x, y] := ((h.set 0 x).set 1 y).all rfl (by omega)
theorem RowAt.set2A {w : World} {b : Nat} {a0 a1 : Value} (h : RowAt w b #[a0, a1]) (x y : Value) : RowAt ((w.setCell ⟨b, 0, none⟩ x).setCell ⟨b, 1, none⟩ y) b #[x, y] := (h.set 0 x).set 1 y
theorem wri_ty : RowTy Tryz.prog 219 2 := ⟨by kernel_rfl, by kernel_rfl⟩
theorem lst_ty : RowTy Tryz.prog 222 2 := ⟨by kernel_rfl, by kernel_rfl⟩
def RTgRel (w : World) (ls : List ByteArray) (o i : Value) (wr : World) : Prop := ∃ (A : Option Addr) (c : Nat) (out : List ByteArray) (k : Nat), o = .slice A out.length c ∧ i = .int .i64 k ∧ k ≤ ls.length ∧
  Hid (out.map bsT = Tg.insAll ((ls.take k).map bsT)) ∧ Hid ((ls.take k).any (fun s => !Tg.nameB (bsT s)) = false) ∧ Hid (ReadsStr wr wr.heap.size A out) ∧ Hid (Ext w wr) ∧ Hid (RowAt wr w.heap.size #[.string ⟨#[]⟩, .int .i64 0])
set_option maxHeartbeats 2000000 in
theorem rtags_any (A0 : Option Addr) (c0 : Nat) (ls : List ByteArray) (w : World) (hl : ls.length ≤ 900000) (hz : ∀ x ∈ ls, x.size ≤ 900000) (hr : ReadsStr w w.heap.size A0 ls) :
    Calls Tryz.prog 184 #[.slice A0 ls.length c0] w fun e w' => ∃ s, e = .returned (.agg #[.string s, .int .i64 (tagN ls)]) ∧ bsT s = tagS ls ∧ Ext w w' := by
  have HR := Lib.hid hr
  have HZ := Lib.hid hz
  clear hr hz
  go_enter Tryz.func184, Tryz.ntmps184
  go_wp2
  refine wp_world (fun W => Ext w W ∧ RowAt W w.heap.size #[.string ⟨#[]⟩, .int .i64 0]) ⟨(by (repeat (first | with_reducible exact Ext.refl _ | with_reducible exact Ext.refl _ | with_reducible refine Ext.drew ?_ | with_reducible refine Ext.drewN ?_ _ | with_reducible refine Ext.alloc ?_ _ | with_reducible refine Ext.onto ?_ _ | (with_reducible refine Ext.setCells ?_ ?_ _ _; rotate_left; focus (first | omega | (simp; done) | (simp; omega))) | (with_reducible refine Ext.setCell ?_ ?_ _; rotate_left; focus (first | omega | (simp; done) | (simp; omega)))))), RowAt.new _ _ _⟩ ?_
  rintro W1 ⟨x1, r1⟩
  have HX1 := Lib.hid x1
  have HR1 := Lib.hid r1
  clear x1 r1
  go_loopw [3, 4] (RTgRel w ls) (fun _ i _ => ls.length - (intOf i).toNat)
  case atStart => exact ⟨none, 0, [], 0, rfl, rfl, Nat.zero_le _, Lib.hid rfl, Lib.hid rfl, Lib.hid (Reads.nil _ _ _ _ _), HX1, HR1⟩
  case round =>
    obtain ⟨A, c, out, k, rfl, rfl, hk, HO, HB, HRd, HX, HRow⟩ := hrel
    clear HX1 HR1
    have hlt0 := HRow.out.lt
    have hsz := HX.out.size
    have q0 := HRow.out.cell 0
    have q1 := HRow.out.cell 1
    have qf := HRow.out.free
    have hol : out.length ≤ ls.length := by
      have h1 := congrArg List.length HO.out
      rw [List.length_map] at h1
      have h2 := insAll_len ls k
      omega
    by_cases hlt : k < ls.length
    · obtain ⟨b, off, rfl, hb, c1⟩ := ReadsStr.cell (HR.out.ext HX.out (Nat.le_refl _)) k hlt
      have hxs := HZ.out _ (List.getElem_mem hlt)
      have HNm := Lib.hid (fun W => rname_any ls[k] W (by omega))
      have HST := Lib.hid (badB_step ls k hlt HB.out)
      have HIns := Lib.hid (insAll_take ls k hlt)
      have HBad : Hid (Tg.nameB (bsT ls[k]) = false → badB ls = true) := Lib.hid (fun h => by
        rw [badB, List.any_eq_true]; exact ⟨ls[k], List.getElem_mem hlt, by simp [h]⟩)
      have HI := Lib.hid (fun (W : World) (hx : Ext wr W) => rinsert_any A c out ls[k] W (by omega) (HRd.out.on hx) (by rw [HO.out]; exact (Tg.insAll_spec _).1))
      generalize ls[k] = s at *
      cases hn : Tg.nameB (bsT s) with
      | true =>
        have HN : Hid (Tg.nameB s.data.toList = true) := Lib.hid hn
        have HB2 := Lib.hid (HST.out hn)
        clear HST HBad hn
        go_wp2_with (first
          | (go_at_call 135; refine (HNm.out _).mono ?_; rw [HN.out]; rintro e w' ⟨rfl, hxl⟩; obtain ⟨xl, rfl⟩ := hxl.asLater; clear hxl)
          | (go_at_call 216; refine (HI.out _ (ext_later _ _)).mono ?_; rintro e w3 ⟨A3, c3, l3, rfl, hi, ho, hx⟩; have HI3 := Lib.hid hi; have HO3 := Lib.hid (ho.reads sE); have HX3 := Lib.hid hx; clear hi ho hx))
        go_roundw
        case rel => exact ⟨A3, c3, l3, k + 1, rfl, by go_num, by omega, Lib.hid (by rw [HI3.out, HO.out, HIns.out]), HB2, HO3, Lib.hid ((HX.out.onto _).trans HX3.out), Lib.hid ((HRow.out.later _).ext HX3.out)⟩
        case measure => simp [intOf]; omega
      | false =>
        have HN : Hid (Tg.nameB s.data.toList = false) := Lib.hid hn
        have HBd := Lib.hid (HBad.out hn)
        have HE1 : Hid (tagN ls = 1) := Lib.hid (by rw [tagN, HBd.out]; rfl)
        clear HST hn
        go_wp2_with (go_at_call 135; refine (HNm.out _).mono ?_; rw [HN.out]; rintro e w' ⟨rfl, hxl⟩; obtain ⟨xl, rfl⟩ := hxl.asLater; clear hxl)
        refine post_row wri_ty Tryz.results184 rfl rfl (RowAt.set2 (HRow.out.later _) _ _) ⟨⟨#[]⟩, by rw [HE1.out], by rw [tagS, HE1.out]; rfl, (by (repeat (first | with_reducible exact HX.out | with_reducible exact Ext.refl _ | with_reducible refine Ext.drew ?_ | with_reducible refine Ext.drewN ?_ _ | with_reducible refine Ext.alloc ?_ _ | with_reducible refine Ext.onto ?_ _ | (with_reducible refine Ext.setCells ?_ ?_ _ _; rotate_left; focus (first | omega | (simp; done) | (simp; omega))) | (with_reducible refine Ext.setCell ?_ ?_ _; rotate_left; focus (first | omega | (simp; done) | (simp; omega))))))⟩
    · have e : k = ls.length := by omega
      have HO2 : Hid (out.map bsT = setBs ls) := Lib.hid (by rw [HO.out, e, List.take_length, insAll_set])
      have HB2 : Hid (badB ls = false) := Lib.hid (by have h := HB.out; rwa [List.take_of_length_le (by omega)] at h)
      have HJ := Lib.hid (rjoined_any A c out wr (by omega) HRd.out (fun x hx => by
        refine name_size ?_
        have h1 : bsT x ∈ setBs ls := by rw [← HO2.out]; exact List.mem_map_of_mem hx
        rw [setBs_mem, List.mem_map] at h1
        obtain ⟨y, hy, h2⟩ := h1
        rw [← h2]
        have h3 := HB2.out
        rw [badB, List.any_eq_false] at h3
        simpa using h3 y hy))
      have HN2 : Hid (tagN ls = if 4096 < (joinS out).length then 2 else 0) := Lib.hid (by rw [tagN, HB2.out, joinS, HO2.out]; rfl)
      have HS2 : Hid (tagS ls = if tagN ls = 0 then joinS out else []) := Lib.hid (by rw [tagS, joinS, HO2.out]; rfl)
      clear HO HB HO2 HB2 hol hlt
      go_wp2_with (go_at_call 217; refine (show Hid _ from ?_).out)
      refine Lib.hid ?_
      refine HJ.out.mono ?_
      rintro e w3 ⟨s, rfl, hs, hx⟩
      have hsl : s.size = (joinS out).length := by rw [← hs, bsT_size]
      have HSs := Lib.hid hs
      have HX3 := Lib.hid (HX.out.trans hx)
      have HRow3 := Lib.hid (HRow.out.ext hx)
      have hlt3 := HRow3.out.lt
      clear q0 q1 qf hs hx HRow
      have q0 := HRow3.out.cell 0
      have q1 := HRow3.out.cell 1
      have qf := HRow3.out.free
      rw [← hsl] at HN2
      by_cases h4 : 4096 < s.size
      · have HN3 : Hid (tagN ls = 2) := Lib.hid (by rw [HN2.out, if_pos h4])
        have d4 : decide ((4096 : Int) < (s.size : Int)) = true := by simp; omega
        clear HN2 hsl
        go_wp2
        refine post_row wri_ty Tryz.results184 rfl rfl (RowAt.set2 (HRow3.out) _ _) ⟨⟨#[]⟩, by rw [HN3.out], by rw [tagS, HN3.out]; rfl, (by (repeat (first | with_reducible exact HX3.out | with_reducible exact Ext.refl _ | with_reducible refine Ext.drew ?_ | with_reducible refine Ext.drewN ?_ _ | with_reducible refine Ext.alloc ?_ _ | with_reducible refine Ext.onto ?_ _ | (with_reducible refine Ext.setCells ?_ ?_ _ _; rotate_left; focus (first | omega | (simp; done) | (simp; omega))) | (with_reducible refine Ext.setCell ?_ ?_ _; rotate_left; focus (first | omega | (simp; done) | (simp; omega))))))⟩
      · have HN3 : Hid (tagN ls = 0) := Lib.hid (by rw [HN2.out, if_neg h4])
        have d4 : decide ((4096 : Int) < (s.size : Int)) = false := by simp; omega
        clear HN2 hsl
        go_wp2
        refine post_row wri_ty Tryz.results184 rfl rfl (RowAt.set2 (HRow3.out) _ _) ⟨s, by rw [HN3.out], by rw [HS2.out, HN3.out, HSs.out]; rfl, (by (repeat (first | with_reducible exact HX3.out | with_reducible exact Ext.refl _ | with_reducible refine Ext.drew ?_ | with_reducible refine Ext.drewN ?_ _ | with_reducible refine Ext.alloc ?_ _ | with_reducible refine Ext.onto ?_ _ | (with_reducible refine Ext.setCells ?_ ?_ _ _; rotate_left; focus (first | omega | (simp; done) | (simp; omega))) | (with_reducible refine Ext.setCell ?_ ?_ _; rotate_left; focus (first | omega | (simp; done) | (simp; omega))))))⟩
theorem Tg.piece_len {sep : UInt8} {s : List UInt8} {l : List (List UInt8)} (h : Tg.Cut sep s l) {p : List UInt8} (hp : p ∈ l) : p.length ≤ s.length := by
  rw [← h.join]
  clear h
  induction l with
  | nil => cases hp
  | cons x t ih =>
    cases t with
    | nil => rw [List.mem_singleton] at hp; subst hp; rw [Lib.join_one]; exact Nat.le_refl _
    | cons y r =>
      rw [Tg.join_two, List.length_append, List.length_cons]
      rcases List.mem_cons.1 hp with rfl | hp
      · omega
      · have := ih hp; omega
theorem tagS_len (ls : List ByteArray) : (tagS ls).length ≤ 4096 ∨ tagN ls ≠ 0 := by
  unfold tagS tagN
  by_cases h1 : badB ls = true
  · right; rw [if_pos h1]; decide
  · rw [if_neg h1]
    by_cases h2 : 4096 < (tagTx ls).length
    · right; rw [if_pos h2]; decide
    · left; rw [if_neg h2, if_pos rfl]; omega
def RListIs (s : ByteArray) (e : Ending) (w' : World) : Prop := ∃ (A : Option Addr) (c : Nat) (ls : List ByteArray), e = .returned (.agg #[.slice A ls.length c, .int .i64 (if Tg.tagsB (bsT s) then 0 else 3)]) ∧ ReadsStr w' w'.heap.size A ls ∧
  (Tg.tagsB (bsT s) = true → s.size = 0 ∧ ls = [] ∨ Tg.Cut 44 (bsT s) (ls.map bsT)) ∧ (Tg.tagsB (bsT s) = false → ls = []) ∧ ls.length ≤ s.size + 1
set_option maxHeartbeats 2000000 in
theorem rSplit_any (s : ByteArray) (w : World) (hs : s.size ≤ 9223372036854775807) :
    Calls Tryz.prog 149 #[.string s] w fun e w' => RListIs s e w' ∧ Ext w w' := by
  by_cases hl : 4096 < s.size
  · have HT : Hid (Tg.tagsB (bsT s) = false) := Lib.hid (Tg.tags_long (by rw [bsT_size]; exact hl))
    have d4 : decide ((4096 : Int) < (s.size : Int)) = true := by simp; omega
    go_enter Tryz.func149, Tryz.ntmps149
    go_wp2
    refine post_row lst_ty Tryz.results149 rfl rfl ((RowAt.new _ _ _).all rfl (by omega)) ⟨⟨none, 0, [], by rw [HT.out]; rfl, Reads.nil _ _ _ _ _, fun h => (by rw [HT.out] at h; cases h), fun _ => rfl, by simp⟩, (by (repeat (first | with_reducible exact Ext.refl _ | with_reducible exact Ext.refl _ | with_reducible refine Ext.drew ?_ | with_reducible refine Ext.drewN ?_ _ | with_reducible refine Ext.alloc ?_ _ | with_reducible refine Ext.onto ?_ _ | (with_reducible refine Ext.setCells ?_ ?_ _ _; rotate_left; focus (first | omega | (simp; done) | (simp; omega))) | (with_reducible refine Ext.setCell ?_ ?_ _; rotate_left; focus (first | omega | (simp; done) | (simp; omega))))))⟩
  have d4 : decide ((4096 : Int) < (s.size : Int)) = false := by simp; omega
  by_cases h0 : s.size = 0
  · have hb : bsT s = [] := List.eq_nil_of_length_eq_zero ((bsT_size s).trans h0)
    have HT : Hid (Tg.tagsB (bsT s) = true) := Lib.hid (by rw [hb]; exact Tg.tags_nil)
    have e : s = ByteArray.empty := by
      apply ByteArray.ext
      apply Array.toList_inj.1
      exact hb
    have H0 := Lib.hid h0
    subst e
    clear hb h0 hl
    go_enter Tryz.func149, Tryz.ntmps149
    go_wp2
    refine post_row lst_ty Tryz.results149 rfl rfl ((RowAt.new _ _ _).all rfl (by omega)) ⟨⟨none, 0, [], by rw [HT.out]; rfl, Reads.nil _ _ _ _ _, fun _ => .inl ⟨H0.out, rfl⟩, fun _ => rfl, by simp⟩, (by (repeat (first | with_reducible exact Ext.refl _ | with_reducible exact Ext.refl _ | with_reducible refine Ext.drew ?_ | with_reducible refine Ext.drewN ?_ _ | with_reducible refine Ext.alloc ?_ _ | with_reducible refine Ext.onto ?_ _ | (with_reducible refine Ext.setCells ?_ ?_ _ _; rotate_left; focus (first | omega | (simp; done) | (simp; omega))) | (with_reducible refine Ext.setCell ?_ ?_ _; rotate_left; focus (first | omega | (simp; done) | (simp; omega))))))⟩
  · have hb : bsT s ≠ [] := fun e => h0 (by rw [← bsT_size, e]; rfl)
    have hne : (s.toList == []) = false := by rw [Lib.toList_data, beq_eq_false_iff_ne]; exact hb
    have hne2 : s.toList.isEmpty = false := by rw [Lib.toList_data]; cases h : s.data.toList with
      | nil => exact absurd h hb
      | cons _ _ => rfl
    have HS := Lib.hid (fun W => rsplit_any s 44 W (by omega))
    have HB := Lib.hid hb
    have hs4 : s.size ≤ 4096 := by omega
    clear h0 hb hl
    go_enter Tryz.func149, Tryz.ntmps149
    go_wp2_with (first
      | (go_at_call 183; refine (show Hid _ from ?_).out)
      | (go_at_call 184; refine (show Hid _ from ?_).out))
    refine Lib.hid ?_
    refine calls_world (fun W => Ext w W ∧ RowAt W w.heap.size #[.slice none 0 0, .int .i64 0]) ⟨(by (repeat (first | with_reducible exact Ext.refl _ | with_reducible exact Ext.refl _ | with_reducible refine Ext.drew ?_ | with_reducible refine Ext.drewN ?_ _ | with_reducible refine Ext.alloc ?_ _ | with_reducible refine Ext.onto ?_ _ | (with_reducible refine Ext.setCells ?_ ?_ _ _; rotate_left; focus (first | omega | (simp; done) | (simp; omega))) | (with_reducible refine Ext.setCell ?_ ?_ _; rotate_left; focus (first | omega | (simp; done) | (simp; omega)))))), RowAt.new _ _ _⟩ ?_
    rintro W1 ⟨x1, r1⟩
    have HX1 := Lib.hid x1
    have HR1 := Lib.hid r1
    have hl1 := r1.lt
    clear x1 r1
    refine (HS.out W1).mono ?_
    rintro e w2 ⟨A, c, ls, rfl, h1, h2, h3, h4⟩
    have hr := h2.reads sE
    have h0 : ls ≠ [] := fun e => by
      have := h1.some
      rw [e] at this
      exact this rfl
    have hz : ∀ x ∈ ls, x.size ≤ 900000 := fun x hx => by
      have h5 : bsT x ∈ ls.map bsT := List.mem_map_of_mem hx
      have h6 := Tg.piece_len h1 h5
      rw [bsT_size, bsT_size] at h6
      omega
    have HC := Lib.hid h1
    have HR := Lib.hid h2
    have HX := Lib.hid (HX1.out.trans h4)
    have HRw := Lib.hid (HR1.out.ext h4)
    have HT := Lib.hid (tagN_ok h1 HB.out)
    have HP := Lib.hid (fun W (hx : Ext w2 W) => rtags_any A c ls W (by omega) hz (hr.on hx))
    have HL := Lib.hid h3
    have hl2 := HRw.out.lt
    clear h1 h2 h3 h4 hz h0 hr HS HX1 HR1
    go_wp2_with (go_at_call 184; refine (show Hid _ from ?_).out)
    refine Lib.hid ?_
    refine (HP.out _ (Ext.refl _)).mono ?_
    rintro e w3 ⟨t, rfl, ht, hx3⟩
    have HQ := Lib.hid (eq_walk t s)
    rw [ht] at HQ
    have HX3 := Lib.hid (HX.out.trans hx3)
    have HRw3 := Lib.hid (HRw.out.ext hx3)
    have HR3 := Lib.hid (HR.out.ext hx3)
    have hl3 := HRw3.out.lt
    have q0 := HRw3.out.cell 0
    have q1 := HRw3.out.cell 1
    have qf := HRw3.out.free
    clear ht hx3 HP HX HRw HR
    generalize tagN ls = n at *
    generalize tagS ls = tx at *
    by_cases hn : n = 0
    · subst hn
      by_cases hq : tx = bsT s
      · have HQ2 : (t.toList == s.toList) = true := by rw [HQ.out]; simpa using hq
        have HT2 : Hid (Tg.tagsB (bsT s) = true) := Lib.hid (by rw [HT.out]; simpa using hq)
        clear hq HT
        go_wp2
        refine post_row lst_ty Tryz.results149 rfl rfl (((RowAt.set2A HRw3.out _ _).alloc _).all rfl (by omega)) ⟨⟨_, _, ls, by rw [HT2.out]; rfl, (((HR3.out.other (p := ⟨w.heap.size, 0, none⟩) hl1 _).other (p := ⟨w.heap.size, 1, none⟩) hl1 _).alloc _).reads sE, fun _ => .inr HC.out, fun h => (by rw [HT2.out] at h; cases h), HL.out⟩, (by (repeat (first | with_reducible exact HX3.out | with_reducible exact Ext.refl _ | with_reducible refine Ext.drew ?_ | with_reducible refine Ext.drewN ?_ _ | with_reducible refine Ext.alloc ?_ _ | with_reducible refine Ext.onto ?_ _ | (with_reducible refine Ext.setCells ?_ ?_ _ _; rotate_left; focus (first | omega | (simp; done) | (simp; omega))) | (with_reducible refine Ext.setCell ?_ ?_ _; rotate_left; focus (first | omega | (simp; done) | (simp; omega))))))⟩
      · have HQ2 : (t.toList == s.toList) = false := by rw [HQ.out]; simpa using hq
        have HT2 : Hid (Tg.tagsB (bsT s) = false) := Lib.hid (by rw [HT.out]; simpa using hq)
        clear hq HT
        go_wp2
        refine post_row lst_ty Tryz.results149 rfl rfl (((RowAt.set2A HRw3.out _ _).alloc _).all rfl (by omega)) ⟨⟨none, 0, [], by rw [HT2.out]; rfl, Reads.nil _ _ _ _ _, fun h => (by rw [HT2.out] at h; cases h), fun _ => rfl, by simp⟩, (by (repeat (first | with_reducible exact HX3.out | with_reducible exact Ext.refl _ | with_reducible refine Ext.drew ?_ | with_reducible refine Ext.drewN ?_ _ | with_reducible refine Ext.alloc ?_ _ | with_reducible refine Ext.onto ?_ _ | (with_reducible refine Ext.setCells ?_ ?_ _ _; rotate_left; focus (first | omega | (simp; done) | (simp; omega))) | (with_reducible refine Ext.setCell ?_ ?_ _; rotate_left; focus (first | omega | (simp; done) | (simp; omega))))))⟩
    · have HT2 : Hid (Tg.tagsB (bsT s) = false) := Lib.hid (by rw [HT.out]; simp [hn])
      have hn1 : (n == 0) = false := by simpa using hn
      clear HT
      go_wp2
      refine post_row lst_ty Tryz.results149 rfl rfl (((RowAt.set2A HRw3.out _ _).alloc _).all rfl (by omega)) ⟨⟨none, 0, [], by rw [HT2.out]; rfl, Reads.nil _ _ _ _ _, fun h => (by rw [HT2.out] at h; cases h), fun _ => rfl, by simp⟩, (by (repeat (first | with_reducible exact HX3.out | with_reducible exact Ext.refl _ | with_reducible refine Ext.drew ?_ | with_reducible refine Ext.drewN ?_ _ | with_reducible refine Ext.alloc ?_ _ | with_reducible refine Ext.onto ?_ _ | (with_reducible refine Ext.setCells ?_ ?_ _ _; rotate_left; focus (first | omega | (simp; done) | (simp; omega))) | (with_reducible refine Ext.setCell ?_ ?_ _; rotate_left; focus (first | omega | (simp; done) | (simp; omega))))))⟩
theorem rlisted_any (s : ByteArray) (w : World) (hs : s.size ≤ 9223372036854775807) :
    Calls Tryz.prog 111 #[.string s] w fun e w' => e = .returned (.bool (listedB s)) ∧ Ext w w' := by
  have H := Lib.hid (rSplit_any s w hs)
  cases ht : Tg.tagsB (bsT s) with
  | true =>
    have HT := Lib.hid ht
    have HL : Hid (listedB s = true) := Lib.hid ht
    clear ht
    go_enter Tryz.func111, Tryz.ntmps111
    go_wp2_with (go_at_call 149; refine H.out.mono ?_; rintro e w' ⟨⟨A, c, ls, rfl, _, _, _, _⟩, hx⟩; rw [HT.out]; obtain ⟨xl, rfl⟩ := hx.asLater; clear hx)
    go_ret
    exact ⟨ret_bool HL.out.symm, (by (repeat (first | with_reducible exact Ext.refl _ | with_reducible exact Ext.refl _ | with_reducible refine Ext.drew ?_ | with_reducible refine Ext.drewN ?_ _ | with_reducible refine Ext.alloc ?_ _ | with_reducible refine Ext.onto ?_ _ | (with_reducible refine Ext.setCells ?_ ?_ _ _; rotate_left; focus (first | omega | (simp; done) | (simp; omega))) | (with_reducible refine Ext.setCell ?_ ?_ _; rotate_left; focus (first | omega | (simp; done) | (simp; omega))))))⟩
  | false =>
    have HT := Lib.hid ht
    have HL : Hid (listedB s = false) := Lib.hid ht
    clear ht
    go_enter Tryz.func111, Tryz.ntmps111
    go_wp2_with (go_at_call 149; refine H.out.mono ?_; rintro e w' ⟨⟨A, c, ls, rfl, _, _, _, _⟩, hx⟩; rw [HT.out]; obtain ⟨xl, rfl⟩ := hx.asLater; clear hx)
    go_ret
    exact ⟨ret_bool HL.out.symm, (by (repeat (first | with_reducible exact Ext.refl _ | with_reducible exact Ext.refl _ | with_reducible refine Ext.drew ?_ | with_reducible refine Ext.drewN ?_ _ | with_reducible refine Ext.alloc ?_ _ | with_reducible refine Ext.onto ?_ _ | (with_reducible refine Ext.setCells ?_ ?_ _ _; rotate_left; focus (first | omega | (simp; done) | (simp; omega))) | (with_reducible refine Ext.setCell ?_ ?_ _; rotate_left; focus (first | omega | (simp; done) | (simp; omega))))))⟩
end Go.Proofs.YtpfhmcdcmepfdaaGreatDoor


set_option linter.unusedVariables false
set_option linter.unusedSimpArgs false
namespace Go.Proofs.YtpfhmcdcmepfdaaGreatDoor
open Go.RowKit Go.Shelf
open Go.Proofs

theorem ver_size (v : Ver) : (verC v).size = 4 := rfl
theorem ver_all (v : Ver) : rowSub (verC v) 0 4 = some (verC v) := rowSub_all _ _ rfl
theorem ver_g0 (v : Ver) : (verC v)[0]? = some (.int .i64 v.fr) := rfl
theorem ver_g1 (v : Ver) : (verC v)[1]? = some (.int .i64 v.status) := rfl
theorem ver_g2 (v : Ver) : (verC v)[2]? = some (.string v.bytes) := rfl
theorem ver_g3 (v : Ver) : (verC v)[3]? = some (.string v.tags) := rfl
theorem ver_fits (v : Ver) : fitsRow 4 (verC v) = true := by simp [fitsRow, verC, Value.oneCell']
attribute [go_sem] ver_size ver_all ver_g0 ver_g1 ver_g2 ver_g3 ver_fits
theorem ver_ty : RowTy Tryz.prog 107 4 := ⟨by kernel_rfl, by kernel_rfl⟩
theorem ver_ld (w : World) (b o : Nat) : (rowLoad 107 4 (.pointer (some ⟨b, o, none⟩))).run Tryz.prog w = rowLoadR Tryz.prog w 107 4 b o (rowOf w b o 4) := run_rowLoad ver_ty w b o
theorem ver_st (w : World) (b o : Nat) (cells : Array Value) : (rowStore 107 4 (.pointer (some ⟨b, o, none⟩)) (.agg cells)).run Tryz.prog w = rowStoreR Tryz.prog w 107 4 b o cells (roomOf w b o 4 && fitsRow 4 cells) := run_rowStore ver_ty w b o cells
theorem ver_lv (w : World) (b o : Nat) : (loadVar 107 ⟨b, o, none⟩).run Tryz.prog w = varRes Tryz.prog w 107 b o (rowOf w b o 4) := loadVar_row ver_ty w b o
theorem ver_al (w : World) : (rowAlloc 107).run Tryz.prog w = .ok (.value (.pointer (some ⟨w.heap.size, 0, none⟩))) (w.alloc (.cells (verC noVer) 107)) := run_rowAlloc (by kernel_rfl) w
theorem ver_xl (ρ : Operand → Value) (dst : Option Tmp) (x : Operand) (t : TypeId) (pos : String) (after : Array Edge) (guard : Option (Nat × Bool)) : execOp ρ { dst, op := .load 107 x, type := t, pos, after, guard } = rowLoad 107 4 (ρ x) := rfl
theorem ver_xs (ρ : Operand → Value) (dst : Option Tmp) (x y : Operand) (t : TypeId) (pos : String) (after : Array Edge) (guard : Option (Nat × Bool)) : execOp ρ { dst, op := .store 107 x y, type := t, pos, after, guard } = rowStore 107 4 (ρ x) (ρ y) := rfl
theorem ver_xa (ρ : Operand → Value) (dst : Option Tmp) (t : TypeId) (pos : String) (after : Array Edge) (guard : Option (Nat × Bool)) : execOp ρ { dst, op := .alloc 107, type := t, pos, after, guard } = rowAlloc 107 := rfl
attribute [go_sem ↓] ver_xl ver_xs ver_xa
attribute [go_sem] ver_ld ver_st ver_al
abbrev ReadsVer (w : World) (B : Nat) (A : Option Addr) (l : List Ver) : Prop := Reads 4 verL w B A l
theorem ReadsVer.cell {w : World} {B : Nat} {A : Option Addr} {l : List Ver} (h : ReadsVer w B A l) (i : Nat) (hi : i < l.length) : ∃ b off, A = some ⟨b, off, none⟩ ∧ b < B ∧ rowOf w b (off + i * 4) 4 = some (verC l[i]) ∧ w.cell? ⟨b, off + i * 4, none⟩ = some (.int .i64 l[i].fr) := by
  obtain ⟨b, off, h1, h2, h3⟩ := h (by omega)
  refine ⟨b, off, h1, h2, rowOf_some rfl fun j hj => ?_, h3 i hi 0 _ rfl⟩
  match j, hj with
  | 0, _ => exact h3 i hi 0 _ rfl
  | 1, _ => exact h3 i hi 1 _ rfl
  | 2, _ => exact h3 i hi 2 _ rfl
  | 3, _ => exact h3 i hi 3 _ rfl
theorem verE : EncTy verL 4 := ⟨fun _ => rfl, fun x v hv => by simp [verL] at hv; rcases hv with rfl | rfl | rfl | rfl <;> rfl⟩

/-! ### origin.all -/
theorem bools_get (bs : List Bool) (k : Nat) (h : k < bs.length) : (bs.map Value.bool).toArray[k]? = some (.bool bs[k]) := by simp [h]
theorem bindex_any (g c : Nat) (bs : List Bool) (w : World) (hl : bs.length ≤ 100000) (hr : RowAt w g (bs.map Value.bool).toArray) :
    Calls Tryz.prog 143 #[.slice (some ⟨g, 0, none⟩) bs.length c, .bool false] w fun e w' => ∃ i : Int, e = .returned (.int .i64 i) ∧ (bs.all id = true → i = -1) ∧ (bs.all id = false → 0 ≤ i) ∧ Ext w w' := by
  have HR := Lib.hid hr
  clear hr
  go_enter Tryz.func143, Tryz.ntmps143
  go_wp2
  go_loopw [8] (fun i wr => ∃ k : Nat, k ≤ bs.length ∧ i = .int .i64 k ∧ Ext w wr ∧ Hid ((bs.take k).all id = true)) (fun i _ => bs.length - (intOf i).toNat)
  case atStart => exact ⟨0, Nat.zero_le _, rfl, Ext.refl _, Lib.hid rfl⟩
  case round =>
    obtain ⟨k, hk, rfl, hx, HJ⟩ := hrel
    have HX := Lib.hid hx
    have hR := HR.out.ext hx
    by_cases hlt : k < bs.length
    · have hc : wr.cell? ⟨g, k, none⟩ = some (.bool bs[k]) := (hR.cell k).trans (bools_get bs k hlt)
      have HT := Lib.hid (List.take_succ_eq_append_getElem hlt)
      have HM := Lib.hid (List.getElem_mem hlt)
      generalize bs[k] = b at *
      clear hx hR
      cases b with
      | true =>
        have HN : Hid ((bs.take (k + 1)).all id = true) := Lib.hid (by rw [HT.out, List.all_append, HJ.out]; rfl)
        clear HT HM
        go_wp2
        go_roundw
        case rel => exact ⟨k + 1, by omega, by go_num, HX.out, HN⟩
        case measure => simp [intOf]; omega
      | false =>
        have HN : Hid (bs.all id = false) := Lib.hid (by rw [List.all_eq_false]; exact ⟨false, HM.out, by simp⟩)
        clear HT HM
        go_wp2
        go_ret
        exact ⟨k, rfl, fun h => (by rw [HN.out] at h; cases h), fun _ => by omega, HX.out⟩
    · have HN : Hid (bs.all id = true) := Lib.hid (by have h := HJ.out; rwa [List.take_of_length_le (by omega)] at h)
      clear hx hR
      go_wp2
      go_ret
      exact ⟨-1, rfl, fun _ => rfl, fun h => (by rw [HN.out] at h; cases h), HX.out⟩
theorem bcont_any (g c : Nat) (bs : List Bool) (w : World) (hl : bs.length ≤ 100000) (hr : RowAt w g (bs.map Value.bool).toArray) :
    Calls Tryz.prog 107 #[.slice (some ⟨g, 0, none⟩) bs.length c, .bool false] w fun e w' => e = .returned (.bool (!(bs.all id))) ∧ Ext w w' := by
  have H := Lib.hid (bindex_any g c bs w hl hr)
  clear hr
  cases hb : bs.all id with
  | true =>
    rw [hb] at H
    go_enter Tryz.func107, Tryz.ntmps107
    go_wp2_with (go_at_call 143; refine H.out.mono ?_; rintro e w' ⟨i, rfl, h1, _, hx⟩; have h2 := h1 rfl; subst h2; obtain ⟨xl, rfl⟩ := hx.asLater; clear hx h1)
    go_ret
    exact ⟨rfl, (by (repeat (first | with_reducible exact Ext.refl _ | with_reducible exact Ext.refl _ | with_reducible refine Ext.drew ?_ | with_reducible refine Ext.drewN ?_ _ | with_reducible refine Ext.alloc ?_ _ | with_reducible refine Ext.onto ?_ _ | (with_reducible refine Ext.setCells ?_ ?_ _ _; rotate_left; focus (first | omega | (simp; done) | (simp; omega))) | (with_reducible refine Ext.setCell ?_ ?_ _; rotate_left; focus (first | omega | (simp; done) | (simp; omega))))))⟩
  | false =>
    rw [hb] at H
    go_enter Tryz.func107, Tryz.ntmps107
    go_wp2_with (go_at_call 143; refine H.out.mono ?_; rintro e w' ⟨i, rfl, _, h1, hx⟩; have h2 := h1 rfl; obtain ⟨xl, rfl⟩ := hx.asLater; clear hx h1)
    go_ret
    exact ⟨ret_bool (by first | simp; done | (simp; omega)), (by (repeat (first | with_reducible exact Ext.refl _ | with_reducible exact Ext.refl _ | with_reducible refine Ext.drew ?_ | with_reducible refine Ext.drewN ?_ _ | with_reducible refine Ext.alloc ?_ _ | with_reducible refine Ext.onto ?_ _ | (with_reducible refine Ext.setCells ?_ ?_ _ _; rotate_left; focus (first | omega | (simp; done) | (simp; omega))) | (with_reducible refine Ext.setCell ?_ ?_ _; rotate_left; focus (first | omega | (simp; done) | (simp; omega))))))⟩
theorem oall_row (g c : Nat) (bs : List Bool) (w : World) (hl : bs.length ≤ 100000) (hr : RowAt w g (bs.map Value.bool).toArray) :
    Calls Tryz.prog 47 #[.slice (some ⟨g, 0, none⟩) bs.length c] w fun e w' => e = .returned (.bool (bs.all id)) ∧ Ext w w' := by
  have H := Lib.hid (bcont_any g c bs w hl hr)
  clear hr
  generalize bs.all id = v at *
  go_enter Tryz.func47, Tryz.ntmps47
  go_wp2_with (go_at_call 107; refine H.out.mono ?_; rintro e w' ⟨rfl, hxl⟩; obtain ⟨xl, rfl⟩ := hxl.asLater; clear hxl)
  go_ret
  exact ⟨ret_bool (by simp), (by (repeat (first | with_reducible exact Ext.refl _ | with_reducible exact Ext.refl _ | with_reducible refine Ext.drew ?_ | with_reducible refine Ext.drewN ?_ _ | with_reducible refine Ext.alloc ?_ _ | with_reducible refine Ext.onto ?_ _ | (with_reducible refine Ext.setCells ?_ ?_ _ _; rotate_left; focus (first | omega | (simp; done) | (simp; omega))) | (with_reducible refine Ext.setCell ?_ ?_ _; rotate_left; focus (first | omega | (simp; done) | (simp; omega))))))⟩
/-- As the walk meets it: the row has just been made. -/
theorem oall6 (a b c d e f : Bool) (w : World) (t : TypeId) (g : Nat) (hg : g = w.heap.size) :
    Calls Tryz.prog 47 #[.slice (some ⟨g, 0, none⟩) 6 6] (w.alloc (.cells #[.bool a, .bool b, .bool c, .bool d, .bool e, .bool f] t)) fun e' w' => e' = .returned (.bool (a && b && c && d && e && f)) ∧ Ext w w' := by
  refine (oall_row g 6 [a, b, c, d, e, f] _ (by show 6 ≤ 100000; decide) (RowAt.newAt hg)).mono ?_
  rintro e' w' ⟨rfl, hx⟩
  exact ⟨ret_bool (by simp [Bool.and_assoc]), ((Ext.refl w).alloc _).trans hx⟩
theorem oall4 (a b c d : Bool) (w : World) (t : TypeId) (g : Nat) (hg : g = w.heap.size) :
    Calls Tryz.prog 47 #[.slice (some ⟨g, 0, none⟩) 4 4] (w.alloc (.cells #[.bool a, .bool b, .bool c, .bool d] t)) fun e' w' => e' = .returned (.bool (a && b && c && d)) ∧ Ext w w' := by
  refine (oall_row g 4 [a, b, c, d] _ (by show 4 ≤ 100000; decide) (RowAt.newAt hg)).mono ?_
  rintro e' w' ⟨rfl, hx⟩
  exact ⟨ret_bool (by simp [Bool.and_assoc]), ((Ext.refl w).alloc _).trans hx⟩
theorem oall3 (a b c : Bool) (w : World) (t : TypeId) (g : Nat) (hg : g = w.heap.size) :
    Calls Tryz.prog 47 #[.slice (some ⟨g, 0, none⟩) 3 3] (w.alloc (.cells #[.bool a, .bool b, .bool c] t)) fun e' w' => e' = .returned (.bool (a && b && c)) ∧ Ext w w' := by
  refine (oall_row g 3 [a, b, c] _ (by show 3 ≤ 100000; decide) (RowAt.newAt hg)).mono ?_
  rintro e' w' ⟨rfl, hx⟩
  exact ⟨ret_bool (by simp [Bool.and_assoc]), ((Ext.refl w).alloc _).trans hx⟩

/-! ### Valid -/
open Classical in
noncomputable def validV (l : List Ver) : Bool := decide (ValidV listedB l)
open Classical in
theorem validV_iff (l : List Ver) : validV l = true ↔ ValidV listedB l := by simp [validV]
open Classical in
theorem validV_no {l : List Ver} (h : ¬ ValidV listedB l) : validV l = false := by simp [validV, h]
theorem okV_walk {last : Int} {v : Ver} {a b c d e : Bool} (ha : a = decide (last < v.fr)) (hb : b = decide (v.fr ≤ 1099511627776)) (hc : c = decide (100 ≤ v.status)) (hd : d = decide (v.status ≤ 599)) (he : e = decide ((v.bytes.size : Int) ≤ 1099511627776)) :
    (a && b && c && d && e && listedB v.tags) = true ↔ OkV listedB last v := by
  subst ha hb hc hd he
  simp only [OkV, fitV, Bool.and_eq_true, decide_eq_true_eq]
  constructor
  · rintro ⟨⟨⟨⟨⟨h1, h2⟩, h3⟩, h4⟩, h5⟩, h6⟩; exact ⟨h1, ⟨h2, h3, h4, by omega⟩, h6⟩
  · rintro ⟨h1, ⟨h2, h3, h4, h5⟩, h6⟩; exact ⟨⟨⟨⟨⟨h1, h2⟩, h3⟩, h4⟩, by omega⟩, h6⟩
set_option maxRecDepth 100000 in
set_option maxHeartbeats 2000000 in
theorem ovalid_any (A : Option Addr) (c : Nat) (l : List Ver) (w : World) (hl : l.length ≤ 100000) (ht : ∀ v ∈ l, v.tags.size ≤ 900000 ∧ v.bytes.size ≤ 9223372036854775807) (hr : ReadsVer w w.heap.size A l) :
    Calls Tryz.prog 41 #[.slice A l.length c] w fun e w' => e = .returned (.bool (validV l)) ∧ Ext w w' := by
  have HR := Lib.hid hr
  have HT := Lib.hid ht
  clear hr ht
  go_enter Tryz.func41, Tryz.ntmps41
  go_wp2
  go_loopw [3, 8] (fun la i wr => ∃ k : Nat, k ≤ l.length ∧ la = .int .i64 (lastOf l k) ∧ i = .int .i64 k ∧ Hid (OkTo listedB l k) ∧ Hid (Ext w wr)) (fun _ i _ => l.length - (intOf i).toNat)
  case atStart => exact ⟨0, Nat.zero_le _, rfl, rfl, Lib.hid (OkTo.zero l), Lib.hid (Ext.refl _)⟩
  case round =>
    obtain ⟨k, hk, rfl, rfl, HK, HX⟩ := hrel
    by_cases hlt : k < l.length
    · obtain ⟨b, off, rfl, hb, hrow, hcl⟩ := ReadsVer.cell (HR.out.ext HX.out (Nat.le_refl _)) k hlt
      have hsz := HX.out.size
      obtain ⟨ht1, ht2⟩ := HT.out _ (List.getElem_mem hlt)
      have HLs := Lib.hid (fun W => olisted_any l[k].tags W ht1)
      have HSn := Lib.hid (fun h => HK.out.snoc hlt h)
      have HNo := Lib.hid (fun h => validV_no (OkTo.not (lb := listedB) hlt h))
      have HLa := Lib.hid (lastOf_succ hlt)
      generalize lastOf l k = la at *
      generalize l[k] = v at *
      clear ht1
      go_wp2
      refine wp_world (fun W => Ext w W ∧ RowAt W wr.heap.size (verC v)) ⟨(by (repeat (first | with_reducible exact HX.out | with_reducible exact Ext.refl _ | with_reducible refine Ext.drew ?_ | with_reducible refine Ext.drewN ?_ _ | with_reducible refine Ext.alloc ?_ _ | with_reducible refine Ext.onto ?_ _ | (with_reducible refine Ext.setCells ?_ ?_ _ _; rotate_left; focus (first | omega | (simp; done) | (simp; omega))) | (with_reducible refine Ext.setCell ?_ ?_ _; rotate_left; focus (first | omega | (simp; done) | (simp; omega)))))), (RowAt.newAt (cs := verC noVer) (t := 107) rfl).store rfl⟩ ?_
      rintro W1 ⟨x1, r1⟩
      have HX1 := Lib.hid x1
      have HR1 := Lib.hid r1
      have q0 : W1.cell? ⟨wr.heap.size, 0, none⟩ = some (.int .i64 v.fr) := r1.cell 0
      have q1 : W1.cell? ⟨wr.heap.size, 1, none⟩ = some (.int .i64 v.status) := r1.cell 1
      have q2 : W1.cell? ⟨wr.heap.size, 2, none⟩ = some (.string v.bytes) := r1.cell 2
      have q3 : W1.cell? ⟨wr.heap.size, 3, none⟩ = some (.string v.tags) := r1.cell 3
      have hl1 := r1.lt
      clear x1 r1 hrow hcl
      refine wp_region_later_tail 20 (by kernel_rfl) (by kernel_rfl) ?_
      simp only [List.take_succ_cons, List.take_zero, List.drop_succ_cons, List.drop_zero]
      repeat (first | go_big_quiet_step ((go_at_call 96; exact quietE (HLs.out _))) | quiet_step ((go_at_call 96; exact quietE (HLs.out _))))
      refine wpQuiet_nil ?_
      rintro _ ⟨xq, rfl⟩
      go_wp2_with (go_at_call 47; refine (show Hid _ from ?_).out)
      refine Lib.hid ?_
      refine (oall6 _ _ _ _ _ _ _ _ _ (later_size _ _).symm).mono ?_
      have HE := Lib.hid (okV_walk (last := la) (v := v) rfl rfl rfl rfl rfl)
      rintro e w' ⟨rfl, hxl⟩; obtain ⟨xl, rfl⟩ := hxl.asLater; clear hxl
      by_cases hok : OkV listedB la v
      · rw [HE.out.2 hok]
        have HS2 := Lib.hid (HSn.out hok)
        clear hok HE HNo HSn
        go_wp2
        go_roundw
        case rel => exact ⟨k + 1, by omega, by rw [HLa.out], by go_num, HS2, Lib.hid (by (repeat (first | with_reducible exact HX1.out | with_reducible exact Ext.refl _ | with_reducible refine Ext.drew ?_ | with_reducible refine Ext.drewN ?_ _ | with_reducible refine Ext.alloc ?_ _ | with_reducible refine Ext.onto ?_ _ | (with_reducible refine Ext.setCells ?_ ?_ _ _; rotate_left; focus (first | omega | (simp; done) | (simp; omega))) | (with_reducible refine Ext.setCell ?_ ?_ _; rotate_left; focus (first | omega | (simp; done) | (simp; omega))))))⟩
        case measure => simp [intOf]; omega
      · rw [Bool.eq_false_iff.2 (fun h => hok (HE.out.1 h))]
        have HN2 := Lib.hid (HNo.out hok)
        clear hok HE HNo HSn
        go_wp2
        go_ret
        exact ⟨ret_bool HN2.out.symm, (by (repeat (first | with_reducible exact HX1.out | with_reducible exact Ext.refl _ | with_reducible refine Ext.drew ?_ | with_reducible refine Ext.drewN ?_ _ | with_reducible refine Ext.alloc ?_ _ | with_reducible refine Ext.onto ?_ _ | (with_reducible refine Ext.setCells ?_ ?_ _ _; rotate_left; focus (first | omega | (simp; done) | (simp; omega))) | (with_reducible refine Ext.setCell ?_ ?_ _; rotate_left; focus (first | omega | (simp; done) | (simp; omega))))))⟩
    · have e : k = l.length := by omega
      subst e
      by_cases h1000 : l.length ≤ 1000
      · have HV : Hid (validV l = true) := Lib.hid ((validV_iff l).2 ⟨HK.out, h1000⟩)
        have d1 : decide ((l.length : Int) ≤ 1000) = true := by simp; omega
        clear HK
        go_wp2
        go_ret
        exact ⟨ret_bool (by rw [HV.out]), HX.out⟩
      · have HV : Hid (validV l = false) := Lib.hid (validV_no (fun h => h1000 h.2))
        have d1 : decide ((l.length : Int) ≤ 1000) = false := by simp; omega
        clear HK
        go_wp2
        go_ret
        exact ⟨ret_bool (by rw [HV.out]), HX.out⟩
end Go.Proofs.YtpfhmcdcmepfdaaGreatDoor


set_option linter.unusedVariables false
set_option linter.unusedSimpArgs false
namespace Go.Proofs.YtpfhmcdcmepfdaaGreatDoor
open Go.RowKit Go.Shelf
open Go.Proofs

theorem place1_any (v : Ver) (b : Nat) (t : Int) (w : World) (hb : w.cell? ⟨b, 0, none⟩ = some (.int .i64 t)) (hlt : b < w.heap.size) :
    Calls Tryz.prog 142 #[.agg (verC v), .pointer (some ⟨b, 0, none⟩)] w fun e w' => e = .returned (.bool (decide (t < v.fr))) ∧ Ext w w' := by
  go_enter Tryz.func142, Tryz.ntmps142
  go_wp2
  go_ret
  exact ⟨rfl, (by (repeat (first | with_reducible exact Ext.refl _ | with_reducible exact Ext.refl _ | with_reducible refine Ext.drew ?_ | with_reducible refine Ext.drewN ?_ _ | with_reducible refine Ext.alloc ?_ _ | with_reducible refine Ext.onto ?_ _ | (with_reducible refine Ext.setCells ?_ ?_ _ _; rotate_left; focus (first | omega | (simp; done) | (simp; omega))) | (with_reducible refine Ext.setCell ?_ ?_ _; rotate_left; focus (first | omega | (simp; done) | (simp; omega))))))⟩
def idxN (l : List Ver) (t : Int) : Int := if placeN l t < l.length then (placeN l t : Int) else -1
theorem place_take {l : List Ver} {t : Int} {k : Nat} (hk : k ≤ l.length) (h1 : ∀ i (h : i < l.length), i < k → l[i].fr ≤ t) : (∀ h : k < l.length, t < l[k].fr) → placeN l t = k := fun h2 => placeN_is hk h1 h2
set_option maxRecDepth 100000 in
set_option maxHeartbeats 1000000 in
theorem vindex_any (A : Option Addr) (c : Nat) (l : List Ver) (bt : Nat) (t : Int) (w : World) (hl : l.length ≤ 100000) (hr : ReadsVer w w.heap.size A l) (hb : w.cell? ⟨bt, 0, none⟩ = some (.int .i64 t)) (hlb : bt < w.heap.size) :
    Calls Tryz.prog 141 #[.slice A l.length c, .func (.func 142) #[] #[.pointer (some ⟨bt, 0, none⟩)]] w fun e w' => e = .returned (.int .i64 (idxN l t)) ∧ Ext w w' := by
  have HR := Lib.hid hr
  have HB := Lib.hid hb
  clear hr hb
  go_enter Tryz.func141, Tryz.ntmps141
  go_wp2
  go_loopw [8] (fun i wr => ∃ k : Nat, k ≤ l.length ∧ i = .int .i64 k ∧ Ext w wr ∧ Hid (∀ i (h : i < l.length), i < k → l[i].fr ≤ t)) (fun i _ => l.length - (intOf i).toNat)
  case atStart => exact ⟨0, Nat.zero_le _, rfl, Ext.refl _, Lib.hid (fun i _ h => absurd h (Nat.not_lt_zero _))⟩
  case round =>
    obtain ⟨k, hk, rfl, hx, HJ⟩ := hrel
    have HX := Lib.hid hx
    by_cases hlt : k < l.length
    · obtain ⟨b, off, rfl, hb, hrow, _⟩ := ReadsVer.cell (HR.out.ext hx (Nat.le_refl _)) k hlt
      have hsz := hx.size
      have HP := Lib.hid (fun (W : World) (hx2 : Ext wr W) => place1_any l[k] bt t W ((hx.trans hx2).cell (p := ⟨bt, 0, none⟩) hlb |>.trans HB.out) (by have := (hx.trans hx2).size; omega))
      by_cases hv : t < l[k].fr
      · have HI : Hid (placeN l t = k) := Lib.hid (placeN_is hk HJ.out (fun _ => hv))
        have hd : decide (t < l[k].fr) = true := by simpa using hv
        rw [hd] at HP
        generalize l[k] = v at *
        clear hx hd hv
        go_wp2_with (go_at_call 142; refine (HP.out _ (Ext.refl _)).mono ?_; rintro e w' ⟨rfl, hxl⟩; obtain ⟨xl, rfl⟩ := hxl.asLater; clear hxl)
        go_ret
        exact ⟨ret_int (by rw [idxN, HI.out, if_pos hlt]), (by (repeat (first | with_reducible exact HX.out | with_reducible exact Ext.refl _ | with_reducible refine Ext.drew ?_ | with_reducible refine Ext.drewN ?_ _ | with_reducible refine Ext.alloc ?_ _ | with_reducible refine Ext.onto ?_ _ | (with_reducible refine Ext.setCells ?_ ?_ _ _; rotate_left; focus (first | omega | (simp; done) | (simp; omega))) | (with_reducible refine Ext.setCell ?_ ?_ _; rotate_left; focus (first | omega | (simp; done) | (simp; omega))))))⟩
      · have HN := Lib.hid (show ∀ i (h : i < l.length), i < k + 1 → l[i].fr ≤ t from fun i h hi => by
          by_cases e : i = k
          · subst e; omega
          · exact HJ.out i h (by omega))
        have hd : decide (t < l[k].fr) = false := by simpa using hv
        rw [hd] at HP
        generalize l[k] = v at *
        clear hx hd hv
        go_wp2_with (go_at_call 142; refine (HP.out _ (Ext.refl _)).mono ?_; rintro e w' ⟨rfl, hxl⟩; obtain ⟨xl, rfl⟩ := hxl.asLater; clear hxl)
        go_roundw
        case rel => exact ⟨k + 1, by omega, by go_num, (by (repeat (first | with_reducible exact HX.out | with_reducible exact Ext.refl _ | with_reducible refine Ext.drew ?_ | with_reducible refine Ext.drewN ?_ _ | with_reducible refine Ext.alloc ?_ _ | with_reducible refine Ext.onto ?_ _ | (with_reducible refine Ext.setCells ?_ ?_ _ _; rotate_left; focus (first | omega | (simp; done) | (simp; omega))) | (with_reducible refine Ext.setCell ?_ ?_ _; rotate_left; focus (first | omega | (simp; done) | (simp; omega)))))), HN⟩
        case measure => simp [intOf]; omega
    · have HI : Hid (placeN l t = l.length) := Lib.hid (placeN_is (Nat.le_refl _) (fun i h _ => HJ.out i h (by omega)) (fun h => absurd h (Nat.lt_irrefl _)))
      clear hx
      go_wp2
      go_ret
      exact ⟨ret_int (by rw [idxN, HI.out, if_neg (Nat.lt_irrefl _)]), HX.out⟩
set_option maxHeartbeats 1000000 in
theorem oplace_any (A : Option Addr) (c : Nat) (l : List Ver) (t : Int) (w : World) (hl : l.length ≤ 100000) (hr : ReadsVer w w.heap.size A l) :
    Calls Tryz.prog 97 #[.slice A l.length c, .int .i64 t] w fun e w' => e = .returned (.int .i64 (placeN l t)) ∧ Ext w w' := by
  have hp := placeN_le l t
  have HV := Lib.hid (fun (W : World) (b : Nat) (hx : Ext w W) (hb : W.cell? ⟨b, 0, none⟩ = some (.int .i64 t)) (hlb : b < W.heap.size) => vindex_any A c l b t W hl (hr.on hx) hb hlb)
  clear hr
  by_cases h : placeN l t < l.length
  · rw [show idxN l t = placeN l t from if_pos h] at HV
    generalize placeN l t = p at *
    go_enter Tryz.func97, Tryz.ntmps97
    go_wp2_with (go_at_call 141; refine (HV.out _ _ (by (repeat (first | with_reducible exact Ext.refl _ | with_reducible exact Ext.refl _ | with_reducible refine Ext.drew ?_ | with_reducible refine Ext.drewN ?_ _ | with_reducible refine Ext.alloc ?_ _ | with_reducible refine Ext.onto ?_ _ | (with_reducible refine Ext.setCells ?_ ?_ _ _; rotate_left; focus (first | omega | (simp; done) | (simp; omega))) | (with_reducible refine Ext.setCell ?_ ?_ _; rotate_left; focus (first | omega | (simp; done) | (simp; omega)))))) (by simp [go_sem]) (by simp)).mono ?_; rintro e w' ⟨rfl, hxl⟩; obtain ⟨xl, rfl⟩ := hxl.asLater; clear hxl)
    go_ret
    exact ⟨rfl, (by (repeat (first | with_reducible exact Ext.refl _ | with_reducible exact Ext.refl _ | with_reducible refine Ext.drew ?_ | with_reducible refine Ext.drewN ?_ _ | with_reducible refine Ext.alloc ?_ _ | with_reducible refine Ext.onto ?_ _ | (with_reducible refine Ext.setCells ?_ ?_ _ _; rotate_left; focus (first | omega | (simp; done) | (simp; omega))) | (with_reducible refine Ext.setCell ?_ ?_ _; rotate_left; focus (first | omega | (simp; done) | (simp; omega))))))⟩
  · rw [show idxN l t = -1 from if_neg h] at HV
    have e : placeN l t = l.length := by omega
    rw [e]
    clear e h hp
    go_enter Tryz.func97, Tryz.ntmps97
    go_wp2_with (go_at_call 141; refine (HV.out _ _ (by (repeat (first | with_reducible exact Ext.refl _ | with_reducible exact Ext.refl _ | with_reducible refine Ext.drew ?_ | with_reducible refine Ext.drewN ?_ _ | with_reducible refine Ext.alloc ?_ _ | with_reducible refine Ext.onto ?_ _ | (with_reducible refine Ext.setCells ?_ ?_ _ _; rotate_left; focus (first | omega | (simp; done) | (simp; omega))) | (with_reducible refine Ext.setCell ?_ ?_ _; rotate_left; focus (first | omega | (simp; done) | (simp; omega)))))) (by simp [go_sem]) (by simp)).mono ?_; rintro e w' ⟨rfl, hxl⟩; obtain ⟨xl, rfl⟩ := hxl.asLater; clear hxl)
    go_ret
    exact ⟨rfl, (by (repeat (first | with_reducible exact Ext.refl _ | with_reducible exact Ext.refl _ | with_reducible refine Ext.drew ?_ | with_reducible refine Ext.drewN ?_ _ | with_reducible refine Ext.alloc ?_ _ | with_reducible refine Ext.onto ?_ _ | (with_reducible refine Ext.setCells ?_ ?_ _ _; rotate_left; focus (first | omega | (simp; done) | (simp; omega))) | (with_reducible refine Ext.setCell ?_ ?_ _; rotate_left; focus (first | omega | (simp; done) | (simp; omega))))))⟩
/-! ### At -/
def verB1 (x : Value) : Sem Next := do pure (.value (← Instr.build 107 #[(1, x)]))
theorem verB1_x (ρ : Operand → Value) (dst : Option Tmp) (x : Operand) (t : TypeId) (pos : String) (after : Array Edge) (guard : Option (Nat × Bool)) : execOp ρ { dst, op := .build 107 #[(1, x)], type := t, pos, after, guard } = verB1 (ρ x) := by kernel_rfl
theorem verB1_run (W : World) : (verB1 (.int .i64 404)).run Tryz.prog W = .ok (.value (.agg (verC lostVer))) W := by kernel_rfl
attribute [go_sem ↓] verB1_x
attribute [go_sem] verB1_run
set_option maxHeartbeats 1000000 in
theorem oat_any (A : Option Addr) (c : Nat) (l : List Ver) (t : Int) (w : World) (hl : l.length ≤ 100000) (hr : ReadsVer w w.heap.size A l) :
    Calls Tryz.prog 42 #[.slice A l.length c, .int .i64 t] w fun e w' => e = .returned (.agg (verC (atN l t))) ∧ Ext w w' := by
  have HP := Lib.hid (fun (W : World) (hx : Ext w W) => oplace_any A c l t W hl (hr.on hx))
  have hp := placeN_le l t
  by_cases h0 : placeN l t = 0
  · have HA : Hid (atN l t = lostVer) := Lib.hid (by unfold atN; rw [if_pos h0])
    rw [h0] at HP
    rw [HA.out]
    clear hr hp h0
    go_enter Tryz.func42, Tryz.ntmps42
    go_wp2_with (go_at_call 97; refine (HP.out _ (by (repeat (first | with_reducible exact Ext.refl _ | with_reducible exact Ext.refl _ | with_reducible refine Ext.drew ?_ | with_reducible refine Ext.drewN ?_ _ | with_reducible refine Ext.alloc ?_ _ | with_reducible refine Ext.onto ?_ _ | (with_reducible refine Ext.setCells ?_ ?_ _ _; rotate_left; focus (first | omega | (simp; done) | (simp; omega))) | (with_reducible refine Ext.setCell ?_ ?_ _; rotate_left; focus (first | omega | (simp; done) | (simp; omega))))))).mono ?_; rintro e w' ⟨rfl, hxl⟩; obtain ⟨xl, rfl⟩ := hxl.asLater; clear hxl)
    refine post_row ver_ty Tryz.results42 rfl rfl ((RowAt.newAt (cs := verC noVer) (t := 107) rfl).later _ |>.stored (n := 4) rfl rfl (by omega)) ⟨rfl, (by (repeat (first | with_reducible exact Ext.refl _ | with_reducible exact Ext.refl _ | with_reducible refine Ext.drew ?_ | with_reducible refine Ext.drewN ?_ _ | with_reducible refine Ext.alloc ?_ _ | with_reducible refine Ext.onto ?_ _ | (with_reducible refine Ext.setCells ?_ ?_ _ _; rotate_left; focus (first | omega | (simp; done) | (simp; omega))) | (with_reducible refine Ext.setCell ?_ ?_ _; rotate_left; focus (first | omega | (simp; done) | (simp; omega))))))⟩
  · obtain ⟨hpl, ha⟩ := atN_pos (l := l) (t := t) (by omega)
    obtain ⟨b, off, rfl, hb, hrow, _⟩ := ReadsVer.cell hr (placeN l t - 1) hpl
    rw [ha]
    have hp1 : 0 < placeN l t := by omega
    generalize l[placeN l t - 1] = v at *
    generalize placeN l t = p at *
    have d0 : decide (0 < p) = true := by simp; omega
    have d1 : decide (0 < (p : Int)) = true := by simp; omega
    clear hr ha
    go_enter Tryz.func42, Tryz.ntmps42
    go_wp2_with (go_at_call 97; refine (HP.out _ (by (repeat (first | with_reducible exact Ext.refl _ | with_reducible exact Ext.refl _ | with_reducible refine Ext.drew ?_ | with_reducible refine Ext.drewN ?_ _ | with_reducible refine Ext.alloc ?_ _ | with_reducible refine Ext.onto ?_ _ | (with_reducible refine Ext.setCells ?_ ?_ _ _; rotate_left; focus (first | omega | (simp; done) | (simp; omega))) | (with_reducible refine Ext.setCell ?_ ?_ _; rotate_left; focus (first | omega | (simp; done) | (simp; omega))))))).mono ?_; rintro e w' ⟨rfl, hxl⟩; obtain ⟨xl, rfl⟩ := hxl.asLater; clear hxl)
    refine post_row ver_ty Tryz.results42 rfl rfl ((RowAt.newAt (cs := verC noVer) (t := 107) rfl).later _ |>.stored (n := 4) rfl rfl (by omega)) ⟨rfl, (by (repeat (first | with_reducible exact Ext.refl _ | with_reducible exact Ext.refl _ | with_reducible refine Ext.drew ?_ | with_reducible refine Ext.drewN ?_ _ | with_reducible refine Ext.alloc ?_ _ | with_reducible refine Ext.onto ?_ _ | (with_reducible refine Ext.setCells ?_ ?_ _ _; rotate_left; focus (first | omega | (simp; done) | (simp; omega))) | (with_reducible refine Ext.setCell ?_ ?_ _; rotate_left; focus (first | omega | (simp; done) | (simp; omega))))))⟩
end Go.Proofs.YtpfhmcdcmepfdaaGreatDoor


set_option linter.unusedVariables false
set_option linter.unusedSimpArgs false
namespace Go.Proofs.YtpfhmcdcmepfdaaGreatDoor
open Go.RowKit Go.Shelf
open Go.Proofs

theorem odig_d (s : ByteArray) (D : List Int) (w : World) (hk : Konst 1 w) (hl : s.size ≤ 140737488351200) (h : dgN s = D) :
    Calls Tryz.prog 40 #[.string s] w fun e w' => e = .returned (.agg (dgC D)) ∧ Ext w w' := by
  have h16 : D.length = 16 := by rw [← h]; exact dgN_len s
  rw [dgC_cells h16]; exact odigest_is s D w hk hl h
theorem rdig_d (s : ByteArray) (D : List Int) (w : World) (hk : RKonst w) (hl : s.size ≤ 140737488351200) (h : dgN s = D) :
    Calls Tryz.prog 52 #[.string s] w fun e w' => e = .returned (.agg (dgC D)) ∧ Ext w w' := by
  have h16 : D.length = 16 := by rw [← h]; exact dgN_len s
  rw [dgC_cells h16]; exact rdigest_is s D w hk hl h
theorem eq_dd {a b : List Int} (ha : a.length = 16) (hb : b.length = 16) (ba : Byt a) (bb : Byt b) (W : World) : (binOp .eql 25 (.agg (dgC a)) (.agg (dgC b))).run Tryz.prog W = .ok (.bool (decide (a = b))) W := by
  have h := eq_dig ha hb ba bb W
  rwa [← dgC_cells ha] at h
theorem neq_dd {a b : List Int} (ha : a.length = 16) (hb : b.length = 16) (ba : Byt a) (bb : Byt b) (W : World) : (binOp .neq 25 (.agg (dgC a)) (.agg (dgC b))).run Tryz.prog W = .ok (.bool (!(decide (a = b)))) W := by
  have h := neq_dig ha hb ba bb W
  rwa [← dgC_cells ha] at h
theorem dgC_size (l : List Int) : (dgC l).size = 16 := rfl
theorem dgC_all (l : List Int) : rowSub (dgC l) 0 16 = some (dgC l) := rowSub_all _ _ rfl
theorem an_size (a : An) : (anC a).size = 21 := rfl
theorem an_all (a : An) : rowSub (anC a) 0 21 = some (anC a) := rowSub_all _ _ rfl
theorem an_body (a : An) : rowSub (anC a) 2 16 = some (dgC a.body) := by kernel_rfl
theorem an_g0 (a : An) : (anC a)[0]? = some (.int .i64 a.status) := rfl
theorem an_g1 (a : An) : (anC a)[1]? = some (.int .i64 a.size) := rfl
theorem an_g18 (a : An) : (anC a)[18]? = some (.string a.bytes) := rfl
theorem an_g19 (a : An) : (anC a)[19]? = some (.string a.tags) := rfl
theorem an_g20 (a : An) : (anC a)[20]? = some (.bool a.same) := rfl
theorem an_set20 (a : An) (b : Bool) : (anC a).setIfInBounds 20 (.bool b) = anC { a with same := b } := by kernel_rfl
theorem an_set18 (a : An) (b : ByteArray) : (anC a).setIfInBounds 18 (.string b) = anC { a with bytes := b } := by kernel_rfl
theorem an_fits (a : An) : fitsRow 21 (anC a) = true := by simp [fitsRow, anC, dgC, Value.oneCell']
attribute [go_sem] dgC_size dgC_all an_size an_all an_body an_g0 an_g1 an_g18 an_g19 an_g20 an_set20 an_set18 an_fits
theorem ans_ty : RowTy Tryz.prog 27 21 := ⟨by kernel_rfl, by kernel_rfl⟩
theorem ans_ld (w : World) (b o : Nat) : (rowLoad 27 21 (.pointer (some ⟨b, o, none⟩))).run Tryz.prog w = rowLoadR Tryz.prog w 27 21 b o (rowOf w b o 21) := run_rowLoad ans_ty w b o
theorem ans_st (w : World) (b o : Nat) (cells : Array Value) : (rowStore 27 21 (.pointer (some ⟨b, o, none⟩)) (.agg cells)).run Tryz.prog w = rowStoreR Tryz.prog w 27 21 b o cells (roomOf w b o 21 && fitsRow 21 cells) := run_rowStore ans_ty w b o cells
theorem ans_lv (w : World) (b o : Nat) : (loadVar 27 ⟨b, o, none⟩).run Tryz.prog w = varRes Tryz.prog w 27 b o (rowOf w b o 21) := loadVar_row ans_ty w b o
theorem ans_al (w : World) : (rowAlloc 27).run Tryz.prog w = .ok (.value (.pointer (some ⟨w.heap.size, 0, none⟩))) (w.alloc (.cells (anC noAn) 27)) := run_rowAlloc (by kernel_rfl) w
theorem ans_xl (ρ : Operand → Value) (dst : Option Tmp) (x : Operand) (t : TypeId) (pos : String) (after : Array Edge) (guard : Option (Nat × Bool)) : execOp ρ { dst, op := .load 27 x, type := t, pos, after, guard } = rowLoad 27 21 (ρ x) := rfl
theorem ans_xs (ρ : Operand → Value) (dst : Option Tmp) (x y : Operand) (t : TypeId) (pos : String) (after : Array Edge) (guard : Option (Nat × Bool)) : execOp ρ { dst, op := .store 27 x y, type := t, pos, after, guard } = rowStore 27 21 (ρ x) (ρ y) := rfl
theorem ans_xa (ρ : Operand → Value) (dst : Option Tmp) (t : TypeId) (pos : String) (after : Array Edge) (guard : Option (Nat × Bool)) : execOp ρ { dst, op := .alloc 27, type := t, pos, after, guard } = rowAlloc 27 := rfl
attribute [go_sem ↓] ans_xl ans_xs ans_xa
attribute [go_sem] ans_ld ans_st ans_al
def ansB5 (x0 x1 x2 x4 x3 : Value) : Sem Next := do pure (.value (← Instr.build 27 #[(0, x0), (1, x1), (2, x2), (4, x4), (3, x3)]))
def ansB4 (x0 x1 x2 x4 : Value) : Sem Next := do pure (.value (← Instr.build 27 #[(0, x0), (1, x1), (2, x2), (4, x4)]))
theorem ansB5_x (ρ : Operand → Value) (dst : Option Tmp) (x0 x1 x2 x4 x3 : Operand) (t : TypeId) (pos : String) (after : Array Edge) (guard : Option (Nat × Bool)) : execOp ρ { dst, op := .build 27 #[(0, x0), (1, x1), (2, x2), (4, x4), (3, x3)], type := t, pos, after, guard } = ansB5 (ρ x0) (ρ x1) (ρ x2) (ρ x4) (ρ x3) := by kernel_rfl
theorem ansB4_x (ρ : Operand → Value) (dst : Option Tmp) (x0 x1 x2 x4 : Operand) (t : TypeId) (pos : String) (after : Array Edge) (guard : Option (Nat × Bool)) : execOp ρ { dst, op := .build 27 #[(0, x0), (1, x1), (2, x2), (4, x4)], type := t, pos, after, guard } = ansB4 (ρ x0) (ρ x1) (ρ x2) (ρ x4) := by kernel_rfl
theorem ansB5_run (s n : Int) (D : List Int) (t b : ByteArray) (W : World) : (ansB5 (.int .i64 s) (.int .i64 n) (.agg (dgC D)) (.string t) (.string b)).run Tryz.prog W = .ok (.value (.agg (anC ⟨s, n, D, b, t, false⟩))) W := by kernel_rfl
theorem ansB4_run (s n : Int) (D : List Int) (t : ByteArray) (W : World) : (ansB4 (.int .i64 s) (.int .i64 n) (.agg (dgC D)) (.string t)).run Tryz.prog W = .ok (.value (.agg (anC ⟨s, n, D, ByteArray.empty, t, false⟩))) W := by kernel_rfl
attribute [go_sem ↓] ansB5_x ansB4_x
attribute [go_sem] ansB5_run ansB4_run
def softsL (L : List Soft) (i : Nat) : Soft := L.getD i Soft.any
def VerIn (v : Ver) : Prop := v.bytes.size ≤ 140737488351200
set_option maxRecDepth 100000 in
set_option maxHeartbeats 2000000 in
theorem oanswer_any (A : Option Addr) (c : Nat) (l : List Ver) (t : Int) (known : List Int) (w : World) (hl : l.length ≤ 100000) (hr : ReadsVer w w.heap.size A l) (h16 : known.length = 16) (hby : Byt known) (hv : VerIn (atN l t)) (hk : Konst 1 w) :
    Calls Tryz.prog 43 #[.slice A l.length c, .int .i64 t, .agg (dgC known)] w fun e w' => e = .returned (.agg (anC (ansOf (atN l t) known))) ∧ Ext w w' := by
  have HA := Lib.hid (fun (W : World) (hx : Ext w W) => oat_any A c l t W hl (hr.on hx))
  have HK := Lib.hid hk
  clear hr hk
  generalize atN l t = v at *
  obtain ⟨D, hD⟩ : ∃ D, dgN v.bytes = D := ⟨_, rfl⟩
  have HDg := Lib.hid (fun (W : World) (hx : Ext w W) => odig_d v.bytes D W (RowAt.ext HK.out hx) hv hD)
  have heq := eq_dd (a := D) (b := known) (by rw [← hD]; exact dgN_len _) h16 (by rw [← hD]; exact dgN_byt _) hby
  have HO : Hid (ansOf v known = if D = known then ⟨v.status, v.bytes.size, D, ByteArray.empty, v.tags, true⟩ else ⟨v.status, v.bytes.size, D, v.bytes, v.tags, false⟩) := Lib.hid (by unfold ansOf; rw [hD])
  clear hD h16 hby
  go_enter Tryz.func43, Tryz.ntmps43
  go_wp2_with (go_at_call 42; refine (HA.out _ (by (repeat (first | with_reducible exact Ext.refl _ | with_reducible exact Ext.refl _ | with_reducible refine Ext.drew ?_ | with_reducible refine Ext.drewN ?_ _ | with_reducible refine Ext.alloc ?_ _ | with_reducible refine Ext.onto ?_ _ | (with_reducible refine Ext.setCells ?_ ?_ _ _; rotate_left; focus (first | omega | (simp; done) | (simp; omega))) | (with_reducible refine Ext.setCell ?_ ?_ _; rotate_left; focus (first | omega | (simp; done) | (simp; omega))))))).mono ?_; rintro e w' ⟨rfl, hxl⟩; obtain ⟨xl, rfl⟩ := hxl.asLater; clear hxl)
  refine wp_world (fun W => Ext w W ∧ RowAt W w.heap.size (dgC known) ∧ RowAt W (w.heap.size + 1) (anC noAn) ∧ RowAt W (w.heap.size + 1 + 1 + xl.n) (verC v)) ⟨(by (repeat (first | with_reducible exact Ext.refl _ | with_reducible exact Ext.refl _ | with_reducible refine Ext.drew ?_ | with_reducible refine Ext.drewN ?_ _ | with_reducible refine Ext.alloc ?_ _ | with_reducible refine Ext.onto ?_ _ | (with_reducible refine Ext.setCells ?_ ?_ _ _; rotate_left; focus (first | omega | (simp; done) | (simp; omega))) | (with_reducible refine Ext.setCell ?_ ?_ _; rotate_left; focus (first | omega | (simp; done) | (simp; omega)))))), (by (repeat (first | with_reducible exact RowAt.new _ _ _ | with_reducible refine RowAt.drew ?_ | with_reducible refine RowAt.later ?_ _ | with_reducible exact RowAt.newAt (by first | rfl | omega | (simp [later_size, setCells_size]; done) | (simp [later_size, setCells_size]; omega)) | with_reducible refine RowAt.alloc ?_ _ | with_reducible apply RowAt.store | with_reducible refine RowAt.others ?_ ?_ _ _ | with_reducible refine RowAt.other ?_ ?_ _)); all_goals first | omega | (simp; done) | (simp; omega) | (simp [go_sem]; done)), (by (repeat (first | with_reducible exact RowAt.newAt (cs := anC noAn) (t := 27) (by simp) | with_reducible refine RowAt.drew ?_ | with_reducible refine RowAt.later ?_ _ | with_reducible exact RowAt.newAt (by first | rfl | omega | (simp [later_size, setCells_size]; done) | (simp [later_size, setCells_size]; omega)) | with_reducible refine RowAt.alloc ?_ _ | with_reducible apply RowAt.store | with_reducible refine RowAt.others ?_ ?_ _ _ | with_reducible refine RowAt.other ?_ ?_ _)); all_goals first | omega | (simp; done) | (simp; omega) | (simp [go_sem]; done)), (RowAt.newAt (cs := verC noVer) (t := 107) (by simp [later_size])).store rfl⟩ ?_
  have hB7 : w.heap.size + 1 < w.heap.size + 1 + 1 + xl.n := by omega
  generalize w.heap.size + 1 + 1 + xl.n = B7 at *
  rintro W1 ⟨x1, r1, s1, u1⟩
  have HX1 := Lib.hid x1
  have HR1 := Lib.hid r1
  have HS1 := Lib.hid s1
  have q1 : W1.cell? ⟨B7, 1, none⟩ = some (.int .i64 v.status) := u1.cell 1
  have q2 : W1.cell? ⟨B7, 2, none⟩ = some (.string v.bytes) := u1.cell 2
  have q3 : W1.cell? ⟨B7, 3, none⟩ = some (.string v.tags) := u1.cell 3
  have hl1 := u1.lt
  have HQ1 := Lib.hid u1
  clear x1 r1 s1 u1
  refine wp_region_soft 14 (softsL [.eq (.pointer (some ⟨B7, 1, none⟩)), .eq (.int .i64 v.status), .eq (.pointer (some ⟨B7, 2, none⟩)), .eq (.string v.bytes), .eq (.int .i64 v.bytes.size), .eq (.pointer (some ⟨B7, 2, none⟩)), .eq (.string v.bytes), .eq (.agg (dgC D)), .eq (.pointer (some ⟨B7, 3, none⟩)), .eq (.string v.tags), .eq (.pointer (some ⟨B7, 2, none⟩)), .eq (.string v.bytes), .eq (.agg (anC ⟨v.status, v.bytes.size, D, v.bytes, v.tags, false⟩)), newRow W1.heap.size (anC noAn)]) (by kernel_rfl) (by kernel_rfl) (lt_cons ?_ (lt_cons ?_ (lt_cons ?_ (lt_cons ?_ (lt_cons ?_ (lt_cons ?_ (lt_cons ?_ (lt_cons ?_ (lt_cons ?_ (lt_cons ?_ (lt_cons ?_ (lt_cons ?_ (lt_cons ?_ (lt_cons ?_ lt_none)))))))))))))) ?_
  ·
    intro o ho xs W hW hd Q' hQ; obtain rfl := Option.some.inj ho; clear ho; simp only [fillAt, dstOf, List.getElem?_cons_zero, List.getElem?_cons_succ, Option.bind_some, Act.put, List.setIfInBounds_toArray, List.set_cons_zero, List.set_cons_succ, Nat.zero_add, Nat.reduceAdd] at hQ ⊢; have HQ := Lib.hid hQ; have HD := Lib.hid hd; have HW := Lib.hid hW; have hsW := hW.size; clear hQ hd hW
    go_wp2
    exact HQ.out _ _ (Ext.refl _) rfl
  ·
    intro o ho xs W hW hd Q' hQ; obtain rfl := Option.some.inj ho; clear ho; simp only [fillAt, dstOf, List.getElem?_cons_zero, List.getElem?_cons_succ, Option.bind_some, Act.put, List.setIfInBounds_toArray, List.set_cons_zero, List.set_cons_succ, Nat.zero_add, Nat.reduceAdd] at hQ ⊢; have HQ := Lib.hid hQ; have HD := Lib.hid hd; have HW := Lib.hid hW; have hsW := hW.size; clear hQ hd hW
    have hd0 : xs 0 = (.pointer (some ⟨B7, 1, none⟩)) := (HD.out 0 (of_decide_eq_true (by kernel_rfl)))
    generalize xs 0 = x0 at hd0 HQ ⊢; subst hd0
    have hc : W.cell? ⟨B7, 1, none⟩ = some (.int .i64 v.status) := (HW.out.cell (p := ⟨B7, 1, none⟩) (by show B7 < _; omega)).trans q1
    go_wp2
    exact HQ.out _ _ (Ext.refl _) rfl
  ·
    intro o ho xs W hW hd Q' hQ; obtain rfl := Option.some.inj ho; clear ho; simp only [fillAt, dstOf, List.getElem?_cons_zero, List.getElem?_cons_succ, Option.bind_some, Act.put, List.setIfInBounds_toArray, List.set_cons_zero, List.set_cons_succ, Nat.zero_add, Nat.reduceAdd] at hQ ⊢; have HQ := Lib.hid hQ; have HD := Lib.hid hd; have HW := Lib.hid hW; have hsW := hW.size; clear hQ hd hW
    go_wp2
    exact HQ.out _ _ (Ext.refl _) rfl
  ·
    intro o ho xs W hW hd Q' hQ; obtain rfl := Option.some.inj ho; clear ho; simp only [fillAt, dstOf, List.getElem?_cons_zero, List.getElem?_cons_succ, Option.bind_some, Act.put, List.setIfInBounds_toArray, List.set_cons_zero, List.set_cons_succ, Nat.zero_add, Nat.reduceAdd] at hQ ⊢; have HQ := Lib.hid hQ; have HD := Lib.hid hd; have HW := Lib.hid hW; have hsW := hW.size; clear hQ hd hW
    have hd2 : xs 2 = (.pointer (some ⟨B7, 2, none⟩)) := (HD.out 2 (of_decide_eq_true (by kernel_rfl)))
    generalize xs 2 = x2 at hd2 HQ ⊢; subst hd2
    have hc : W.cell? ⟨B7, 2, none⟩ = some (.string v.bytes) := (HW.out.cell (p := ⟨B7, 2, none⟩) (by show B7 < _; omega)).trans q2
    go_wp2
    exact HQ.out _ _ (Ext.refl _) rfl
  ·
    intro o ho xs W hW hd Q' hQ; obtain rfl := Option.some.inj ho; clear ho; simp only [fillAt, dstOf, List.getElem?_cons_zero, List.getElem?_cons_succ, Option.bind_some, Act.put, List.setIfInBounds_toArray, List.set_cons_zero, List.set_cons_succ, Nat.zero_add, Nat.reduceAdd] at hQ ⊢; have HQ := Lib.hid hQ; have HD := Lib.hid hd; have HW := Lib.hid hW; have hsW := hW.size; clear hQ hd hW
    have hd3 : xs 3 = (.string v.bytes) := (HD.out 3 (of_decide_eq_true (by kernel_rfl)))
    generalize xs 3 = x3 at hd3 HQ ⊢; subst hd3
    go_wp2
    exact HQ.out _ _ (Ext.refl _) rfl
  ·
    intro o ho xs W hW hd Q' hQ; obtain rfl := Option.some.inj ho; clear ho; simp only [fillAt, dstOf, List.getElem?_cons_zero, List.getElem?_cons_succ, Option.bind_some, Act.put, List.setIfInBounds_toArray, List.set_cons_zero, List.set_cons_succ, Nat.zero_add, Nat.reduceAdd] at hQ ⊢; have HQ := Lib.hid hQ; have HD := Lib.hid hd; have HW := Lib.hid hW; have hsW := hW.size; clear hQ hd hW
    go_wp2
    exact HQ.out _ _ (Ext.refl _) rfl
  ·
    intro o ho xs W hW hd Q' hQ; obtain rfl := Option.some.inj ho; clear ho; simp only [fillAt, dstOf, List.getElem?_cons_zero, List.getElem?_cons_succ, Option.bind_some, Act.put, List.setIfInBounds_toArray, List.set_cons_zero, List.set_cons_succ, Nat.zero_add, Nat.reduceAdd] at hQ ⊢; have HQ := Lib.hid hQ; have HD := Lib.hid hd; have HW := Lib.hid hW; have hsW := hW.size; clear hQ hd hW
    have hd5 : xs 5 = (.pointer (some ⟨B7, 2, none⟩)) := (HD.out 5 (of_decide_eq_true (by kernel_rfl)))
    generalize xs 5 = x5 at hd5 HQ ⊢; subst hd5
    have hc : W.cell? ⟨B7, 2, none⟩ = some (.string v.bytes) := (HW.out.cell (p := ⟨B7, 2, none⟩) (by show B7 < _; omega)).trans q2
    go_wp2
    exact HQ.out _ _ (Ext.refl _) rfl
  ·
    intro o ho xs W hW hd Q' hQ; obtain rfl := Option.some.inj ho; clear ho; simp only [fillAt, dstOf, List.getElem?_cons_zero, List.getElem?_cons_succ, Option.bind_some, Act.put, List.setIfInBounds_toArray, List.set_cons_zero, List.set_cons_succ, Nat.zero_add, Nat.reduceAdd] at hQ ⊢; have HQ := Lib.hid hQ; have HD := Lib.hid hd; have HW := Lib.hid hW; have hsW := hW.size; clear hQ hd hW
    have hd6 : xs 6 = .string v.bytes := (HD.out 6 (of_decide_eq_true (by kernel_rfl)))
    generalize xs 6 = x6 at hd6 HQ ⊢; subst hd6
    go_wp2_with (go_at_call 40; refine (HDg.out _ (HX1.out.trans HW.out)).mono ?_; rintro e w1 ⟨rfl, hx⟩)
    exact HQ.out _ _ hx rfl
  ·
    intro o ho xs W hW hd Q' hQ; obtain rfl := Option.some.inj ho; clear ho; simp only [fillAt, dstOf, List.getElem?_cons_zero, List.getElem?_cons_succ, Option.bind_some, Act.put, List.setIfInBounds_toArray, List.set_cons_zero, List.set_cons_succ, Nat.zero_add, Nat.reduceAdd] at hQ ⊢; have HQ := Lib.hid hQ; have HD := Lib.hid hd; have HW := Lib.hid hW; have hsW := hW.size; clear hQ hd hW
    go_wp2
    exact HQ.out _ _ (Ext.refl _) rfl
  ·
    intro o ho xs W hW hd Q' hQ; obtain rfl := Option.some.inj ho; clear ho; simp only [fillAt, dstOf, List.getElem?_cons_zero, List.getElem?_cons_succ, Option.bind_some, Act.put, List.setIfInBounds_toArray, List.set_cons_zero, List.set_cons_succ, Nat.zero_add, Nat.reduceAdd] at hQ ⊢; have HQ := Lib.hid hQ; have HD := Lib.hid hd; have HW := Lib.hid hW; have hsW := hW.size; clear hQ hd hW
    have hd8 : xs 8 = (.pointer (some ⟨B7, 3, none⟩)) := (HD.out 8 (of_decide_eq_true (by kernel_rfl)))
    generalize xs 8 = x8 at hd8 HQ ⊢; subst hd8
    have hc : W.cell? ⟨B7, 3, none⟩ = some (.string v.tags) := (HW.out.cell (p := ⟨B7, 3, none⟩) (by show B7 < _; omega)).trans q3
    go_wp2
    exact HQ.out _ _ (Ext.refl _) rfl
  ·
    intro o ho xs W hW hd Q' hQ; obtain rfl := Option.some.inj ho; clear ho; simp only [fillAt, dstOf, List.getElem?_cons_zero, List.getElem?_cons_succ, Option.bind_some, Act.put, List.setIfInBounds_toArray, List.set_cons_zero, List.set_cons_succ, Nat.zero_add, Nat.reduceAdd] at hQ ⊢; have HQ := Lib.hid hQ; have HD := Lib.hid hd; have HW := Lib.hid hW; have hsW := hW.size; clear hQ hd hW
    go_wp2
    exact HQ.out _ _ (Ext.refl _) rfl
  ·
    intro o ho xs W hW hd Q' hQ; obtain rfl := Option.some.inj ho; clear ho; simp only [fillAt, dstOf, List.getElem?_cons_zero, List.getElem?_cons_succ, Option.bind_some, Act.put, List.setIfInBounds_toArray, List.set_cons_zero, List.set_cons_succ, Nat.zero_add, Nat.reduceAdd] at hQ ⊢; have HQ := Lib.hid hQ; have HD := Lib.hid hd; have HW := Lib.hid hW; have hsW := hW.size; clear hQ hd hW
    have hd10 : xs 10 = (.pointer (some ⟨B7, 2, none⟩)) := (HD.out 10 (of_decide_eq_true (by kernel_rfl)))
    generalize xs 10 = x10 at hd10 HQ ⊢; subst hd10
    have hc : W.cell? ⟨B7, 2, none⟩ = some (.string v.bytes) := (HW.out.cell (p := ⟨B7, 2, none⟩) (by show B7 < _; omega)).trans q2
    go_wp2
    exact HQ.out _ _ (Ext.refl _) rfl
  ·
    intro o ho xs W hW hd Q' hQ; obtain rfl := Option.some.inj ho; clear ho; simp only [fillAt, dstOf, List.getElem?_cons_zero, List.getElem?_cons_succ, Option.bind_some, Act.put, List.setIfInBounds_toArray, List.set_cons_zero, List.set_cons_succ, Nat.zero_add, Nat.reduceAdd] at hQ ⊢; have HQ := Lib.hid hQ; have HD := Lib.hid hd; have HW := Lib.hid hW; have hsW := hW.size; clear hQ hd hW
    have hd1 : xs 1 = .int .i64 v.status := (HD.out 1 (of_decide_eq_true (by kernel_rfl)))
    generalize xs 1 = x1 at hd1 HQ ⊢; subst hd1
    have hd4 : xs 4 = .int .i64 v.bytes.size := (HD.out 4 (of_decide_eq_true (by kernel_rfl)))
    generalize xs 4 = x4 at hd4 HQ ⊢; subst hd4
    have hd7 : xs 7 = .agg (dgC D) := (HD.out 7 (of_decide_eq_true (by kernel_rfl)))
    generalize xs 7 = x7 at hd7 HQ ⊢; subst hd7
    have hd9 : xs 9 = .string v.tags := (HD.out 9 (of_decide_eq_true (by kernel_rfl)))
    generalize xs 9 = x9 at hd9 HQ ⊢; subst hd9
    have hd11 : xs 11 = .string v.bytes := (HD.out 11 (of_decide_eq_true (by kernel_rfl)))
    generalize xs 11 = x11 at hd11 HQ ⊢; subst hd11
    go_wp2
    exact HQ.out _ _ (Ext.refl _) rfl
  ·
    intro o ho xs W hW hd Q' hQ; obtain rfl := Option.some.inj ho; clear ho; simp only [fillAt, dstOf, List.getElem?_cons_zero, List.getElem?_cons_succ, Option.bind_some, Act.put, List.setIfInBounds_toArray, List.set_cons_zero, List.set_cons_succ, Nat.zero_add, Nat.reduceAdd] at hQ ⊢; have HQ := Lib.hid hQ; have HD := Lib.hid hd; have HW := Lib.hid hW; have hsW := hW.size; clear hQ hd hW
    go_wp2
    exact HQ.out _ _ ((Ext.refl _).alloc _) ⟨W.heap.size, rfl, by omega, RowAt.new _ _ _⟩
  intro xs W3 hW hS
  obtain ⟨B8, h13, hB8, hr8⟩ : (newRow W1.heap.size (anC noAn)).S (xs 13) W3 := hS 13 (by omega)
  have h12 : xs 12 = .agg (anC ⟨v.status, v.bytes.size, D, v.bytes, v.tags, false⟩) := hS 12 (by omega)
  simp only [fillAt, dstOf, List.getElem?_cons_zero, List.getElem?_cons_succ, Option.bind_some, Act.put, List.setIfInBounds_toArray, List.set_cons_zero, List.set_cons_succ, Nat.zero_add, Nat.reduceAdd, List.drop_succ_cons, List.drop_zero, List.drop_nil]
  generalize xs 12 = x12 at *; subst h12
  generalize xs 13 = x13 at *; subst h13
  have HX3 := Lib.hid (HX1.out.trans hW)
  have HR3 := Lib.hid (HR1.out.ext hW)
  have HS3 := Lib.hid (HS1.out.ext hW)
  have HB8 := Lib.hid hr8
  have hl8 := hr8.lt
  have hl3 := hW.size
  have m8 : roomOf W3 B8 0 21 = true := by rw [hr8.room]; rfl
  clear hS hW hr8 q1 q2 q3
  go_upto_region 3 with (fail)
  refine wp_world (fun W => Ext w W ∧ RowAt W w.heap.size (dgC known) ∧ RowAt W (w.heap.size + 1) (anC noAn) ∧ RowAt W B8 (anC ⟨v.status, v.bytes.size, D, v.bytes, v.tags, false⟩)) ⟨HX3.out.setCells (by omega) _ _, HR3.out.others (by omega) _ _, HS3.out.others (by omega) _ _, HB8.out.store rfl⟩ ?_
  rintro W4 ⟨x4, r4, s4, u4⟩
  have HX4 := Lib.hid x4
  have HS4 := Lib.hid s4
  have HU4 := Lib.hid u4
  have hk4 : rowOf W4 w.heap.size 0 16 = some (dgC known) := r4.all rfl (by omega)
  have hd4 : rowOf W4 B8 2 16 = some (dgC D) := by rw [u4.row, if_neg (by omega), an_body]
  have ha4 : rowOf W4 B8 0 21 = some (anC ⟨v.status, v.bytes.size, D, v.bytes, v.tags, false⟩) := u4.all rfl (by omega)
  have g20 : W4.cell? ⟨B8, 20, none⟩ = some (.bool false) := u4.cell 20
  have g18 : W4.cell? ⟨B8, 18, none⟩ = some (.string v.bytes) := u4.cell 18
  have gf := u4.free
  have ms : roomOf W4 (w.heap.size + 1) 0 21 = true := by rw [s4.room]; rfl
  have hlu := u4.lt
  have hls := s4.lt
  clear x4 r4 s4 u4 HX3 HR3 HS3 HB8 m8 hl8 hl3
  by_cases hD : D = known
  · have hd : decide (D = known) = true := by simpa using hD
    rw [if_pos hD] at HO
    clear hD
    go_wp2
    refine post_row ans_ty Tryz.results43 rfl rfl (RowAt.stored (n := 21) ((HS4.out.other (p := ⟨B8, 20, none⟩) (by show _ ≠ B8; omega) _).other (p := ⟨B8, 18, none⟩) (by show _ ≠ B8; omega) _) rfl rfl (by omega)) ⟨by rw [HO.out]; rfl, (by (repeat (first | with_reducible exact HX4.out | with_reducible exact Ext.refl _ | with_reducible refine Ext.drew ?_ | with_reducible refine Ext.drewN ?_ _ | with_reducible refine Ext.alloc ?_ _ | with_reducible refine Ext.onto ?_ _ | (with_reducible refine Ext.setCells ?_ ?_ _ _; rotate_left; focus (first | omega | (simp; done) | (simp; omega))) | (with_reducible refine Ext.setCell ?_ ?_ _; rotate_left; focus (first | omega | (simp; done) | (simp; omega))))))⟩
  · have hd : decide (D = known) = false := by simpa using hD
    rw [if_neg hD] at HO
    clear hD
    go_wp2
    refine post_row ans_ty Tryz.results43 rfl rfl (HS4.out.stored (n := 21) rfl rfl (by omega)) ⟨by rw [HO.out], (by (repeat (first | with_reducible exact HX4.out | with_reducible exact Ext.refl _ | with_reducible refine Ext.drew ?_ | with_reducible refine Ext.drewN ?_ _ | with_reducible refine Ext.alloc ?_ _ | with_reducible refine Ext.onto ?_ _ | (with_reducible refine Ext.setCells ?_ ?_ _ _; rotate_left; focus (first | omega | (simp; done) | (simp; omega))) | (with_reducible refine Ext.setCell ?_ ?_ _; rotate_left; focus (first | omega | (simp; done) | (simp; omega))))))⟩
end Go.Proofs.YtpfhmcdcmepfdaaGreatDoor


set_option linter.unusedVariables false
set_option linter.unusedSimpArgs false
namespace Go.Proofs.YtpfhmcdcmepfdaaGreatDoor
open Go.RowKit Go.Shelf
open Go.Proofs

structure Fau where
  (fr upto kind delay : Int)
def fauL (x : Fau) : List Value := [.int .i64 x.fr, .int .i64 x.upto, .int .i64 x.kind, .int .i64 x.delay]
def fauC (x : Fau) : Array Value := #[.int .i64 x.fr, .int .i64 x.upto, .int .i64 x.kind, .int .i64 x.delay]
def noFau : Fau := ⟨0, 0, 0, 0⟩
theorem fau_size (v : Fau) : (fauC v).size = 4 := rfl
theorem fau_all (v : Fau) : rowSub (fauC v) 0 4 = some (fauC v) := rowSub_all _ _ rfl
theorem fau_g0 (v : Fau) : (fauC v)[0]? = some (.int .i64 v.fr) := rfl
theorem fau_g1 (v : Fau) : (fauC v)[1]? = some (.int .i64 v.upto) := rfl
theorem fau_g2 (v : Fau) : (fauC v)[2]? = some (.int .i64 v.kind) := rfl
theorem fau_g3 (v : Fau) : (fauC v)[3]? = some (.int .i64 v.delay) := rfl
theorem fau_fits (v : Fau) : fitsRow 4 (fauC v) = true := by simp [fitsRow, fauC, Value.oneCell']
attribute [go_sem] fau_size fau_all fau_g0 fau_g1 fau_g2 fau_g3 fau_fits
theorem fau_ty : RowTy Tryz.prog 118 4 := ⟨by kernel_rfl, by kernel_rfl⟩
theorem fau_ld (w : World) (b o : Nat) : (rowLoad 118 4 (.pointer (some ⟨b, o, none⟩))).run Tryz.prog w = rowLoadR Tryz.prog w 118 4 b o (rowOf w b o 4) := run_rowLoad fau_ty w b o
theorem fau_st (w : World) (b o : Nat) (cells : Array Value) : (rowStore 118 4 (.pointer (some ⟨b, o, none⟩)) (.agg cells)).run Tryz.prog w = rowStoreR Tryz.prog w 118 4 b o cells (roomOf w b o 4 && fitsRow 4 cells) := run_rowStore fau_ty w b o cells
theorem fau_lv (w : World) (b o : Nat) : (loadVar 118 ⟨b, o, none⟩).run Tryz.prog w = varRes Tryz.prog w 118 b o (rowOf w b o 4) := loadVar_row fau_ty w b o
theorem fau_al (w : World) : (rowAlloc 118).run Tryz.prog w = .ok (.value (.pointer (some ⟨w.heap.size, 0, none⟩))) (w.alloc (.cells (fauC noFau) 118)) := run_rowAlloc (by kernel_rfl) w
theorem fau_xl (ρ : Operand → Value) (dst : Option Tmp) (x : Operand) (t : TypeId) (pos : String) (after : Array Edge) (guard : Option (Nat × Bool)) : execOp ρ { dst, op := .load 118 x, type := t, pos, after, guard } = rowLoad 118 4 (ρ x) := rfl
theorem fau_xs (ρ : Operand → Value) (dst : Option Tmp) (x y : Operand) (t : TypeId) (pos : String) (after : Array Edge) (guard : Option (Nat × Bool)) : execOp ρ { dst, op := .store 118 x y, type := t, pos, after, guard } = rowStore 118 4 (ρ x) (ρ y) := rfl
theorem fau_xa (ρ : Operand → Value) (dst : Option Tmp) (t : TypeId) (pos : String) (after : Array Edge) (guard : Option (Nat × Bool)) : execOp ρ { dst, op := .alloc 118, type := t, pos, after, guard } = rowAlloc 118 := rfl
attribute [go_sem ↓] fau_xl fau_xs fau_xa
attribute [go_sem] fau_ld fau_st fau_al
abbrev ReadsFau (w : World) (B : Nat) (A : Option Addr) (l : List Fau) : Prop := Reads 4 fauL w B A l
theorem ReadsFau.cell {w : World} {B : Nat} {A : Option Addr} {l : List Fau} (h : ReadsFau w B A l) (i : Nat) (hi : i < l.length) : ∃ b off, A = some ⟨b, off, none⟩ ∧ b < B ∧ rowOf w b (off + i * 4) 4 = some (fauC l[i]) ∧ w.cell? ⟨b, off + i * 4, none⟩ = some (.int .i64 l[i].fr) ∧ w.cell? ⟨b, off + i * 4 + 1, none⟩ = some (.int .i64 l[i].upto) := by
  obtain ⟨b, off, h1, h2, h3⟩ := h (by omega)
  refine ⟨b, off, h1, h2, rowOf_some rfl fun j hj => ?_, h3 i hi 0 _ rfl, h3 i hi 1 _ rfl⟩
  match j, hj with
  | 0, _ => exact h3 i hi 0 _ rfl
  | 1, _ => exact h3 i hi 1 _ rfl
  | 2, _ => exact h3 i hi 2 _ rfl
  | 3, _ => exact h3 i hi 3 _ rfl
theorem fauE : EncTy fauL 4 := ⟨fun _ => rfl, fun x v hv => by simp [fauL] at hv; rcases hv with rfl | rfl | rfl | rfl <;> rfl⟩
def hitF (t : Int) (x : Fau) : Bool := decide (x.fr ≤ t) && decide (t < x.upto)
/-- The first fault that counts, from place k on. -/
def firstF (t : Int) (l : List Fau) : Option Nat := l.findIdx? (hitF t)
def faultN (l : List Fau) (t : Int) : Fau := (l.find? (hitF t)).getD noFau
theorem fault_hit {l : List Fau} {t : Int} {k : Nat} (hk : k < l.length) (h0 : (l.take k).any (hitF t) = false) (h1 : hitF t l[k] = true) : faultN l t = l[k] := by
  unfold faultN
  have e : l.find? (hitF t) = some l[k] := by
    conv => lhs; rw [← List.take_append_drop k l]
    rw [List.find?_append]
    have : (l.take k).find? (hitF t) = none := by
      rw [List.find?_eq_none]
      intro x hx hh
      rw [List.any_eq_false] at h0
      exact h0 x hx hh
    rw [this, Option.none_or, List.drop_eq_getElem_cons hk, List.find?_cons_of_pos h1]
  rw [e]
  rfl
theorem fault_none {l : List Fau} {t : Int} (h0 : l.any (hitF t) = false) : faultN l t = noFau := by
  unfold faultN
  have : l.find? (hitF t) = none := by
    rw [List.find?_eq_none]
    intro x hx hh
    rw [List.any_eq_false] at h0
    exact h0 x hx hh
  rw [this]
  rfl
theorem any_snocF {l : List Fau} {t : Int} {k : Nat} (h : k < l.length) (h0 : (l.take k).any (hitF t) = false) (h1 : hitF t l[k] = false) : (l.take (k + 1)).any (hitF t) = false := by
  rw [List.take_succ_eq_append_getElem h, List.any_append, h0]
  simp [h1]
theorem serve1_any (x : Fau) (b : Nat) (t : Int) (w : World) (hb : w.cell? ⟨b, 0, none⟩ = some (.int .i64 t)) (hlt : b < w.heap.size) :
    Calls Tryz.prog 99 #[.agg (fauC x), .pointer (some ⟨b, 0, none⟩)] w fun e w' => e = .returned (.bool (hitF t x)) ∧ Ext w w' := by
  go_enter Tryz.func99, Tryz.ntmps99
  go_wp2
  all_goals
    go_ret
    exact ⟨ret_bool (by first | (simp_all [hitF]; done) | (simp only [hitF]; rw [Bool.eq_iff_iff]; simp; omega)), (by (repeat (first | with_reducible exact Ext.refl _ | with_reducible exact Ext.refl _ | with_reducible refine Ext.drew ?_ | with_reducible refine Ext.drewN ?_ _ | with_reducible refine Ext.alloc ?_ _ | with_reducible refine Ext.onto ?_ _ | (with_reducible refine Ext.setCells ?_ ?_ _ _; rotate_left; focus (first | omega | (simp; done) | (simp; omega))) | (with_reducible refine Ext.setCell ?_ ?_ _; rotate_left; focus (first | omega | (simp; done) | (simp; omega))))))⟩
set_option maxRecDepth 100000 in
set_option maxHeartbeats 1000000 in
theorem findex_any (A : Option Addr) (c : Nat) (l : List Fau) (bt : Nat) (t : Int) (w : World) (hl : l.length ≤ 100000) (hr : ReadsFau w w.heap.size A l) (hb : w.cell? ⟨bt, 0, none⟩ = some (.int .i64 t)) (hlb : bt < w.heap.size) :
    Calls Tryz.prog 98 #[.slice A l.length c, .func (.func 99) #[] #[.pointer (some ⟨bt, 0, none⟩)]] w fun e w' =>
      ((∃ k : Nat, ∃ h : k < l.length, e = .returned (.int .i64 k) ∧ faultN l t = l[k]) ∨ (e = .returned (.int .i64 (-1)) ∧ faultN l t = noFau)) ∧ Ext w w' := by
  have HR := Lib.hid hr
  have HB := Lib.hid hb
  clear hr hb
  go_enter Tryz.func98, Tryz.ntmps98
  go_wp2
  go_loopw [8] (fun i wr => ∃ k : Nat, k ≤ l.length ∧ i = .int .i64 k ∧ Ext w wr ∧ Hid ((l.take k).any (hitF t) = false)) (fun i _ => l.length - (intOf i).toNat)
  case atStart => exact ⟨0, Nat.zero_le _, rfl, Ext.refl _, Lib.hid rfl⟩
  case round =>
    obtain ⟨k, hk, rfl, hx, HJ⟩ := hrel
    have HX := Lib.hid hx
    by_cases hlt : k < l.length
    · obtain ⟨b, off, rfl, hb, hrow, _, _⟩ := ReadsFau.cell (HR.out.ext hx (Nat.le_refl _)) k hlt
      have hsz := hx.size
      have HP := Lib.hid (fun (W : World) (hx2 : Ext wr W) => serve1_any l[k] bt t W ((hx.trans hx2).cell (p := ⟨bt, 0, none⟩) hlb |>.trans HB.out) (by have := (hx.trans hx2).size; omega))
      cases hv : hitF t l[k] with
      | true =>
        have HI := Lib.hid (fault_hit hlt HJ.out hv)
        rw [hv] at HP
        have HE := Lib.hid (show ∃ h : k < l.length, faultN l t = l[k] from ⟨hlt, HI.out⟩)
        generalize l[k] = x at *
        clear hx hv HI
        go_wp2_with (go_at_call 99; refine (HP.out _ (Ext.refl _)).mono ?_; rintro e w' ⟨rfl, hxl⟩; obtain ⟨xl, rfl⟩ := hxl.asLater; clear hxl)
        go_ret
        obtain ⟨h1, h2⟩ := HE.out
        exact ⟨.inl ⟨k, h1, rfl, h2⟩, (by (repeat (first | with_reducible exact HX.out | with_reducible exact Ext.refl _ | with_reducible refine Ext.drew ?_ | with_reducible refine Ext.drewN ?_ _ | with_reducible refine Ext.alloc ?_ _ | with_reducible refine Ext.onto ?_ _ | (with_reducible refine Ext.setCells ?_ ?_ _ _; rotate_left; focus (first | omega | (simp; done) | (simp; omega))) | (with_reducible refine Ext.setCell ?_ ?_ _; rotate_left; focus (first | omega | (simp; done) | (simp; omega))))))⟩
      | false =>
        have HN := Lib.hid (any_snocF hlt HJ.out hv)
        rw [hv] at HP
        generalize l[k] = x at *
        clear hx hv
        go_wp2_with (go_at_call 99; refine (HP.out _ (Ext.refl _)).mono ?_; rintro e w' ⟨rfl, hxl⟩; obtain ⟨xl, rfl⟩ := hxl.asLater; clear hxl)
        go_roundw
        case rel => exact ⟨k + 1, by omega, by go_num, (by (repeat (first | with_reducible exact HX.out | with_reducible exact Ext.refl _ | with_reducible refine Ext.drew ?_ | with_reducible refine Ext.drewN ?_ _ | with_reducible refine Ext.alloc ?_ _ | with_reducible refine Ext.onto ?_ _ | (with_reducible refine Ext.setCells ?_ ?_ _ _; rotate_left; focus (first | omega | (simp; done) | (simp; omega))) | (with_reducible refine Ext.setCell ?_ ?_ _; rotate_left; focus (first | omega | (simp; done) | (simp; omega)))))), HN⟩
        case measure => simp [intOf]; omega
    · have HI := Lib.hid (fault_none (l := l) (t := t) (by have h := HJ.out; rwa [List.take_of_length_le (by omega)] at h))
      clear hx
      go_wp2
      go_ret
      exact ⟨.inr ⟨rfl, HI.out⟩, HX.out⟩
/-! ### given answers -/
abbrev Giv := Int × An
def gvC (g : Giv) : Array Value := (Value.int .i64 g.1 :: (anC g.2).toList).toArray
def gvL (g : Giv) : List Value := (gvC g).toList
theorem gv_size (g : Giv) : (gvC g).size = 22 := rfl
theorem gvE : EncTy gvL 22 := ⟨fun _ => rfl, fun x v hv => by
  have h : ∀ u ∈ gvL x, u.oneCell' = true := by
    intro u hu
    simp [gvL, gvC, anC, dgC] at hu
    rcases hu with h | h | h | h | h | h | h | h | h | h | h | h | h | h | h | h | h | h | h | h | h | h <;> subst h <;> rfl
  exact h v hv⟩
theorem gvT : ElemTy Tryz.prog 114 121 22 80 := ⟨by kernel_rfl, by kernel_rfl, by omega⟩
def givB (x y : Value) : Sem Next := do pure (.value (← Instr.build 121 #[(0, x), (1, y)]))
theorem givB_x (ρ : Operand → Value) (dst : Option Tmp) (x y : Operand) (t : TypeId) (pos : String) (after : Array Edge) (guard : Option (Nat × Bool)) : execOp ρ { dst, op := .build 121 #[(0, x), (1, y)], type := t, pos, after, guard } = givB (ρ x) (ρ y) := by kernel_rfl
theorem givB_run (a : Int) (n : An) (W : World) : (givB (.int .i64 a) (.agg (anC n))).run Tryz.prog W = .ok (.value (.agg (gvC (a, n)))) W := by kernel_rfl
def givS (x : Value) : Sem Next := do pure (.value (← Instr.buildSlice 114 1 #[(0, x)]))
theorem givS_x (ρ : Operand → Value) (dst : Option Tmp) (x : Operand) (t : TypeId) (pos : String) (after : Array Edge) (guard : Option (Nat × Bool)) : execOp ρ { dst, op := .buildSlice 114 1 #[(0, x)], type := t, pos, after, guard } = givS (ρ x) := by kernel_rfl
theorem givS_run (g : Giv) (W : World) : (givS (.agg (gvC g))).run Tryz.prog W = .ok (.value (.slice (some ⟨W.heap.size, 0, none⟩) 1 1)) (W.alloc (.cells (gvC g) 121)) := by kernel_rfl
attribute [go_sem ↓] givB_x givS_x
attribute [go_sem] givB_run givS_run
/-- One more answer, if it can be made. -/
def giveN (l : List Ver) (known : List Int) (out : List Giv) (t : Int) : List Giv := if t ≤ 1099511627776 then out ++ [(t, ansOf (atN l t) known)] else out
def servedN (l : List Ver) (known : List Int) (t : Int) (x : Fau) : List Giv :=
  if x.kind = 1 then [] else if x.kind = 2 then giveN l known [] (t + x.delay) else if x.kind = 3 then giveN l known (giveN l known [] t) (t + x.delay) else giveN l known [] t
end Go.Proofs.YtpfhmcdcmepfdaaGreatDoor
