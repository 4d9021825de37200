/- True of both sides: what says, the predicates. -/
import Derived.Shelf.GgClosure.StringsRunes
import Derived.Shelf.Strings.Split
import Derived.Shelf.Strings.OnBuilder
import Derived.Shelf.Slices.CompactS
import Derived.Shelf.Strings.Prefix
import Derived.Shelf.Strings.Cut
import Derived.Shelf.Strings.Search3
import Derived.Shelf.Sort.Plain
import Derived.Ground.GgwProg
import Derived.Ground.NamesProg
import Derived.WalkKit
import Derived.WalkSpells
import Derived.WalkLawsBesides
import Derived.Deep.QuietTactic
import Derived.BigQuiet
import Derived.Test.YtpojnhikgjcgmaaGreatDoorECa
import Derived.RangeFuncNested
import Derived.RangeFuncBound
import Derived.RangeFuncCalls
import Derived.RangeFuncLeaves
import Derived.Shelf.Abstract
import Derived.Shelf.RegionOpen
import Derived.OwnWalkIn
import Derived.TacticsInMore
import Derived.LoopNIn
import Derived.LoopIn
import Derived.Test.YtpojnhikgjcgmaaGreatDoorEVa
import Derived.Lib.CountLaws
set_option maxRecDepth 100000
set_option maxHeartbeats 64000000
set_option linter.unusedVariables false
set_option linter.unusedSimpArgs false
namespace Go.Proofs
open Go.Shelf
def Tryz.containsFunc_ren : Go.Shelf.Ren := ⟨fun | 17 => 282 | 15 => 301 | 20 => 330 | n => n, fun | 9 => 9 | 23 => 285 | 4 => 4 | 3 => 3 | 0 => 0 | 21 => 21 | n => n, fun | n => n⟩
theorem Tryz.containsFunc : Go.Proofs.LaysGw.n17 Tryz.prog Tryz.containsFunc_ren := {
 mixed := by kernel_rfl
 f15 := Tryz.func301.trans (congrArg some (by kernel_rfl))
 f17 := Tryz.func282.trans (congrArg some (by kernel_rfl))
 f20 := Tryz.func330.trans (congrArg some (by kernel_rfl))
 t0 := Tryz.underlying0
 a0 := Tryz.isAgg0
 z0 := Tryz.sizeOf0
 v0 := Tryz.zeroValue0
 i0 := by kernel_rfl
 t3 := Tryz.underlying3
 a3 := Tryz.isAgg3
 z3 := Tryz.sizeOf3
 v3 := Tryz.zeroValue3
 i3 := by kernel_rfl
 t4 := Tryz.underlying4
 a4 := Tryz.isAgg4
 z4 := Tryz.sizeOf4
 v4 := Tryz.zeroValue4
 i4 := by kernel_rfl
 t9 := Tryz.underlying9
 a9 := Tryz.isAgg9
 z9 := Tryz.sizeOf9
 v9 := Tryz.zeroValue9
 i9 := by kernel_rfl
 t21 := Tryz.underlying21
 a21 := Tryz.isAgg21
 z21 := Tryz.sizeOf21
 v21 := Tryz.zeroValue21
 i21 := by kernel_rfl
 t23 := Tryz.underlying285
 a23 := Tryz.isAgg285
 z23 := Tryz.sizeOf285
 v23 := Tryz.zeroValue285
 i23 := by kernel_rfl }
def Tryz.contains_ren : Go.Shelf.Ren := ⟨fun | 144 => 107 | 143 => 158 | 219 => 168 | 217 => 223 | 225 => 224 | 224 => 225 | 267 => 226 | 266 => 262 | 314 => 263 | n => n, fun | 9 => 9 | 4 => 4 | 3 => 3 | 5 => 5 | 46 => 249 | 146 => 316 | 51 => 154 | n => n, fun | 1 => 2 | n => n⟩
theorem Tryz.contains : Go.Proofs.Lays.n144 Tryz.prog Tryz.contains_ren := {
 mixed := by kernel_rfl
 f143 := Tryz.func158.trans (congrArg some (by kernel_rfl))
 f144 := Tryz.func107.trans (congrArg some (by kernel_rfl))
 f217 := Tryz.func223.trans (congrArg some (by kernel_rfl))
 f219 := Tryz.func168.trans (congrArg some (by kernel_rfl))
 f224 := Tryz.func225.trans (congrArg some (by kernel_rfl))
 f225 := Tryz.func224.trans (congrArg some (by kernel_rfl))
 f266 := Tryz.func262.trans (congrArg some (by kernel_rfl))
 f267 := Tryz.func226.trans (congrArg some (by kernel_rfl))
 f314 := Tryz.func263.trans (congrArg some (by kernel_rfl))
 t3 := Tryz.underlying3
 a3 := Tryz.isAgg3
 z3 := Tryz.sizeOf3
 v3 := Tryz.zeroValue3
 t4 := Tryz.underlying4
 a4 := Tryz.isAgg4
 z4 := Tryz.sizeOf4
 v4 := Tryz.zeroValue4
 t5 := Tryz.underlying5
 a5 := Tryz.isAgg5
 z5 := Tryz.sizeOf5
 v5 := Tryz.zeroValue5
 t9 := Tryz.underlying9
 a9 := Tryz.isAgg9
 z9 := Tryz.sizeOf9
 v9 := Tryz.zeroValue9
 t46 := Tryz.underlying249
 a46 := Tryz.isAgg249
 z46 := Tryz.sizeOf249
 v46 := Tryz.zeroValue249
 t51 := Tryz.underlying154
 a51 := Tryz.isAgg154
 z51 := Tryz.sizeOf154
 v51 := Tryz.zeroValue154
 t146 := Tryz.underlying316
 a146 := Tryz.isAgg316
 z146 := Tryz.sizeOf316
 v146 := Tryz.zeroValue316
 g1 := by kernel_rfl }
def Tryz.index_ren : Go.Shelf.Ren := ⟨fun | 143 => 158 | 219 => 168 | 217 => 223 | 225 => 224 | 224 => 225 | 267 => 226 | 266 => 262 | 314 => 263 | n => n, fun | 9 => 9 | 3 => 3 | 4 => 4 | 5 => 5 | 46 => 249 | 146 => 316 | 51 => 154 | n => n, fun | 1 => 2 | n => n⟩
theorem Tryz.index : Go.Proofs.Lays.n143 Tryz.prog Tryz.index_ren := {
 mixed := by kernel_rfl
 f143 := Tryz.func158.trans (congrArg some (by kernel_rfl))
 f217 := Tryz.func223.trans (congrArg some (by kernel_rfl))
 f219 := Tryz.func168.trans (congrArg some (by kernel_rfl))
 f224 := Tryz.func225.trans (congrArg some (by kernel_rfl))
 f225 := Tryz.func224.trans (congrArg some (by kernel_rfl))
 f266 := Tryz.func262.trans (congrArg some (by kernel_rfl))
 f267 := Tryz.func226.trans (congrArg some (by kernel_rfl))
 f314 := Tryz.func263.trans (congrArg some (by kernel_rfl))
 t3 := Tryz.underlying3
 a3 := Tryz.isAgg3
 z3 := Tryz.sizeOf3
 v3 := Tryz.zeroValue3
 t4 := Tryz.underlying4
 a4 := Tryz.isAgg4
 z4 := Tryz.sizeOf4
 v4 := Tryz.zeroValue4
 t5 := Tryz.underlying5
 a5 := Tryz.isAgg5
 z5 := Tryz.sizeOf5
 v5 := Tryz.zeroValue5
 t9 := Tryz.underlying9
 a9 := Tryz.isAgg9
 z9 := Tryz.sizeOf9
 v9 := Tryz.zeroValue9
 t46 := Tryz.underlying249
 a46 := Tryz.isAgg249
 z46 := Tryz.sizeOf249
 v46 := Tryz.zeroValue249
 t51 := Tryz.underlying154
 a51 := Tryz.isAgg154
 z51 := Tryz.sizeOf154
 v51 := Tryz.zeroValue154
 t146 := Tryz.underlying316
 a146 := Tryz.isAgg316
 z146 := Tryz.sizeOf316
 v146 := Tryz.zeroValue316
 g1 := by kernel_rfl }
def Tryz.genSplit_ren : Go.Shelf.Ren := ⟨fun | 221 => 229 | 268 => 264 | 138 => 265 | 143 => 158 | 195 => 292 | 197 => 279 | 218 => 293 | 219 => 168 | 260 => 299 | 217 => 223 | 225 => 224 | 224 => 225 | 267 => 226 | 266 => 262 | 314 => 263 | n => n, fun | 9 => 9 | 3 => 3 | 31 => 97 | 4 => 4 | 0 => 0 | 105 => 332 | 21 => 21 | 5 => 5 | 46 => 249 | 119 => 368 | 139 => 371 | 138 => 370 | 146 => 316 | 51 => 154 | n => n, fun | 1 => 2 | 3 => 3 | 4 => 4 | n => n⟩
theorem Tryz.genSplit : Go.Proofs.Lays.n221 Tryz.prog Tryz.genSplit_ren := {
 mixed := by kernel_rfl
 f138 := Tryz.func265.trans (congrArg some (by kernel_rfl))
 f143 := Tryz.func158.trans (congrArg some (by kernel_rfl))
 f195 := Tryz.func292.trans (congrArg some (by kernel_rfl))
 f197 := Tryz.func279.trans (congrArg some (by kernel_rfl))
 f217 := Tryz.func223.trans (congrArg some (by kernel_rfl))
 f218 := Tryz.func293.trans (congrArg some (by kernel_rfl))
 f219 := Tryz.func168.trans (congrArg some (by kernel_rfl))
 f221 := Tryz.func229.trans (congrArg some (by kernel_rfl))
 f224 := Tryz.func225.trans (congrArg some (by kernel_rfl))
 f225 := Tryz.func224.trans (congrArg some (by kernel_rfl))
 f260 := Tryz.func299.trans (congrArg some (by kernel_rfl))
 f266 := Tryz.func262.trans (congrArg some (by kernel_rfl))
 f267 := Tryz.func226.trans (congrArg some (by kernel_rfl))
 f268 := Tryz.func264.trans (congrArg some (by kernel_rfl))
 f314 := Tryz.func263.trans (congrArg some (by kernel_rfl))
 t0 := Tryz.underlying0
 a0 := Tryz.isAgg0
 z0 := Tryz.sizeOf0
 v0 := Tryz.zeroValue0
 t3 := Tryz.underlying3
 a3 := Tryz.isAgg3
 z3 := Tryz.sizeOf3
 v3 := Tryz.zeroValue3
 t4 := Tryz.underlying4
 a4 := Tryz.isAgg4
 z4 := Tryz.sizeOf4
 v4 := Tryz.zeroValue4
 t5 := Tryz.underlying5
 a5 := Tryz.isAgg5
 z5 := Tryz.sizeOf5
 v5 := Tryz.zeroValue5
 t9 := Tryz.underlying9
 a9 := Tryz.isAgg9
 z9 := Tryz.sizeOf9
 v9 := Tryz.zeroValue9
 t21 := Tryz.underlying21
 a21 := Tryz.isAgg21
 z21 := Tryz.sizeOf21
 v21 := Tryz.zeroValue21
 t31 := Tryz.underlying97
 a31 := Tryz.isAgg97
 z31 := Tryz.sizeOf97
 v31 := Tryz.zeroValue97
 t46 := Tryz.underlying249
 a46 := Tryz.isAgg249
 z46 := Tryz.sizeOf249
 v46 := Tryz.zeroValue249
 t51 := Tryz.underlying154
 a51 := Tryz.isAgg154
 z51 := Tryz.sizeOf154
 v51 := Tryz.zeroValue154
 t105 := Tryz.underlying332
 a105 := Tryz.isAgg332
 z105 := Tryz.sizeOf332
 v105 := Tryz.zeroValue332
 t119 := Tryz.underlying368
 a119 := Tryz.isAgg368
 z119 := Tryz.sizeOf368
 t138 := Tryz.underlying370
 a138 := Tryz.isAgg370
 z138 := Tryz.sizeOf370
 v138 := Tryz.zeroValue370
 t139 := Tryz.underlying371
 a139 := Tryz.isAgg371
 z139 := Tryz.sizeOf371
 v139 := Tryz.zeroValue371
 t146 := Tryz.underlying316
 a146 := Tryz.isAgg316
 z146 := Tryz.sizeOf316
 v146 := Tryz.zeroValue316
 g1 := by kernel_rfl
 g3 := by kernel_rfl
 g4 := by kernel_rfl }
def Tryz.join_ren : Go.Shelf.Ren := ⟨fun | 156 => 198 | 165 => 236 | 166 => 220 | 169 => 221 | 240 => 261 | 241 => 271 | 276 => 291 | 277 => 294 | n => n, fun | 31 => 97 | 9 => 9 | 3 => 3 | 4 => 4 | 0 => 0 | 20 => 20 | 72 => 275 | 76 => 278 | 70 => 273 | 37 => 103 | 75 => 277 | 127 => 315 | 164 => 339 | 5 => 5 | 80 => 282 | n => n, fun | n => n⟩
theorem Tryz.join : Go.Proofs.Lays.n156 Tryz.prog Tryz.join_ren := {
 mixed := by kernel_rfl
 f156 := Tryz.func198.trans (congrArg some (by kernel_rfl))
 f165 := Tryz.func236.trans (congrArg some (by kernel_rfl))
 f166 := Tryz.func220.trans (congrArg some (by kernel_rfl))
 f169 := Tryz.func221.trans (congrArg some (by kernel_rfl))
 f240 := Tryz.func261.trans (congrArg some (by kernel_rfl))
 f241 := Tryz.func271.trans (congrArg some (by kernel_rfl))
 f276 := Tryz.func291.trans (congrArg some (by kernel_rfl))
 f277 := Tryz.func294.trans (congrArg some (by kernel_rfl))
 t0 := Tryz.underlying0
 a0 := Tryz.isAgg0
 z0 := Tryz.sizeOf0
 v0 := Tryz.zeroValue0
 t3 := Tryz.underlying3
 a3 := Tryz.isAgg3
 z3 := Tryz.sizeOf3
 v3 := Tryz.zeroValue3
 t4 := Tryz.underlying4
 a4 := Tryz.isAgg4
 z4 := Tryz.sizeOf4
 v4 := Tryz.zeroValue4
 t9 := Tryz.underlying9
 a9 := Tryz.isAgg9
 z9 := Tryz.sizeOf9
 v9 := Tryz.zeroValue9
 t20 := Tryz.underlying20
 a20 := Tryz.isAgg20
 z20 := Tryz.sizeOf20
 v20 := Tryz.zeroValue20
 t31 := Tryz.underlying97
 a31 := Tryz.isAgg97
 z31 := Tryz.sizeOf97
 v31 := Tryz.zeroValue97
 t37 := Tryz.underlying103
 a37 := Tryz.isAgg103
 z37 := Tryz.sizeOf103
 v37 := Tryz.zeroValue103
 t70 := Tryz.underlying273
 a70 := Tryz.isAgg273
 z70 := Tryz.sizeOf273
 v70 := Tryz.zeroValue273
 t72 := Tryz.underlying275
 a72 := Tryz.isAgg275
 z72 := Tryz.sizeOf275
 v72 := Tryz.zeroValue275
 t75 := Tryz.underlying277
 a75 := Tryz.isAgg277
 z75 := Tryz.sizeOf277
 v75 := Tryz.zeroValue277
 t76 := Tryz.underlying278
 a76 := Tryz.isAgg278
 z76 := Tryz.sizeOf278
 v76 := Tryz.zeroValue278
 t127 := Tryz.underlying315
 a127 := Tryz.isAgg315
 z127 := Tryz.sizeOf315
 v127 := Tryz.zeroValue315
 t164 := Tryz.underlying339
 a164 := Tryz.isAgg339
 z164 := Tryz.sizeOf339
 v164 := Tryz.zeroValue339 }
def Tryz.compactS_ren : Go.Shelf.Ren := ⟨fun | 194 => 199 | n => n, fun | 31 => 97 | 9 => 9 | 3 => 3 | 4 => 4 | 0 => 0 | n => n, fun | n => n⟩
theorem Tryz.compactS : Go.Proofs.Lays.n194 Tryz.prog Tryz.compactS_ren := {
 mixed := by kernel_rfl
 f194 := Tryz.func199.trans (congrArg some (by kernel_rfl))
 t0 := Tryz.underlying0
 a0 := Tryz.isAgg0
 z0 := Tryz.sizeOf0
 v0 := Tryz.zeroValue0
 t3 := Tryz.underlying3
 a3 := Tryz.isAgg3
 z3 := Tryz.sizeOf3
 v3 := Tryz.zeroValue3
 t4 := Tryz.underlying4
 a4 := Tryz.isAgg4
 z4 := Tryz.sizeOf4
 v4 := Tryz.zeroValue4
 t9 := Tryz.underlying9
 a9 := Tryz.isAgg9
 z9 := Tryz.sizeOf9
 v9 := Tryz.zeroValue9
 t31 := Tryz.underlying97
 a31 := Tryz.isAgg97
 z31 := Tryz.sizeOf97
 v31 := Tryz.zeroValue97 }
def Tryz.sortS_ren : Go.Shelf.Ren := ⟨fun | 190 => 254 | 125 => 287 | 258 => 286 | 128 => 311 | 129 => 312 | 302 => 302 | 303 => 303 | 304 => 304 | 305 => 305 | 306 => 306 | 307 => 307 | 308 => 308 | 309 => 309 | 310 => 310 | 333 => 331 | 329 => 332 | 330 => 333 | 334 => 334 | 335 => 335 | 336 => 336 | 344 => 344 | n => n, fun | 31 => 97 | 9 => 9 | 3 => 3 | 46 => 249 | 0 => 0 | 51 => 154 | 53 => 157 | 4 => 4 | 183 => 350 | 182 => 349 | 131 => 116 | 5 => 5 | 218 => 373 | 222 => 377 | 228 => 383 | 229 => 384 | n => n, fun | n => n⟩
theorem Tryz.sortS : Go.Proofs.Lays.n190 Tryz.prog Tryz.sortS_ren := {
 mixed := by kernel_rfl
 f125 := Tryz.func287.trans (congrArg some (by kernel_rfl))
 f128 := Tryz.func311.trans (congrArg some (by kernel_rfl))
 f129 := Tryz.func312.trans (congrArg some (by kernel_rfl))
 f190 := Tryz.func254.trans (congrArg some (by kernel_rfl))
 f258 := Tryz.func286.trans (congrArg some (by kernel_rfl))
 f302 := Tryz.func302.trans (congrArg some (by kernel_rfl))
 f303 := Tryz.func303.trans (congrArg some (by kernel_rfl))
 f304 := Tryz.func304.trans (congrArg some (by kernel_rfl))
 f305 := Tryz.func305.trans (congrArg some (by kernel_rfl))
 f306 := Tryz.func306.trans (congrArg some (by kernel_rfl))
 f307 := Tryz.func307.trans (congrArg some (by kernel_rfl))
 f308 := Tryz.func308.trans (congrArg some (by kernel_rfl))
 f309 := Tryz.func309.trans (congrArg some (by kernel_rfl))
 f310 := Tryz.func310.trans (congrArg some (by kernel_rfl))
 f329 := Tryz.func332.trans (congrArg some (by kernel_rfl))
 f330 := Tryz.func333.trans (congrArg some (by kernel_rfl))
 f333 := Tryz.func331.trans (congrArg some (by kernel_rfl))
 f334 := Tryz.func334.trans (congrArg some (by kernel_rfl))
 f335 := Tryz.func335.trans (congrArg some (by kernel_rfl))
 f336 := Tryz.func336.trans (congrArg some (by kernel_rfl))
 f344 := Tryz.func344.trans (congrArg some (by kernel_rfl))
 t0 := Tryz.underlying0
 a0 := Tryz.isAgg0
 z0 := Tryz.sizeOf0
 v0 := Tryz.zeroValue0
 t3 := Tryz.underlying3
 a3 := Tryz.isAgg3
 z3 := Tryz.sizeOf3
 v3 := Tryz.zeroValue3
 t4 := Tryz.underlying4
 a4 := Tryz.isAgg4
 z4 := Tryz.sizeOf4
 v4 := Tryz.zeroValue4
 t5 := Tryz.underlying5
 a5 := Tryz.isAgg5
 z5 := Tryz.sizeOf5
 v5 := Tryz.zeroValue5
 t9 := Tryz.underlying9
 a9 := Tryz.isAgg9
 z9 := Tryz.sizeOf9
 v9 := Tryz.zeroValue9
 t31 := Tryz.underlying97
 a31 := Tryz.isAgg97
 z31 := Tryz.sizeOf97
 v31 := Tryz.zeroValue97
 t46 := Tryz.underlying249
 a46 := Tryz.isAgg249
 z46 := Tryz.sizeOf249
 v46 := Tryz.zeroValue249
 t51 := Tryz.underlying154
 a51 := Tryz.isAgg154
 z51 := Tryz.sizeOf154
 v51 := Tryz.zeroValue154
 t53 := Tryz.underlying157
 a53 := Tryz.isAgg157
 z53 := Tryz.sizeOf157
 v53 := Tryz.zeroValue157
 t131 := Tryz.underlying116
 a131 := Tryz.isAgg116
 z131 := Tryz.sizeOf116
 v131 := Tryz.zeroValue116
 t182 := Tryz.underlying349
 a182 := Tryz.isAgg349
 z182 := Tryz.sizeOf349
 v182 := Tryz.zeroValue349
 t183 := Tryz.underlying350
 a183 := Tryz.isAgg350
 z183 := Tryz.sizeOf350
 v183 := Tryz.zeroValue350
 t218 := Tryz.underlying373
 a218 := Tryz.isAgg373
 z218 := Tryz.sizeOf373
 v218 := Tryz.zeroValue373
 t222 := Tryz.underlying377
 a222 := Tryz.isAgg377
 z222 := Tryz.sizeOf377
 v222 := Tryz.zeroValue377
 t228 := Tryz.underlying383
 a228 := Tryz.isAgg383
 z228 := Tryz.sizeOf383
 v228 := Tryz.zeroValue383
 t229 := Tryz.underlying384
 a229 := Tryz.isAgg384
 z229 := Tryz.sizeOf384
 v229 := Tryz.zeroValue384 }
def Tryz.trimSuffix_ren : Go.Shelf.Ren := ⟨fun | 102 => 215 | 209 => 258 | 207 => 288 | n => n, fun | 9 => 9 | 4 => 4 | 3 => 3 | n => n, fun | n => n⟩
theorem Tryz.trimSuffix : Go.Proofs.Lays.n102 Tryz.prog Tryz.trimSuffix_ren := {
 mixed := by kernel_rfl
 f102 := Tryz.func215.trans (congrArg some (by kernel_rfl))
 f207 := Tryz.func288.trans (congrArg some (by kernel_rfl))
 f209 := Tryz.func258.trans (congrArg some (by kernel_rfl))
 t3 := Tryz.underlying3
 a3 := Tryz.isAgg3
 z3 := Tryz.sizeOf3
 v3 := Tryz.zeroValue3
 t4 := Tryz.underlying4
 a4 := Tryz.isAgg4
 z4 := Tryz.sizeOf4
 v4 := Tryz.zeroValue4
 t9 := Tryz.underlying9
 a9 := Tryz.isAgg9
 z9 := Tryz.sizeOf9
 v9 := Tryz.zeroValue9 }
end Go.Proofs

namespace Go.Proofs.YtpojnhikgjcgmaaGreatDoor
open Go.RowKit Go.Shelf
open Go.Proofs
theorem letter_any (x : Nat) (h : x ≤ 1114111) (w : World) : Calls Tryz.prog 284 #[.int .i32 x] w fun e w' => e = .returned (.bool (Tg.letter x)) ∧ w' = w := by
 go_enter Tryz.func284, Tryz.ntmps284
 go_wp2
 all_goals
  go_ret
  refine ⟨ret_bool ?_, rfl⟩
  rw [Bool.eq_iff_iff]
  simp [Tg.letter]
  omega
theorem rletter_any (x : Nat) (h : x < 256) (w : World) : Calls Tryz.prog 202 #[.int .u8 x] w fun e w' => e = .returned (.bool (Tg.letter x)) ∧ w' = w := by
 go_enter Tryz.func202, Tryz.ntmps202
 go_wp2
 all_goals
  go_ret
  refine ⟨ret_bool ?_, rfl⟩
  rw [Bool.eq_iff_iff]
  simp [Tg.letter]
  omega
theorem dec_ascii {s : ByteArray} {i : Nat} (h : (s.get! i).toNat < 128) : Utf8.decode s i = ((s.get! i).toNat, 1) := by
 unfold Utf8.decode
 simp [h]
theorem dec_other {s : ByteArray} {i : Nat} (h : 128 ≤ (s.get! i).toNat) : 128 ≤ (Utf8.decode s i).1 := by
 have h0 : ¬ (s.get! (i + 0)).toNat < 128 := by rw [Nat.add_zero]; omega
 unfold Utf8.decode
 simp only [h0, if_false]
 repeat' split
 all_goals first
  | (simp only [Utf8.runeError]; omega)
  | (rename_i hc; simp only [ge_iff_le, Bool.and_eq_true, decide_eq_true_eq] at hc; simp only; omega)
theorem get_list {s : ByteArray} {i : Nat} (h : i < s.size) : s.get! i = s.data.toList[i]'(by simpa using h) := by
 have : s.get! i = s.data[i]! := rfl
 rw [this, getElem!_pos s.data i h]
 simp
theorem idx_letters (s : ByteArray) : decide (0 ≤ Lib.idxFunc (fun r => !Tg.letter r) true s) = !(s.data.toList.all fun c => Tg.letter c.toNat) := by
 have big : ∀ r, 128 ≤ r → Tg.letter r = false := fun r hr => by
  rw [Bool.eq_false_iff]
  intro k
  simp [Tg.letter] at k
  omega
 have key : ∀ f pos, s.size ≤ pos + f → (0 ≤ Lib.idxFuncFrom (fun r => !Tg.letter r) true s f pos ↔ ∃ i, ∃ hi : i < s.data.toList.length, pos ≤ i ∧ Tg.letter (s.data.toList[i]).toNat = false) := by
  intro f
  induction f with
  | zero =>
   intro pos hp
   constructor
   ·intro h; simp [Lib.idxFuncFrom] at h
   ·rintro ⟨i, hi, h1, _⟩
    have : i < s.size := by simpa using hi
    omega
  | succ f ih =>
   intro pos hp
   unfold Lib.idxFuncFrom
   by_cases hlt : pos < s.size
   ·rw [if_pos hlt]
    have hg := get_list hlt
    have hpl : pos < s.data.toList.length := by simpa using hlt
    by_cases ha : (s.get! pos).toNat < 128
    ·rw [dec_ascii ha]
     cases hl : Tg.letter (s.get! pos).toNat with
     | false =>
      simp only [hl, Bool.not_false, if_true]
      constructor
      ·intro _; exact ⟨pos, hpl, Nat.le_refl _, by rw [← hg]; exact hl⟩
      ·intro _; omega
     | true =>
      simp only [hl, Bool.not_true, Bool.false_eq_true, if_false]
      rw [ih (pos + 1) (by omega)]
      constructor
      ·rintro ⟨i, hi, h1, h2⟩; exact ⟨i, hi, by omega, h2⟩
      ·rintro ⟨i, hi, h1, h2⟩
       refine ⟨i, hi, ?_, h2⟩
       by_cases e : i = pos
       ·subst e
        rw [← hg, hl] at h2
        cases h2
       ·omega
    ·have h1 := big _ (dec_other (s := s) (i := pos) (by omega))
     simp only [h1, Bool.not_false, if_true]
     constructor
     ·intro _; exact ⟨pos, hpl, Nat.le_refl _, by rw [← hg]; exact big _ (by omega)⟩
     ·intro _; omega
   ·rw [if_neg hlt]
    constructor
    ·intro h; simp at h
    ·rintro ⟨i, hi, h1, _⟩
     have : i < s.size := by simpa using hi
     omega
 rw [Bool.eq_iff_iff]
 simp only [decide_eq_true_eq, Bool.not_eq_true', List.all_eq_false]
 unfold Lib.idxFunc
 rw [key s.size 0 (by omega)]
 constructor
 ·rintro ⟨i, hi, _, h⟩; exact ⟨_, List.getElem_mem hi, by simpa using h⟩
 ·rintro ⟨c, hc, h⟩
  obtain ⟨i, hi, rfl⟩ := List.getElem_of_mem hc
  exact ⟨i, hi, Nat.zero_le _, by simpa using h⟩
theorem word1 (w : World) : PredAtRunes Tryz.prog 283 #[] (fun r => !Tg.letter r) w := fun W x hx _ => by
 unfold FnGives
 go_enter Tryz.func283, Tryz.ntmps283
 go_wp2_with (go_at_call 284; refine (letter_any _ hx _).mono ?_; rintro e w' ⟨rfl, rfl⟩)
 go_ret
 exact ⟨rfl, 0, rfl⟩
theorem containsFunc_any (s : ByteArray) (w : World) : Calls Tryz.prog 282 #[.string s, .func (.func 283) #[] #[]] w fun e w' => e = .returned (.bool (!(s.data.toList.all fun c => Tg.letter c.toNat))) ∧ Ext w w' := by
 rw [← idx_letters]
 exact Any.strings_ContainsFunc_runes Tryz.containsFunc 283 #[] (enters_of Tryz.func283 (by kernel_rfl) rfl) _ s _ (word1 _)
theorem word_any (s : ByteArray) (w : World) : Calls Tryz.prog 251 #[.string s] w fun e w' => e = .returned (.bool (Tg.wordB s.data.toList)) ∧ Ext w w' := by
 have hl : s.toList.length = s.size := by rw [Lib.toList_data]; simp
 have hc := containsFunc_any s
 have hW : Hid (Tg.wordB s.data.toList = (!s.toList.isEmpty && decide ((s.size : Int) ≤ 64) && !(s.toList == [46]) && !(s.toList == [46, 46]) && s.data.toList.all fun c => Tg.letter c.toNat)) := lh (by
  have hd : decide ((s.size : Int) ≤ 64) = decide (s.data.toList.length ≤ 64) := by
   congr 1; apply propext; rw [← Lib.toList_data]; omega
  rw [hd, Lib.toList_data]; unfold Tg.wordB; cases s.data.toList <;> simp [bne])
 generalize (s.data.toList.all fun c => Tg.letter c.toNat) = b at hc hW
 have HC := lh hc
 clear hc
 go_enter Tryz.func251, Tryz.ntmps251
 go_wp2_with (go_at_call 282; refine (HC.out _).mono ?_; rintro e w' ⟨rfl, hxl⟩; obtain ⟨xl, rfl⟩ := hxl.asLater; clear hxl)
 all_goals
  go_ret
  refine ⟨ret_bool ?_, (by (with_reducible repeat first|exact eR _|apply eD|apply eN|apply eA|apply eO|apply eS|apply eC);all_goals first|omega|simp <;> omega)⟩
  rw [hW.out]
  simp_all
  try omega
theorem contains_one (s : ByteArray) (c : UInt8) (w : World) : Calls Tryz.prog 107 #[.string s, .string ⟨#[c]⟩] w fun e w' => e = .returned (.bool (s.data.toList.contains c)) ∧ w' = w := by
 have h := Any.strings_Contains_one Tryz.contains s c w
 change Calls Tryz.prog 107 _ _ _ at h
 have e : decide (0 ≤ Lib.indexByte s.data.toList c) = s.data.toList.contains c := by
  generalize s.data.toList = l
  induction l with
  | nil => rfl
  | cons b l ih =>
   rw [List.contains_cons, ← ih]
   have := Lib.indexByte_ge l c
   show decide (0 ≤ if (b == c) = true then (0 : Int) else if (Lib.indexByte l c == -1) = true then -1 else Lib.indexByte l c + 1) = _
   by_cases e : b = c
   ·subst e; simp
   ·rw [if_neg (by simpa using e)]
    have e2 : (c == b) = false := by simp [Ne.symm e]
    rw [e2, Bool.false_or]
    generalize Lib.indexByte l c = z at *
    by_cases hz : z = -1
    ·subst hz; rfl
    ·rw [if_neg (by simpa using hz)]
     congr 1
     apply propext
     omega
 rw [e] at h
 exact h
theorem name_any (s : ByteArray) (w : World) : Calls Tryz.prog 197 #[.string s] w fun e w' => e = .returned (.bool (Tg.nameB s.data.toList)) ∧ Ext w w' := by
 have hc := contains_one s 46
 have hw := word_any s
 have hN : Hid (Tg.nameB s.data.toList = (Tg.wordB s.data.toList && !(s.data.toList.contains 46))) := lh rfl
 generalize Tg.wordB s.data.toList = a at hw hN
 generalize s.data.toList.contains 46 = b at hc hN
 have HC := lh hc
 have HW := lh hw
 clear hc hw
 go_enter Tryz.func197, Tryz.ntmps197
 go_wp2_with (first | (go_at_call 251; refine (HW.out _).mono ?_; rintro e w' ⟨rfl, hxl⟩; obtain ⟨xl, rfl⟩ := hxl.asLater; clear hxl) | (go_at_call 107; refine (HC.out _).mono ?_; rintro e w' ⟨rfl, rfl⟩))
 all_goals
  go_ret
  refine ⟨ret_bool ?_, (by (with_reducible repeat first|exact eR _|apply eD|apply eN|apply eA|apply eO|apply eS|apply eC);all_goals first|omega|simp <;> omega)⟩
  rw [hN.out]
  simp_all
theorem rhas_byte (s : ByteArray) (c : UInt8) (w : World) (hs : s.size ≤ 9223372036854775807) : Calls Tryz.prog 128 #[.string s, .int .u8 c.toNat] w fun e w' => e = .returned (.bool (s.data.toList.contains c)) ∧ Ext w w' := by
 have hl : s.data.toList.length = s.size := by simp
 have hc0 := c.toNat_lt
 go_enter Tryz.func128, Tryz.ntmps128
 go_wp2
 go_loopw [5] (fun i wr => ∃ k : Nat, k ≤ s.size ∧ i = .int .i64 k ∧ Ext w wr ∧ Hid (∀ j (h : j < s.data.toList.length), j < k → s.data.toList[j] ≠ c)) (fun i _ => s.size - (intOf i).toNat)
 case atStart => exact ⟨0, Nat.zero_le _, rfl, eR _, lh (fun j _ h => absurd h (Nat.not_lt_zero _))⟩
 case round =>
  obtain ⟨k, hk, rfl, hx, HJ⟩ := hrel
  have HX := lh hx
  clear hx
  by_cases hlt : k < s.size
  ·have hk2 : k < s.data.toList.length := by omega
   have hg : s[k] = s.data.toList[k] := by simp [ByteArray.getElem_eq_getElem_data]
   by_cases hc : s.data.toList[k] = c
   ·have HQ : Hid (s.data.toList.contains c = true) := lh (by rw [List.contains_iff_mem, ← hc]; exact List.getElem_mem hk2)
    have hcc : ((s.data[k].toNat : Int) == (c.toNat : Int)) = true := by rw [← ByteArray.getElem_eq_getElem_data, hg, hc]; simp
    go_wp2
    go_ret
    exact ⟨ret_bool HQ.out.symm, HX.out⟩
   ·have HN := lh (show ∀ j (h : j < s.data.toList.length), j < k + 1 → s.data.toList[j] ≠ c from fun j h hj => by
     by_cases e : j = k
     ·subst e; exact hc
     ·exact HJ.out j h (by omega))
    have hcc : ((s.data[k].toNat : Int) == (c.toNat : Int)) = false := by
     rw [← ByteArray.getElem_eq_getElem_data, hg, beq_eq_false_iff_ne]
     exact fun h => hc (UInt8.toNat_inj.1 (by omega))
    go_wp2
    go_roundw
    case rel => exact ⟨k + 1, by omega, by go_num, HX.out, HN⟩
    case measure => simp [intOf]; omega
  ·have HQ : Hid (s.data.toList.contains c = false) := lh (by
    rw [Bool.eq_false_iff]
    intro h
    rw [List.contains_iff_mem] at h
    obtain ⟨j, hj, e⟩ := List.getElem_of_mem h
    exact HJ.out j hj (by omega) e)
   go_wp2
   go_ret
   exact ⟨ret_bool HQ.out.symm, HX.out⟩
theorem rword_any (s : ByteArray) (w : World) (hs : s.size ≤ 9223372036854775807) : Calls Tryz.prog 160 #[.string s] w fun e w' => e = .returned (.bool (Tg.wordB s.data.toList)) ∧ Ext w w' := by
 have hl : s.data.toList.length = s.size := by simp
 have hl2 : s.toList = s.data.toList := Lib.toList_data s
 have hW : Hid (Tg.wordB s.data.toList = (s.toList != [] && decide (s.size ≤ 64) && s.toList != [46] && s.toList != [46, 46] && s.data.toList.all fun c => Tg.letter c.toNat)) := lh (by rw [hl2, ← hl]; rfl)
 have hz : s.size = 0 → Hid (Tg.wordB s.data.toList = false) := fun h => lh (by
  have : s.data.toList = [] := List.eq_nil_of_length_eq_zero (hl.trans h)
  rw [this]; rfl)
 by_cases h0 : s.size = 0
 ·have HZ := hz h0
  clear hz hW hl hl2
  go_enter Tryz.func160, Tryz.ntmps160
  go_wp2
  go_ret
  exact ⟨ret_bool HZ.out.symm, (by (with_reducible repeat first|exact eR _|apply eD|apply eN|apply eA|apply eO|apply eS|apply eC);all_goals first|omega|simp <;> omega)⟩
 clear hz
 by_cases h1 : s.size ≤ 64 ∧ s.toList ≠ [46] ∧ s.toList ≠ [46, 46]
 ·obtain ⟨h2, h3, h4⟩ := h1
  have e0 : s.toList ≠ [] := fun h => h0 (by rw [← hl, ← hl2, h]; rfl)
  have hV : Hid (Tg.wordB s.data.toList = (s.data.toList.all fun c => Tg.letter c.toNat)) := lh (by rw [hW.out]; simp [h2, h3, h4, e0, bne])
  have b0 : ((s.size : Int) == 0) = false := by rw [beq_eq_false_iff_ne]; omega
  have b1 : decide (64 < (s.size : Int)) = false := by simp; omega
  have b2 : (s.toList == [46]) = false := by rw [beq_eq_false_iff_ne]; exact h3
  have b3 : (s.toList == [46, 46]) = false := by rw [beq_eq_false_iff_ne]; exact h4
  clear hW hl2 h3 h4 e0
  go_enter Tryz.func160, Tryz.ntmps160
  go_wp2
  go_loopw [3] (fun i wr => ∃ k : Nat, k ≤ s.size ∧ i = .int .i64 k ∧ Ext w wr ∧ Hid (∀ j (h : j < s.data.toList.length), j < k → Tg.letter (s.data.toList[j]).toNat = true)) (fun i _ => s.size - (intOf i).toNat)
  case atStart => exact ⟨0, Nat.zero_le _, rfl, eR _, lh (fun j _ h => absurd h (Nat.not_lt_zero _))⟩
  case round =>
   obtain ⟨k, hk, rfl, hx, HJ⟩ := hrel
   have HX := lh hx
   clear hx
   by_cases hlt : k < s.size
   ·have hk2 : k < s.data.toList.length := by omega
    have hg : s[k] = s.data.toList[k] := by simp [ByteArray.getElem_eq_getElem_data]
    have hb := (s[k]).toNat_lt
    cases hc : Tg.letter (s[k]).toNat with
    | false =>
     have HQ : Hid (Tg.wordB s.data.toList = false) := lh (by
      rw [hV.out, List.all_eq_false]
      exact ⟨_, List.getElem_mem hk2, by rw [← hg, hc]; simp⟩)
     have HC := lh hc
     clear hc hg
     go_wp2_with (go_at_call 202; refine (rletter_any _ hb _).mono ?_; rw [HC.out]; rintro e w' ⟨rfl, rfl⟩)
     go_ret
     exact ⟨ret_bool HQ.out.symm, HX.out⟩
    | true =>
     have HN := lh (show ∀ j (h : j < s.data.toList.length), j < k + 1 → Tg.letter (s.data.toList[j]).toNat = true from fun j h hj => by
      by_cases e : j = k
      ·subst e; rw [← hg]; exact hc
      ·exact HJ.out j h (by omega))
     have HC := lh hc
     clear hc hg
     go_wp2_with (go_at_call 202; refine (rletter_any _ hb _).mono ?_; rw [HC.out]; rintro e w' ⟨rfl, rfl⟩)
     go_roundw
     case rel => exact ⟨k + 1, by omega, by go_num, HX.out, HN⟩
     case measure => simp [intOf]; omega
   ·have HQ : Hid (Tg.wordB s.data.toList = true) := lh (by
     rw [hV.out, List.all_eq_true]
     intro c hc
     obtain ⟨j, hj, rfl⟩ := List.getElem_of_mem hc
     exact HJ.out j hj (by omega))
    go_wp2
    go_ret
    exact ⟨ret_bool HQ.out.symm, HX.out⟩
 ·have HV : Hid (Tg.wordB s.data.toList = false) := lh (by
   rw [hW.out]
   by_cases k1 : s.size ≤ 64
   ·by_cases k2 : s.toList = [46]
    ·simp [k2]
    ·by_cases k3 : s.toList = [46, 46]
     ·simp [k3]
     ·exact absurd ⟨k1, k2, k3⟩ h1
   ·simp [k1])
  have HN := lh h1
  clear h1 hW
  go_enter Tryz.func160, Tryz.ntmps160
  go_wp2
  all_goals first
   | (go_ret; exact ⟨ret_bool HV.out.symm, (by (with_reducible repeat first|exact eR _|apply eD|apply eN|apply eA|apply eO|apply eS|apply eC);all_goals first|omega|simp <;> omega)⟩)
   | (exfalso; apply HN.out; refine ⟨by omega, ?_, ?_⟩ <;> simp_all)
theorem rname_any (s : ByteArray) (w : World) (hs : s.size ≤ 9223372036854775807) : Calls Tryz.prog 110 #[.string s] w fun e w' => e = .returned (.bool (Tg.nameB s.data.toList)) ∧ Ext w w' := by
 have hc : ∀ w, Calls Tryz.prog 128 #[.string s, .int .u8 46] w fun e w' => e = .returned (.bool (s.data.toList.contains 46)) ∧ Ext w w' := fun w => rhas_byte s 46 w hs
 have hw := fun w => rword_any s w hs
 have hN : Hid (Tg.nameB s.data.toList = (Tg.wordB s.data.toList && !(s.data.toList.contains 46))) := lh rfl
 generalize Tg.wordB s.data.toList = a at hw hN
 generalize s.data.toList.contains 46 = b at hc hN
 have HC := lh hc
 have HW := lh hw
 clear hc hw
 go_enter Tryz.func110, Tryz.ntmps110
 go_wp2_with (first | (go_at_call 160; refine (HW.out _).mono ?_; rintro e w' ⟨rfl, hxl⟩; obtain ⟨xl, rfl⟩ := hxl.asLater; clear hxl) | (go_at_call 128; refine (HC.out _).mono ?_; rintro e w' ⟨rfl, hxl⟩; obtain ⟨xl, rfl⟩ := hxl.asLater; clear hxl))
 all_goals
  go_ret
  refine ⟨ret_bool ?_, (by (with_reducible repeat first|exact eR _|apply eD|apply eN|apply eA|apply eO|apply eS|apply eC);all_goals first|omega|simp <;> omega)⟩
  rw [hN.out]
  simp_all
abbrev ReadsStr (w : World) (B : Nat) (A : Option Addr) (l : List ByteArray) : Prop := Reads 1 encStr w B A l
abbrev OwnsStr (base : Nat) (w : World) (A : Option Addr) (c : Nat) (l : List ByteArray) : Prop := Owns 9 1 encStr base w A c l
theorem strT : ElemTy Tryz.prog 97 9 1 16 := ⟨by kernel_rfl, by kernel_rfl, by omega⟩
theorem ReadsStr.cell {w : World} {B : Nat} {A : Option Addr} {l : List ByteArray} (h : ReadsStr w B A l) (i : Nat) (hi : i < l.length) : ∃ b off, A = some ⟨b, off, none⟩ ∧ b < B ∧ w.cell? ⟨b, off + i, none⟩ = some (.string l[i]) := by
 obtain ⟨b, off, h1, h2, h3⟩ := h (by omega)
 exact ⟨b, off, h1, h2, by simpa using h3 i hi 0 _ rfl⟩
section
attribute [local go_sem] Oper.semAt_some
theorem svalues1_in (F : Fence) (n : Nat) (hF : F.fn 255) (hro : F.round = none) (hn : 1 ≤ n) (l bl n0 : Nat) (A : Option Addr) (c : Nat) (ls : List ByteArray) (W : World)
  (hlen : ls.length ≤ 140737488355328) (hl : Boxed W bl 97 (.slice A ls.length c)) (hr : ReadsStr W n0 A ls) (hn0 : n0 ≤ W.heap.size) (S : Nat → Prop) (hS : ∀ k, k < n0 → ¬ S k) (hSb : ¬ S bl)
  (J : Nat → World → Prop) (h0 : J 0 W) (hJ : ∀ k W1 W2, J k W1 → Ext W1 W2 → J k W2)
  (hY : ∀ k (h : k < ls.length) W1, J k W1 → ButS S W W1 → YieldAt F (n - 1) Tryz.prog l #[.string ls[k]] W1 fun e W' => e = .returned (.bool true) ∧ J (k + 1) W' ∧ ButS S W1 W') :
  CallsIn F n Tryz.prog 255 #[.func (.yield l) #[] #[], .pointer (some ⟨bl, 0, none⟩)] W fun e W' => (∃ v, e = .returned v) ∧ J ls.length W' ∧ ButS S W W' := by
 refine callsIn_of_wp Tryz.func255 rfl hF ?_ hro
 simp only [Tryz.ntmps255, List.size_toArray, List.length_cons, List.length_nil, Nat.reduceAdd, Nat.reduceSub, Array.replicate_succ, Array.replicate_zero, List.push_toArray, List.append_toArray, List.nil_append, List.cons_append]
 have hcl := hl.cell
 have HY := lh hY
 have HJ := lh hJ
 have H0 := lh h0
 have HR := lh hr
 have HSn := lh hS
 have HSb := lh hSb
 clear hY hJ h0 hr hS hSb
 gi_wp2
 gi_loopw [7] (fun i wr => ∃ k : Nat, k ≤ ls.length ∧ i = .int .i64 k ∧ Hid (J k wr) ∧ Hid (ButS S W wr)) (fun i _ => ls.length - (intOf i).toNat)
 case atStart => exact ⟨0, Nat.zero_le _, rfl, H0, lh (ButS.refl _ _)⟩
 case round =>
  obtain ⟨k, hk, rfl, HJk, HB⟩ := hrel
  by_cases hlt : k < ls.length
  ·obtain ⟨b, off, rfl, hb, c1⟩ := ReadsStr.cell (HR.out.butS HB.out hn0 HSn.out) k hlt
   have hsz := HB.out.size
   obtain ⟨fn, tmps, assign, body, hy, hR⟩ := HY.out k hlt wr HJk.out HB.out
   have HRR := lh hR
   clear hR
   generalize ls[k] = s at *
   gi_wp2
   refine HRR.out.mono ?_
   rintro e W' ⟨rfl, hj, hb'⟩
   have HJ2 := lh hj
   have HB2 := lh (HB.out.trans hb')
   clear hj hb' hy HRR
   gi_wp2
   go_roundw
   case rel => exact ⟨k + 1, by omega, by go_num, HJ2, HB2⟩
   case measure => simp [intOf]; omega
  ·have e : k = ls.length := by omega
   subst e
   gi_wp2
   go_end0
   exact ⟨⟨_, rfl⟩, HJk.out, HB.out⟩
theorem sappendSeq_ok (bl : Nat) (A : Option Addr) (c : Nat) (ls : List ByteArray) (w : World) (hlen : ls.length * 16 ≤ 140737488355328) (hbl : Boxed w bl 97 (.slice A ls.length c)) (hr : ReadsStr w w.heap.size A ls) :
  Calls Tryz.prog 285 #[.slice none 0 0, .func (.func 255) #[] #[.pointer (some ⟨bl, 0, none⟩)]] w fun e w' =>
   ∃ A' c', e = .returned (.slice A' ls.length c') ∧ OwnsStr w.heap.size w' A' c' ls ∧ Ext w w' := by
 have HP := lh hr
 have HBL := lh hbl
 have hbl' := hbl.lt
 clear hr hbl
 refine (callsIn_wide (n := 3)).1 ?_
 refine callsIn_of_wp_marks Tryz.func285 rfl trivial ?_ rfl
 simp only [Tryz.ntmps285, List.size_toArray, List.length_cons, List.length_nil, Nat.reduceAdd, Nat.reduceSub, Array.replicate_succ, Array.replicate_zero, List.push_toArray, List.append_toArray, List.nil_append, List.cons_append]
 gi_wp2
 have b1 : Boxed (w.alloc (.cells #[.slice none 0 0] 97)) w.heap.size 97 (.slice none 0 0) := Boxed.new w 97 _
 have b2 : Boxed (w.alloc (.cells #[.slice none 0 0] 97)) bl 97 (.slice A ls.length c) := HBL.out.alloc _
 have bs : (w.alloc (.cells #[.slice none 0 0] 97)).heap.size = w.heap.size + 1 := by simp
 have bx : Ext w (w.alloc (.cells #[.slice none 0 0] 97)) := (eR _).alloc _
 generalize (w.alloc (.cells #[.slice none 0 0] 97)) = W0 at b1 b2 bs bx ⊢
 refine rf_enter rfl (by omega) (gf := 255) (lb := #[.pointer (some ⟨bl, 0, none⟩)]) rfl trivial (enters_of Tryz.func255 (by kernel_rfl) rfl) ?_
 intro fn WL hfn hE hEs hl0 hD0
 have hEa := Nat.le_of_eq hEs
 have hEb := Nat.le_of_eq hEs.symm
 clear hEs
 refine CallsIn.mono (svalues1_in Fence.wide (3 - 1) trivial rfl (by omega) (W0.heap.size + 1) bl w.heap.size A c ls WL (by omega) (Boxed.ext b2 hE) (HP.out.ext (bx.trans hE) (Nat.le_refl _)) (by omega)
  (fun k => k = w.heap.size ∨ WL.heap.size ≤ k) (fun k hk => by omega) (by omega)
  (fun k W => ∃ A' c' l', Hid (l' = ls.take k) ∧ Boxed W w.heap.size 97 (.slice A' l'.length c') ∧ OwnsStr WL.heap.size W A' c' l')
  ⟨none, 0, [], lh rfl, Boxed.ext b1 hE, Owns.nil _ _ _ _ _⟩ (fun k W1 W2 ⟨A', c', l', h1, h2, h3⟩ hx => ⟨A', c', l', h1, Boxed.ext h2 hx, h3.ext hx⟩) ?hY) ?post
 case hY =>
  rintro k hk W1 ⟨A', c', l', HL, hbo, ho⟩ hBS
  have hsz1 := hBS.size
  have hrec := (hBS.block (W0.heap.size + 1) (by omega) (by omega)).trans hl0
  have hlt := (Array.getElem?_eq_some_iff.1 hrec).1
  have hll1 : l'.length ≤ k := by rw [HL.out, List.length_take]; omega
  have hll2 : k ≤ l'.length := by rw [HL.out, List.length_take]; omega
  have HTK : Hid (ls.take (k + 1) = ls.take k ++ [ls[k]]) := lh (List.take_succ_eq_append_getElem hk)
  generalize ls[k] = s at *
  refine rf_round hrec hfn rfl ?_
  have HREC := lh hrec
  have HBS := lh bs
  clear hrec bs
  gi_wp2
  refine ⟨(Array.getElem?_eq_some_iff.1 HREC.out).2, ?_⟩
  intro W2 hb2 hs2 hr2
  have hbp2 : Boxed W2 w.heap.size 97 (.slice A' l'.length c') := boxed_but hbo hb2 (by have := HBS.out; omega)
  have ho2 : OwnsStr WL.heap.size W2 A' c' l' := ho.but hb2 (by have := HBS.out; omega)
  have c3 := hbp2.cell
  have hs2a : W2.heap.size ≤ W1.heap.size := Nat.le_of_eq hs2
  have hs2b : W1.heap.size ≤ W2.heap.size := Nat.le_of_eq hs2.symm
  have HB2 := lh hb2
  have HR2 := lh hr2
  have HO2 := lh ho2
  have HP2 := lh hbp2
  clear hb2 hr2 hs2 ho hbo ho2 hbp2
  gi_wp2_with (gi_at_builtin; refine app_fromIn strT sE rfl _ _ rfl WL.heap.size _ _ l' rfl (HO2.out.alloc _) _ 1 _ [s] rfl rfl (new_cellsAt (by omega) _ _) (by omega) (by omega) (by simp; omega) ?_; intro A3 c3' l3 w3 HL3 HO3 hB hl1 hl2 hG; have HO3' := lh HO3; have HB3 := lh hB; have HG3 := lh hG; have hbp3 : Boxed w3 w.heap.size 97 (.slice A' l'.length c') := (hB.block _ (by have := HBS.out; omega)).trans (HP2.out.alloc _); have hc3 := hbp3.cell; have hf3 := hbp3.frozen; have HP3 := lh hbp3; have hsz3 := hB.size; clear HO3 hB hG hbp3)
  refine ⟨?_, ?_⟩
  ·refine (Below.heap_setCell _ _ _ _ (by show _ ≠ w.heap.size; have := HBS.out; omega)).trans ?_
   exact (HB3.out.block _ (by have := HBS.out; omega)).trans ((Below.heap_alloc _ _ _ (by omega)).trans HR2.out)
  intro W4 hb4 hr4
  refine ⟨rfl, ⟨A3, c3', l3, lh (by rw [HL3.out, HTK.out, HL.out]), boxed_but (HP3.out.set _) hb4 (by have := HBS.out; omega), (HO3'.out.other (p := ⟨w.heap.size, 0, none⟩) (by show w.heap.size < _; have := HBS.out; omega) _).but hb4 (by have := HBS.out; omega)⟩, ?_⟩
  refine ButS.back (l := W0.heap.size + 1) ?_ (hr4.trans HREC.out.symm)
  refine ButS.trans (b := W2) (ButS.of_but HB2.out (.inr (.inr rfl))) ?_
  refine ButS.trans (b := w3) (ButS.trans (ButS.of_ext ((Ext.refl W2).alloc _)) (ButS.of_grownBy HG3.out (fun k e => .inl (.inr (HO2.out.blk k e))))) ?_
  exact ((ButS.refl _ w3).setCell (p := ⟨w.heap.size, 0, none⟩) (.inl (.inl (.inl rfl))) _).trans (ButS.of_but hb4 (.inr (.inr rfl)))
 case post =>
  rintro e W' ⟨⟨v', rfl⟩, ⟨A', c', l', HL, hbo, ho⟩, hB⟩
  have hl' : l' = ls := by rw [HL.out, List.take_length]
  subst hl'
  refine ⟨⟨_, rfl⟩, .inl ⟨(hB.block _ (by omega) (by omega)).trans hl0, ?_⟩⟩
  intro W'' hBut
  have hK : W''.heap[W0.heap.size]? = some (.deferred (some [])) := (hBut.block _ (by have := hB.size; omega) (fun e => by injection e; omega)).trans ((hB.block _ (by omega) (by omega)).trans hD0)
  have hc := (boxed_but hbo hBut (by omega)).cell
  have HE : Hid (Ext w (W''.putObj W0.heap.size (.deferred none))) := by
   refine lh ?_
   have f1 : ButS (fun k => w.heap.size ≤ k) w W' := (ButS.of_ext (bx.trans hE)).trans (hB.mono (fun k _ e => by omega))
   have f2 : ButS (fun k => w.heap.size ≤ k) w W'' := f1.trans (ButS.of_but hBut (.inr (by omega)))
   exact (f2.trans (ButS.of_but (grownBy_putObj' W'' W0.heap.size (.deferred none)) (.inr (by omega)))).toExt (fun k hk => by omega)
  have HO : Hid (OwnsStr w.heap.size (W''.putObj W0.heap.size (.deferred none)) A' c' l') := lh (((ho.but hBut (by omega)).but (grownBy_putObj' W'' W0.heap.size (.deferred none)) (by omega)).lower (by omega))
  have HK := lh hK
  have HBS := lh bs
  clear hK bs hl0 hD0 hbo ho
  gi_wp2
  refine ⟨by simp, .inl ⟨_, _, rfl, run_takeDeferred HK.out, ?_⟩⟩
  exact ⟨_, results_tmp rfl _ _ _, A', c', rfl, HO.out, HE.out⟩
end
theorem svalues_any (A : Option Addr) (n c : Nat) (w : World) :
  Calls Tryz.prog 201 #[.slice A n c] w fun e w' => e = .returned (.func (.func 255) #[] #[.pointer (some ⟨w.heap.size, 0, none⟩)]) ∧ w.alloc (.cells #[.slice A n c] 97) = w' := by
 go_enter Tryz.func201, Tryz.ntmps201
 go_wp2
 go_ret
 exact ⟨rfl, rfl⟩
theorem scollect_ok (bl : Nat) (A : Option Addr) (c : Nat) (ls : List ByteArray) (w : World) (hlen : ls.length * 16 ≤ 140737488355328) (hbl : Boxed w bl 97 (.slice A ls.length c)) (hr : ReadsStr w w.heap.size A ls) :
  Calls Tryz.prog 253 #[.func (.func 255) #[] #[.pointer (some ⟨bl, 0, none⟩)]] w fun e w' =>
   ∃ A' c', e = .returned (.slice A' ls.length c') ∧ OwnsStr w.heap.size w' A' c' ls ∧ Ext w w' := by
 have H := lh (sappendSeq_ok bl A c ls w hlen hbl hr)
 clear hbl hr
 go_enter Tryz.func253, Tryz.ntmps253
 go_wp2_with (go_at_call 285; refine H.out.mono ?_; rintro e w' ⟨A', c', rfl, ho, hx⟩)
 go_ret
 exact ⟨A', c', rfl, ho, hx⟩
end Go.Proofs.YtpojnhikgjcgmaaGreatDoor

namespace Go.Proofs.YtpojnhikgjcgmaaGreatDoor
open Go.RowKit Go.Shelf
open Go.Proofs
def StrAt (w : World) (g : Nat) (zs : List (List UInt8)) : Prop := g < w.heap.size ∧ Go.Sort.Holds Go.Proofs.encStr w g 0 zs.toArray
theorem putRow_but (w : World) (g n : Nat) (d : Array (List UInt8)) (os : Array Obj) : ButS (· = g) w (Go.Sort.grow (Go.Sort.putRow Go.Proofs.encStr (Go.Sort.ahead w n) g 0 d) os) := by
 refine ⟨rfl, rfl, rfl, ?_, fun j hj hn => ?_⟩
 ·simp [Go.Sort.grow, Go.Sort.putRow, Go.Sort.mapBlock, Go.Sort.ahead]
 ·have hn' : ¬ j = g := hn
  show ((Go.Sort.putRow Go.Proofs.encStr (Go.Sort.ahead w n) g 0 d).heap ++ os)[j]? = w.heap[j]?
  have hs : j < (Go.Sort.putRow Go.Proofs.encStr (Go.Sort.ahead w n) g 0 d).heap.size := by simp [Go.Sort.putRow, Go.Sort.mapBlock, Go.Sort.ahead]; exact hj
  rw [Array.getElem?_append_left hs]
  simp only [Go.Sort.putRow, Go.Sort.mapBlock, Go.Sort.ahead, Array.getElem?_modify]
  rw [if_neg (Ne.symm hn')]
theorem grow_none (w : World) : Go.Sort.grow w #[] = w := by simp [Go.Sort.grow]
theorem putRow_size (w : World) (g n : Nat) (d : Array (List UInt8)) : (Go.Sort.putRow Go.Proofs.encStr (Go.Sort.ahead w n) g 0 d).heap.size = w.heap.size := by simp [Go.Sort.putRow, Go.Sort.mapBlock, Go.Sort.ahead]
theorem strAt_put {w : World} {g : Nat} {zs ys : List (List UInt8)} (h : StrAt w g zs) (hs : ys.length = zs.length) (n : Nat) (os : Array Obj) : StrAt (Go.Sort.grow (Go.Sort.putRow Go.Proofs.encStr (Go.Sort.ahead w n) g 0 ys.toArray) os) g ys := by
 refine ⟨Nat.lt_of_lt_of_le h.1 (putRow_but w g n ys.toArray os).size, ?_⟩
 refine Go.Sort.holds_grow _ _ _ _ _ _ (by rw [putRow_size]; exact h.1) ?_
 exact Go.Sort.holds_putRow _ (Go.Sort.ahead w n) g 0 zs.toArray ys.toArray h.2 (by simpa using hs)
theorem StrAt.first {w : World} {g : Nat} {zs ys : List (List UInt8)} (h : StrAt w g (zs ++ ys)) : StrAt w g zs := by
 refine ⟨h.1, fun j hj => ?_⟩
 have hj' : j < zs.length := by simpa using hj
 have := h.2 j (by simp; omega)
 rw [getElem!_pos (zs ++ ys).toArray j (by simp; omega)] at this
 rw [getElem!_pos zs.toArray j hj]
 simpa [List.getElem_append_left hj'] using this
theorem strAt_of {base : Nat} {w : World} {g c : Nat} {l : List ByteArray} (h : OwnsStr base w (some ⟨g, 0, none⟩) c l) (h0 : l ≠ []) : StrAt w g (l.map (·.data.toList)) := by
 have hr := h.reads sE
 rcases h.cases with ⟨k, _⟩ | ⟨g', cur, k, h2, h3, h4, h5, h6, h7⟩
 ·cases k
 ·injection k with k; injection k with k; subst k
  refine ⟨(Array.getElem?_eq_some_iff.1 h3).1, fun j hj => ?_⟩
  have hj' : j < l.length := by simpa using hj
  obtain ⟨b, off, e1, _, hc⟩ := ReadsStr.cell hr j hj'
  injection e1 with e1; injection e1 with e1 e2; subst e1 e2
  refine ⟨?_, by simp [World.frozen?, h3]⟩
  rw [hc, getElem!_pos _ j hj]
  simp
theorem ssort_any (g c : Nat) (zs : List (List UInt8)) (w : World) (h : StrAt w g zs) (hl : zs.length ≤ 140737488355328) :
  Calls Tryz.prog 254 #[.slice (some ⟨g, 0, none⟩) zs.length c] w fun e w' => e = .returned (.tuple #[]) ∧ StrAt w' g (zs.mergeSort fun x y => decide (x ≤ y)) ∧ ButS (· = g) w w' := by
 have hc := Any.slices_Sort_string Tryz.sortS g 0 c zs w h.2 h.1 (by omega)
 change Calls Tryz.prog 254 _ _ _ at hc
 refine hc.mono ?_
 rintro e w' ⟨rfl, n, os, rfl⟩
 exact ⟨rfl, strAt_put h (by simp) n os, putRow_but _ _ _ _ _⟩
theorem compact_len (zs : List (List UInt8)) : (Lib.compact zs).length ≤ zs.length := by
 have key : ∀ m, (Lib.compactUpTo zs.toArray m).length ≤ m := by
  intro m
  induction m with
  | zero => simp [Lib.compactUpTo]
  | succ m ih =>
   rw [Lib.compactUpTo_succ]
   split
   ·rw [List.length_append, List.length_singleton]; omega
   ·rw [List.length_append, List.length_nil]; omega
 exact key zs.length
theorem scompact_any (g c : Nat) (zs : List (List UInt8)) (w : World) (h : StrAt w g zs) (hl : zs.length ≤ 140737488355328) (hcap : zs.length ≤ c) :
  Calls Tryz.prog 199 #[.slice (some ⟨g, 0, none⟩) zs.length c] w fun e w' => e = .returned (.slice (some ⟨g, 0, none⟩) (Lib.compact zs).length c) ∧ StrAt w' g (Lib.compact zs) ∧ (Lib.compact zs).length ≤ zs.length ∧ ButS (· = g) w w' := by
 have hc := Any.slices_Compact_string Tryz.compactS g 0 c zs w h.2 (by omega) hcap
 change Calls Tryz.prog 199 _ _ _ at hc
 have hle : (Lib.compact zs).length ≤ zs.length := compact_len zs
 refine hc.mono ?_
 rintro e w' ⟨rfl, q, rfl⟩
 have hs : (Lib.compact zs ++ List.replicate (zs.length - (Lib.compact zs).length) ([] : List UInt8)).length = zs.length := by simp; omega
 have k := strAt_put h hs q #[]
 rw [grow_none] at k
 have k2 := putRow_but w g q (Lib.compact zs ++ List.replicate (zs.length - (Lib.compact zs).length) ([] : List UInt8)).toArray #[]
 rw [grow_none] at k2
 exact ⟨rfl, k.first, hle, k2⟩
theorem joinExtra : Builder.Extra Tryz.prog Tryz.join_ren where
 sizeBuilder := by kernel_rfl
 liesBuilder := by kernel_rfl
 t5 := by kernel_rfl
 a5 := fun w => by kernel_rfl
 z5 := fun w => by kernel_rfl
 v5 := fun w => by kernel_rfl
 infoByte := by kernel_rfl
 cellsByte := by kernel_rfl
 sizeByte := by kernel_rfl
 neB5 := by decide
theorem sjoin_any (g c : Nat) (zs : List (List UInt8)) (w : World) (h : StrAt w g zs) (hl : zs.length ≤ 140737488355328) (hcap : zs.length ≤ c) (hj : (Lib.join zs [44]).length ≤ 140737488355328) :
  Calls Tryz.prog 198 #[.slice (some ⟨g, 0, none⟩) zs.length c, .string ⟨#[44]⟩] w fun e w' => e = .returned (.string ⟨(Lib.join zs [44]).toArray⟩) ∧ Ext w w' := by
 have e1 : (zs.map fun z => (⟨z.toArray⟩ : ByteArray)).map (·.data.toList) = zs := by simp [List.map_map, Function.comp_def]
 have hc := Any.strings_Join Tryz.join joinExtra g 0 c (zs.map fun z => (⟨z.toArray⟩ : ByteArray)) ⟨#[44]⟩ w (fun j x hx => by
  rw [List.getElem?_map] at hx
  cases hz : zs[j]? with
  | none => rw [hz] at hx; cases hx
  | some z =>
   rw [hz] at hx
   simp only [Option.map_some, Option.some.injEq] at hx
   subst hx
   have hlt := (List.getElem?_eq_some_iff.1 hz).1
   have := (h.2 j (by simpa using hlt)).1
   rw [this, getElem!_pos zs.toArray j (by simpa using hlt)]
   have e2 : zs[j] = z := (List.getElem?_eq_some_iff.1 hz).2
   simp [e2]) h.1 (by simpa using hl) (by simpa using hcap) (by rw [e1]; exact hj)
 change Calls Tryz.prog 198 _ _ _ at hc
 rw [e1, List.length_map] at hc
 exact hc.mono (fun e w' ⟨a, b⟩ => ⟨a, b⟩)
def bsT (s : ByteArray) : List UInt8 := s.data.toList
theorem bsT_size (s : ByteArray) : (bsT s).length = s.size := by simp [bsT]
def sortBs (ls : List ByteArray) : List (List UInt8) := (ls.map bsT).mergeSort fun x y => decide (x ≤ y)
theorem sortBs_len (ls : List ByteArray) : (sortBs ls).length = ls.length := by simp [sortBs]
theorem sortBs_mem (ls : List ByteArray) (x : List UInt8) : x ∈ sortBs ls ↔ x ∈ ls.map bsT := by simp [sortBs, List.mem_mergeSort]
theorem sortBs_le (ls : List ByteArray) : (sortBs ls).Pairwise (· ≤ ·) := by
 have h := List.pairwise_mergeSort (le := fun x y : List UInt8 => decide (x ≤ y)) (fun a b c h1 h2 => by
  simp only [decide_eq_true_eq] at h1 h2 ⊢
  exact List.le_trans h1 h2) (fun a b => by
  rcases List.le_total a b with h | h <;> simp [h]) (ls.map bsT)
 exact h.imp (fun h => by simpa using h)
def setBs (ls : List ByteArray) : List (List UInt8) := Lib.compact (sortBs ls)
theorem setBs_asc (ls : List ByteArray) : Tg.Asc (setBs ls) := (Tg.compact_spec _ (sortBs_le ls)).1
theorem setBs_mem (ls : List ByteArray) (x : List UInt8) : x ∈ setBs ls ↔ x ∈ ls.map bsT := ((Tg.compact_spec _ (sortBs_le ls)).2 x).trans (sortBs_mem ls x)
theorem setBs_len (ls : List ByteArray) : (setBs ls).length ≤ ls.length := by
 have := compact_len (sortBs ls)
 rw [sortBs_len] at this
 exact this
theorem ssorted_any (bl : Nat) (A : Option Addr) (c : Nat) (ls : List ByteArray) (w : World) (h0 : ls ≠ []) (hlen : ls.length * 16 ≤ 140737488355328) (hbl : Boxed w bl 97 (.slice A ls.length c)) (hr : ReadsStr w w.heap.size A ls) :
  Calls Tryz.prog 200 #[.func (.func 255) #[] #[.pointer (some ⟨bl, 0, none⟩)]] w fun e w' =>
   ∃ g c', e = .returned (.slice (some ⟨g, 0, none⟩) (sortBs ls).length c') ∧ w.heap.size ≤ g ∧ (sortBs ls).length ≤ c' ∧ StrAt w' g (sortBs ls) ∧ Ext w w' := by
 have H := lh (scollect_ok bl A c ls w hlen hbl hr)
 have HL := sortBs_len ls
 have hle : ls.length ≤ 140737488355328 := by omega
 clear hbl hr hlen
 go_enter Tryz.func200, Tryz.ntmps200
 go_wp2_with (first
  | (go_at_call 253; refine H.out.mono ?_; rintro e w' ⟨A', c', rfl, ho, hx⟩)
  | (go_at_call 254; refine (show Hid _ from ?_).out))
 refine lh ?_
 rcases ho.cases with ⟨_, _, k⟩ | ⟨g, cur, rfl, h2, h3, h4, _, _, _⟩
 ·exact absurd k h0
 have hS := strAt_of ho h0
 have hs := ssort_any g c' (ls.map (·.data.toList)) w' hS (by rw [List.length_map]; exact hle)
 rw [List.length_map] at hs
 have HX := lh hx
 clear ho hx H h3
 refine hs.mono ?_
 rintro e w2 ⟨rfl, hs2, hb2⟩
 have HB := lh hb2
 have HS2 := lh hs2
 clear hs hb2 hs2 hS
 go_wp2
 go_ret
 refine ⟨g, c', ?_, h2, ?_, HS2.out, ((ButS.of_ext HX.out).trans (HB.out.mono (S' := fun k => w.heap.size ≤ k) (fun k _ e => by subst e; exact h2))).toExt (fun k hk => by omega)⟩
 ·rw [HL]; rfl
 ·rw [HL]; exact h4
def badB (ls : List ByteArray) : Bool := ls.any fun s => !Tg.nameB (bsT s)
theorem badB_step (ls : List ByteArray) (k : Nat) (h : k < ls.length) (hk : (ls.take k).any (fun s => !Tg.nameB (bsT s)) = false) (hn : Tg.nameB (bsT ls[k]) = true) : (ls.take (k + 1)).any (fun s => !Tg.nameB (bsT s)) = false := by
 rw [List.take_succ_eq_append_getElem h, List.any_append, hk]
 simp [hn]
theorem tags1_any (s : ByteArray) (w : World) : Calls Tryz.prog 196 #[.string s] w fun e w' => e = .returned (.bool (!Tg.nameB (bsT s))) ∧ Ext w w' := by
 have H := lh (name_any s)
 go_enter Tryz.func196, Tryz.ntmps196
 go_wp2_with (go_at_call 197; refine (H.out _).mono ?_; rintro e w' ⟨rfl, hxl⟩; obtain ⟨xl, rfl⟩ := hxl.asLater; clear hxl)
 go_ret
 exact ⟨rfl, (by (with_reducible repeat first|exact eR _|apply eD|apply eN|apply eA|apply eO|apply eS|apply eC);all_goals first|omega|simp <;> omega)⟩
theorem sindexF_any (A : Option Addr) (c : Nat) (ls : List ByteArray) (w : World) (hlen : ls.length ≤ 140737488355328) (hr : ReadsStr w w.heap.size A ls) :
  Calls Tryz.prog 252 #[.slice A ls.length c, .func (.func 196) #[] #[]] w fun e w' => ∃ i : Int, e = .returned (.int .i64 i) ∧ (badB ls = true → 0 ≤ i) ∧ (badB ls = false → i = -1) ∧ Ext w w' := by
 have HR := lh hr
 clear hr
 go_enter Tryz.func252, Tryz.ntmps252
 go_wp2
 go_loopw [8] (fun i wr => ∃ k : Nat, k ≤ ls.length ∧ i = .int .i64 k ∧ Ext w wr ∧ Hid ((ls.take k).any (fun s => !Tg.nameB (bsT s)) = false)) (fun i _ => ls.length - (intOf i).toNat)
 case atStart => exact ⟨0, Nat.zero_le _, rfl, eR _, lh rfl⟩
 case round =>
  obtain ⟨k, hk, rfl, hx, HJ⟩ := hrel
  have HX := lh hx
  by_cases hlt : k < ls.length
  ·obtain ⟨b, off, rfl, hb, c1⟩ := ReadsStr.cell (HR.out.on hx) k hlt
   have HT := lh (tags1_any ls[k])
   have HN := lh (badB_step ls k hlt HJ.out)
   have HM : Hid (Tg.nameB (bsT ls[k]) = false → badB ls = true) := lh (fun h => by
    rw [badB, List.any_eq_true]; exact ⟨ls[k], List.getElem_mem hlt, by simp [h]⟩)
   generalize ls[k] = s at *
   clear hx
   cases hn : Tg.nameB (bsT s) with
   | true =>
    rw [hn] at HT
    have HN2 := lh (HN.out hn)
    clear HN HM hn
    go_wp2_with (go_at_call 196; refine (HT.out _).mono ?_; rintro e w' ⟨rfl, hxl⟩; obtain ⟨xl, rfl⟩ := hxl.asLater; clear hxl)
    go_roundw
    case rel => exact ⟨k + 1, by omega, by go_num, (by (with_reducible repeat first|exact HX.out|exact eR _|apply eD|apply eN|apply eA|apply eO|apply eS|apply eC);all_goals first|omega|simp <;> omega), HN2⟩
    case measure => simp [intOf]; omega
   | false =>
    rw [hn] at HT
    have HM2 := lh (HM.out hn)
    clear HN HM hn
    go_wp2_with (go_at_call 196; refine (HT.out _).mono ?_; rintro e w' ⟨rfl, hxl⟩; obtain ⟨xl, rfl⟩ := hxl.asLater; clear hxl)
    go_ret
    exact ⟨k, rfl, fun _ => by omega, fun h => (by rw [HM2.out] at h; cases h), (by (with_reducible repeat first|exact HX.out|exact eR _|apply eD|apply eN|apply eA|apply eO|apply eS|apply eC);all_goals first|omega|simp <;> omega)⟩
  ·have HQ : Hid (badB ls = false) := lh (by have h := HJ.out; rwa [List.take_of_length_le (by omega)] at h)
   go_wp2
   go_ret
   exact ⟨-1, rfl, fun h => (by rw [HQ.out] at h; cases h), fun _ => rfl, HX.out⟩
theorem scontainsF_any (A : Option Addr) (c : Nat) (ls : List ByteArray) (w : World) (hlen : ls.length ≤ 140737488355328) (hr : ReadsStr w w.heap.size A ls) :
  Calls Tryz.prog 195 #[.slice A ls.length c, .func (.func 196) #[] #[]] w fun e w' => e = .returned (.bool (badB ls)) ∧ Ext w w' := by
 have H := lh (sindexF_any A c ls w hlen hr)
 clear hr
 cases hb : badB ls with
 | true =>
  rw [hb] at H
  go_enter Tryz.func195, Tryz.ntmps195
  go_wp2_with (go_at_call 252; refine H.out.mono ?_; rintro e w' ⟨i, rfl, h1, _, hx⟩; have h2 := h1 rfl; obtain ⟨xl, rfl⟩ := hx.asLater; clear hx h1)
  go_ret
  exact ⟨ret_bool (by first | simp; done | (simp; omega)), (by (with_reducible repeat first|exact eR _|apply eD|apply eN|apply eA|apply eO|apply eS|apply eC);all_goals first|omega|simp <;> omega)⟩
 | false =>
  rw [hb] at H
  go_enter Tryz.func195, Tryz.ntmps195
  go_wp2_with (go_at_call 252; refine H.out.mono ?_; rintro e w' ⟨i, rfl, _, h1, hx⟩; have h2 := h1 rfl; subst h2; obtain ⟨xl, rfl⟩ := hx.asLater; clear hx h1)
  go_ret
  exact ⟨rfl, (by (with_reducible repeat first|exact eR _|apply eD|apply eN|apply eA|apply eO|apply eS|apply eC);all_goals first|omega|simp <;> omega)⟩
def tagTx (ls : List ByteArray) : List UInt8 := Lib.join (setBs ls) [44]
def tagN (ls : List ByteArray) : Int := if badB ls then 1 else if 4096 < (tagTx ls).length then 2 else 0
def tagS (ls : List ByteArray) : List UInt8 := if tagN ls = 0 then tagTx ls else []
theorem join_le (m : Nat) : ∀ l : List (List UInt8), (∀ p ∈ l, p.length ≤ m) → (Lib.join l [44]).length ≤ l.length * (m + 1)
 | [], _ => by simp [Lib.join, Lib.joinTail]
 | [x], h => by rw [Lib.join_one]; have := h x (by simp); simp; omega
 | x :: y :: r, h => by
  rw [Tg.join_two, List.length_append, List.length_cons, List.length_cons]
  have h1 := h x (by simp)
  have h2 := join_le m (y :: r) (fun p hp => h p (by simp at hp ⊢; exact .inr hp))
  rw [List.length_cons] at h2 ⊢
  rw [Nat.add_mul (r.length + 1) 1]
  omega
theorem tagTx_len (ls : List ByteArray) (h : badB ls = false) : (tagTx ls).length ≤ ls.length * 65 := by
 have h1 := join_le 64 (setBs ls) (fun p hp => by
  rw [setBs_mem, List.mem_map] at hp
  obtain ⟨s, hs, rfl⟩ := hp
  have h2 : Tg.nameB (bsT s) = true := by
   rw [badB, List.any_eq_false] at h
   have := h s hs
   simpa using this
  simp only [Tg.nameB, Tg.wordB, Bool.and_eq_true, decide_eq_true_eq] at h2
  exact h2.1.1.1.1.2)
 have h2 := setBs_len ls
 have h3 := Nat.mul_le_mul_right 65 h2
 exact Nat.le_trans h1 h3
theorem ptags_any (A : Option Addr) (c : Nat) (ls : List ByteArray) (w : World) (h0 : ls ≠ []) (hlen : ls.length ≤ 1000000) (hr : ReadsStr w w.heap.size A ls) :
  Calls Tryz.prog 159 #[.slice A ls.length c] w fun e w' => e = .returned (.tuple #[.string ⟨(tagS ls).toArray⟩, .int .i64 (tagN ls)]) ∧ Ext w w' := by
 have HC := lh (fun W (hx : Ext w W) => scontainsF_any A c ls W (by omega) (hr.on hx))
 have HR := lh hr
 have h00 := lh h0
 clear hr h0
 cases hb : badB ls with
 | true =>
  rw [hb] at HC
  have HN : Hid (tagN ls = 1) := lh (by rw [tagN, hb]; rfl)
  have HS : Hid (tagS ls = []) := lh (by rw [tagS, HN.out]; rfl)
  clear hb
  go_enter Tryz.func159, Tryz.ntmps159
  go_wp2_with (go_at_call 195; refine (HC.out _ (eR _)).mono ?_; rintro e w' ⟨rfl, hxl⟩; obtain ⟨xl, rfl⟩ := hxl.asLater; clear hxl)
  rw [HN.out, HS.out]
  refine bodyPost_ret (v := .tuple #[.string ⟨([] : List UInt8).toArray⟩, .int .i64 1]) ?_ rfl ⟨rfl, (by (with_reducible repeat first|exact eR _|apply eD|apply eN|apply eA|apply eO|apply eS|apply eC);all_goals first|omega|simp <;> omega)⟩
  simp [results, Tryz.results159, go_sem, ↓IntWalk.iteOmega]
 | false =>
  rw [hb] at HC
  have hT := tagTx_len ls hb
  have HTx : Hid (Lib.join (setBs ls) [44] = tagTx ls) := lh rfl
  have HN : Hid (tagN ls = if 4096 < (tagTx ls).length then 2 else 0) := lh (by rw [tagN, hb]; rfl)
  have HS : Hid (tagS ls = if tagN ls = 0 then tagTx ls else []) := lh rfl
  have hl1 := setBs_len ls
  have hl2 := Nat.le_of_eq (sortBs_len ls)
  clear hb
  go_enter Tryz.func159, Tryz.ntmps159
  go_wp2_with (first
   | (go_at_call 195; refine (HC.out _ (eR _)).mono ?_; rintro e w' ⟨rfl, hxl⟩; obtain ⟨xl, rfl⟩ := hxl.asLater; clear hxl)
   | (go_at_call 201; refine (svalues_any _ _ _ _).mono ?_; rintro e w' ⟨rfl, rfl⟩)
   | (go_at_call 200; refine (show Hid _ from ?_).out))
  refine lh ?_
  have hx1 : Ext w ((later w xl).alloc (.cells #[.slice A ls.length c] 97)) := (ext_later _ _).alloc _
  have hbx : Boxed ((later w xl).alloc (.cells #[.slice A ls.length c] 97)) (w.heap.size + xl.n) 97 (.slice A ls.length c) := by
   have h := Boxed.new (later w xl) 97 (.slice A ls.length c)
   rwa [later_size] at h
  have hs := ssorted_any _ A c ls _ h00.out (by omega) hbx (HR.out.on hx1)
  refine hs.mono ?_
  clear hs hbx
  rintro e w2 ⟨g, c', rfl, hg, hc, hS, hx2⟩
  have HX2 := lh (hx1.trans hx2)
  have hg0 : w.heap.size ≤ g := Nat.le_trans hx1.size hg
  have hcm := scompact_any g c' (sortBs ls) w2 hS (by omega) hc
  clear hx1 hx2 hg
  go_wp2_with (go_at_call 199; refine (show Hid _ from ?_).out)
  refine lh ?_
  refine hcm.mono ?_
  clear hcm hS
  rintro e w3 ⟨rfl, hS3, hl3, hb3⟩
  have HB3 := lh hb3
  have hj := sjoin_any g c' (setBs ls) w3 hS3 (by omega) (by show (Lib.compact (sortBs ls)).length ≤ _; omega) (by rw [HTx.out]; omega)
  rw [HTx.out] at hj
  have HJ := lh hj
  clear hj hb3 hS3
  have HX3 : Hid (Ext w w3) := lh (((ButS.of_ext HX2.out).trans (HB3.out.mono (S' := fun k => w.heap.size ≤ k) (fun k _ e => by subst e; exact hg0))).toExt (fun k hk => by omega))
  clear HB3 HX2
  have hz : ((⟨(tagTx ls).toArray⟩ : ByteArray)).size = (tagTx ls).length := by simp [ByteArray.size]
  by_cases h4 : 4096 < (tagTx ls).length
  ·rw [if_pos h4] at HN
   have HS2 : Hid (tagS ls = []) := lh (by rw [HS.out, HN.out]; rfl)
   go_wp2_with (go_at_call 198; refine (show Hid _ from ?_).out)
   refine lh ?_
   refine HJ.out.mono ?_
   rintro e w' ⟨rfl, hxl⟩; obtain ⟨xl, rfl⟩ := hxl.asLater; clear hxl
   go_wp2
   rw [HN.out, HS2.out]
   refine bodyPost_ret (v := .tuple #[.string ⟨([] : List UInt8).toArray⟩, .int .i64 2]) ?_ rfl ⟨rfl, (by (with_reducible repeat first|exact HX3.out|exact eR _|apply eD|apply eN|apply eA|apply eO|apply eS|apply eC);all_goals first|omega|simp <;> omega)⟩
   simp [results, Tryz.results159, go_sem, ↓IntWalk.iteOmega]
  ·rw [if_neg h4] at HN
   have HS2 : Hid (tagS ls = tagTx ls) := lh (by rw [HS.out, HN.out]; rfl)
   go_wp2_with (go_at_call 198; refine (show Hid _ from ?_).out)
   refine lh ?_
   refine HJ.out.mono ?_
   rintro e w' ⟨rfl, hxl⟩; obtain ⟨xl, rfl⟩ := hxl.asLater; clear hxl
   go_wp2
   rw [HN.out, HS2.out]
   refine bodyPost_ret (v := .tuple #[.string ⟨(tagTx ls).toArray⟩, .int .i64 0]) ?_ rfl ⟨rfl, (by (with_reducible repeat first|exact HX3.out|exact eR _|apply eD|apply eN|apply eA|apply eO|apply eS|apply eC);all_goals first|omega|simp <;> omega)⟩
   simp [results, Tryz.results159, go_sem, ↓IntWalk.iteOmega]
theorem gensplit_any (s : ByteArray) (w : World) (hs : s.size ≤ 900000) :
  Calls Tryz.prog 229 #[.string s, .string ⟨#[44]⟩, .int .i64 0, .int .i64 (-1)] w fun e w' =>
   ∃ ls : List ByteArray, e = .returned (.slice (some ⟨w.heap.size, 0, none⟩) ls.length ls.length) ∧ Tg.Cut 44 (bsT s) (ls.map bsT) ∧ ReadsStr w' w'.heap.size (some ⟨w.heap.size, 0, none⟩) ls ∧ ls ≠ [] ∧ ls.length ≤ s.size + 1 ∧ Ext w w' := by
 have h1 : 1 ≤ (⟨#[44]⟩ : ByteArray).size := by decide
 have hle := Lib.countB_le ⟨#[44]⟩ h1 s.size s (Nat.le_refl _)
 have hlen := Lib.splitB_all ⟨#[44]⟩ h1 0 _ s rfl
 have c := Any.strings_genSplit_core Tryz.genSplit (by kernel_rfl) s ⟨#[44]⟩ 0 (-1) (Lib.countB s ⟨#[44]⟩ + 1) w (by omega) h1 (Nat.zero_le _)
  (fun x c hx => (Any.strings_Index_one { Tryz.genSplit with } x 44 _).mono fun e w' ⟨he, hw⟩ => ⟨by
   rw [he]
   show _ = Ending.returned (Value.int .i64 (Lib.index x.data.toList [44]))
   rw [Lib.index_one], hw⟩)
  ((Any.strings_Count_one { Tryz.genSplit with } s 44 w).mono fun e w' ⟨he, hw⟩ => ⟨by
   rw [he]
   show _ = Ending.returned (Value.int .i64 ((Lib.count s.data.toList [44] : Nat) : Int))
   rw [Lib.count_one]
   rfl, hw⟩) (by decide) (by decide) (by rw [if_pos (by decide)]; omega)
 rw [Nat.add_sub_cancel] at c
 change Calls Tryz.prog 229 _ _ _ at c
 have hcut : Tg.Cut 44 (bsT s) ((Lib.splitB ⟨#[44]⟩ 0 (Lib.countB s ⟨#[44]⟩) s).map bsT) := by
  have e : (Lib.splitB ⟨#[44]⟩ 0 (Lib.countB s ⟨#[44]⟩) s).map bsT = Lib.splitK [44] 0 (Lib.countB s ⟨#[44]⟩) s.data.toList := Lib.splitB_data _ _ _ _
  rw [e]
  refine Tg.splitK_cut 44 _ _ ?_
  show _ ≤ Lib.count s.data.toList [44]
  rw [Lib.count_one]
  exact Nat.le_refl _
 refine c.mono ?_
 rintro e w' ⟨rfl, rfl⟩
 rw [hlen]
 have e2 : Lib.cellsOf (Lib.splitB ⟨#[44]⟩ 0 (Lib.countB s ⟨#[44]⟩) s) (Lib.countB s ⟨#[44]⟩ + 1) = ((Lib.splitB ⟨#[44]⟩ 0 (Lib.countB s ⟨#[44]⟩) s).map Value.string).toArray := by rw [← hlen]; exact Lib.cellsOf_full _
 rw [e2]
 refine ⟨Lib.splitB ⟨#[44]⟩ 0 (Lib.countB s ⟨#[44]⟩) s, by rw [hlen], hcut, ?_, ?_, by rw [hlen]; omega, (Ext.refl w).alloc _⟩
 ·intro _
  refine ⟨w.heap.size, 0, rfl, by simp, fun i hi j v hv => ?_⟩
  have hj : j = 0 := by
   have := (List.getElem?_eq_some_iff.1 hv).1
   simp [encStr] at this
   exact this
  subst hj
  simp only [encStr, List.getElem?_cons_zero, Option.some.injEq] at hv
  subst hv
  rw [World.cell?_alloc_at _ _ _ _ rfl]
  simp [hi]
 ·intro e
  rw [e] at hlen
  simp at hlen
theorem psplit_any (s : ByteArray) (w : World) (hs : s.size ≤ 900000) :
  Calls Tryz.prog 173 #[.string s, .string ⟨#[44]⟩] w fun e w' =>
   ∃ (A : Option Addr) (ls : List ByteArray), e = .returned (.slice A ls.length ls.length) ∧ Tg.Cut 44 (bsT s) (ls.map bsT) ∧ ReadsStr w' w'.heap.size A ls ∧ ls ≠ [] ∧ ls.length ≤ s.size + 1 ∧ Ext w w' := by
 have H := lh (gensplit_any s w hs)
 go_enter Tryz.func173, Tryz.ntmps173
 go_wp2_with (go_at_call 229; refine H.out.mono ?_; rintro e w' ⟨ls, rfl, h1, h2, h3, h4, h5⟩)
 go_ret
 exact ⟨_, ls, rfl, h1, h2, h3, h4, h5⟩
theorem tagN_bad {s : ByteArray} {ls : List ByteArray} (hc : Tg.Cut 44 (bsT s) (ls.map bsT)) (h0 : bsT s ≠ []) (hb : badB ls = true) : Tg.tagsB (bsT s) = false := by
 rw [badB, List.any_eq_true] at hb
 obtain ⟨p, hp, hn⟩ := hb
 exact Tg.tags_no hc h0 (p := bsT p) (List.mem_map_of_mem hp) (by simpa using hn)
theorem tagN_ok {s : ByteArray} {ls : List ByteArray} (hc : Tg.Cut 44 (bsT s) (ls.map bsT)) (h0 : bsT s ≠ []) : Tg.tagsB (bsT s) = (decide (tagN ls = 0) && decide (tagS ls = bsT s)) := by
 cases hb : badB ls with
 | true =>
  rw [tagN_bad hc h0 hb]
  have : tagN ls = 1 := by rw [tagN, hb]; rfl
  rw [this]
  rfl
 | false =>
  have hn : ∀ p ∈ ls.map bsT, Tg.nameB p = true := fun p hp => by
   rw [List.mem_map] at hp
   obtain ⟨q, hq, rfl⟩ := hp
   rw [badB, List.any_eq_false] at hb
   have := hb q hq
   simpa using this
  by_cases h4 : 4096 < (tagTx ls).length
  ·have e : tagN ls = 2 := by rw [tagN, hb, if_neg (by decide), if_pos h4]
   rw [e]
   by_cases hl : 4096 < (bsT s).length
   ·rw [Tg.tags_long hl]; rfl
   ·rw [Tg.tags_of hc h0 hn (setBs_asc ls) (setBs_mem ls) (by omega)]
    have : ¬ Lib.join (setBs ls) [44] = bsT s := fun k => by
     have k2 : (tagTx ls).length = (bsT s).length := congrArg List.length k
     omega
    simp [this]
  ·have e : tagN ls = 0 := by rw [tagN, hb, if_neg (by decide), if_neg h4]
   have e2 : tagS ls = tagTx ls := by rw [tagS, e]; rfl
   rw [e, e2]
   by_cases hl : 4096 < (bsT s).length
   ·rw [Tg.tags_long hl]
    have : ¬ tagTx ls = bsT s := fun k => by rw [k] at h4; exact h4 hl
    simp [this]
   ·rw [Tg.tags_of hc h0 hn (setBs_asc ls) (setBs_mem ls) (by omega)]
    simp only [tagTx, decide_true, Bool.true_and]
    exact decide_eq_decide.2 Iff.rfl
theorem str_eq_bs (a : List UInt8) (s : ByteArray) : (a == s.toList) = decide (a = bsT s) := by
 rw [Lib.toList_data]
 rw [Bool.eq_iff_iff, beq_iff_eq]
 exact ⟨fun h => decide_eq_true h, fun h => of_decide_eq_true h⟩
def ListIs (s : ByteArray) (base : Nat) (e : Ending) (w' : World) : Prop := ∃ (A : Option Addr) (c : Nat) (ls : List ByteArray), e = .returned (.tuple #[.slice A ls.length c, .int .i64 (if Tg.tagsB (bsT s) then 0 else 3)]) ∧ ReadsStr w' w'.heap.size A ls ∧
 (Tg.tagsB (bsT s) = true → s.size = 0 ∧ ls = [] ∨ Tg.Cut 44 (bsT s) (ls.map bsT)) ∧ (Tg.tagsB (bsT s) = false → ls = []) ∧ ls.length ≤ s.size + 1
theorem asplit_any (s : ByteArray) (w : World) (hs : s.size ≤ 900000) :
  Calls Tryz.prog 126 #[.string s] w fun e w' => ListIs s w.heap.size e w' ∧ Ext w w' := by
 by_cases h0 : s.size = 0
 ·have hb : bsT s = [] := List.eq_nil_of_length_eq_zero ((bsT_size s).trans h0)
  have HT : Hid (Tg.tagsB (bsT s) = true) := lh (by rw [hb]; exact Tg.tags_nil)
  have e : s = ByteArray.empty := by
   apply ByteArray.ext
   apply Array.toList_inj.1
   exact hb
  have H0 := lh h0
  subst e
  clear hb h0
  go_enter Tryz.func126, Tryz.ntmps126
  go_wp2
  refine bodyPost_ret (v := .tuple #[.slice none 0 0, .int .i64 0]) ?_ rfl ⟨⟨none, 0, [], by rw [HT.out]; rfl, Reads.nil _ _ _ _ _, fun _ => .inl ⟨H0.out, rfl⟩, fun _ => rfl, by simp⟩, (by (with_reducible repeat first|exact eR _|apply eD|apply eN|apply eA|apply eO|apply eS|apply eC);all_goals first|omega|simp <;> omega)⟩
  simp [results, Tryz.results126, go_sem, ↓IntWalk.iteOmega]
 ·have hb : bsT s ≠ [] := fun e => h0 (by rw [← bsT_size, e]; rfl)
  have hne : (s.toList == []) = false := by rw [Lib.toList_data, beq_eq_false_iff_ne]; exact hb
  have hne2 : s.toList.isEmpty = false := by rw [Lib.toList_data]; cases h : s.data.toList with
   | nil => exact absurd h hb
   | cons _ _ => rfl
  have HS := lh (psplit_any s w hs)
  have HB := lh hb
  clear h0 hb
  go_enter Tryz.func126, Tryz.ntmps126
  go_wp2_with (first
   | (go_at_call 173; refine (show Hid _ from ?_).out)
   | (go_at_call 159; refine (show Hid _ from ?_).out))
  refine lh ?_
  refine HS.out.mono ?_
  rintro e w1 ⟨A, ls, rfl, h1, h2, h3, h4, h5⟩
  have HC := lh h1
  have HR := lh h2
  have HX := lh h5
  have HT := lh (tagN_ok h1 HB.out)
  have HP := lh (fun W (hx : Ext w1 W) => ptags_any A ls.length ls W h3 (by omega) (h2.on hx))
  have HQ := lh (str_eq_bs (tagS ls) s)
  have HL := lh h4
  clear h1 h2 h3 h5 HS h4
  generalize tagN ls = n at *
  generalize tagS ls = tx at *
  go_wp2_with (first
   | (go_at_call 159; refine (show Hid _ from ?_).out))
  refine lh ?_
  refine (HP.out _ (eR _)).mono ?_
  rintro e w' ⟨rfl, hxl⟩; obtain ⟨xl, rfl⟩ := hxl.asLater; clear hxl
  by_cases hn : n = 0
  ·subst hn
   by_cases hq : tx = bsT s
   ·have HQ2 : (tx == s.toList) = true := by rw [HQ.out]; simpa using hq
    have HT2 : Hid (Tg.tagsB (bsT s) = true) := lh (by rw [HT.out]; simpa using hq)
    clear hq HT
    go_wp2
    refine bodyPost_ret (v := .tuple #[.slice A ls.length ls.length, .int .i64 0]) ?_ rfl ⟨⟨_, _, ls, by rw [HT2.out]; rfl, HR.out.on (by (with_reducible repeat first|exact eR _|apply eD|apply eN|apply eA|apply eO|apply eS|apply eC);all_goals first|omega|simp <;> omega), fun _ => .inr HC.out, fun h => (by rw [HT2.out] at h; cases h), HL.out⟩, (by (with_reducible repeat first|exact HX.out|exact eR _|apply eD|apply eN|apply eA|apply eO|apply eS|apply eC);all_goals first|omega|simp <;> omega)⟩
    simp [results, Tryz.results126, go_sem, ↓IntWalk.iteOmega]
   ·have HQ2 : (tx == s.toList) = false := by rw [HQ.out]; simpa using hq
    have HT2 : Hid (Tg.tagsB (bsT s) = false) := lh (by rw [HT.out]; simpa using hq)
    clear hq HT
    go_wp2
    refine bodyPost_ret (v := .tuple #[.slice none 0 0, .int .i64 3]) ?_ rfl ⟨⟨none, 0, [], by rw [HT2.out]; rfl, Reads.nil _ _ _ _ _, fun h => (by rw [HT2.out] at h; cases h), fun _ => rfl, by simp⟩, (by (with_reducible repeat first|exact HX.out|exact eR _|apply eD|apply eN|apply eA|apply eO|apply eS|apply eC);all_goals first|omega|simp <;> omega)⟩
    simp [results, Tryz.results126, go_sem, ↓IntWalk.iteOmega]
  ·have HT2 : Hid (Tg.tagsB (bsT s) = false) := lh (by rw [HT.out]; simp [hn])
   have hn1 : (n == 0) = false := by simpa using hn
   clear HT
   go_wp2
   refine bodyPost_ret (v := .tuple #[.slice none 0 0, .int .i64 3]) ?_ rfl ⟨⟨none, 0, [], by rw [HT2.out]; rfl, Reads.nil _ _ _ _ _, fun h => (by rw [HT2.out] at h; cases h), fun _ => rfl, by simp⟩, (by (with_reducible repeat first|exact HX.out|exact eR _|apply eD|apply eN|apply eA|apply eO|apply eS|apply eC);all_goals first|omega|simp <;> omega)⟩
   simp [results, Tryz.results126, go_sem, ↓IntWalk.iteOmega]
theorem bsT_ext (s : ByteArray) (p q : Nat) : bsT (s.extract p q) = ((bsT s).drop p).take (q - p) := by
 unfold bsT
 rw [Lib.extract_eq]
theorem bsT_snoc (s : ByteArray) (p k : Nat) (hp : p ≤ k) (hk : k < s.size) : bsT (s.extract p (k + 1)) = bsT (s.extract p k) ++ [s[k]] := by
 have hl : k < (bsT s).length := by rw [bsT_size]; exact hk
 rw [bsT_ext, bsT_ext, show k + 1 - p = (k - p) + 1 by omega, List.take_succ_eq_append_getElem (by rw [List.length_drop]; omega)]
 congr 2
 rw [List.getElem_drop]
 simp [show p + (k - p) = k by omega, bsT, ByteArray.getElem_eq_getElem_data]
theorem bsT_drop (s : ByteArray) (k : Nat) (hk : k < s.size) : (bsT s).drop k = s[k] :: (bsT s).drop (k + 1) := by
 have hl : k < (bsT s).length := by rw [bsT_size]; exact hk
 rw [List.drop_eq_getElem_cons hl]
 simp [bsT, ByteArray.getElem_eq_getElem_data]
def SplRel (w : World) (sep : UInt8) (s : ByteArray) (o f i : Value) (wr : World) : Prop := ∃ (A : Option Addr) (c : Nat) (out : List ByteArray) (p k : Nat), o = .slice A out.length c ∧ f = .int .i64 p ∧ i = .int .i64 k ∧ p ≤ k ∧ k ≤ s.size ∧ out.length ≤ k ∧
 Hid (Tg.Under sep (bsT s) (out.map bsT) (bsT (s.extract p k)) ((bsT s).drop k)) ∧ Hid (OwnsStr w.heap.size wr A c out) ∧ Hid (Ext w wr)
theorem rsplit_any (s : ByteArray) (sep : UInt8) (w : World) (hs : s.size ≤ 900000) :
  Calls Tryz.prog 175 #[.string s, .int .u8 sep.toNat] w fun e w' => ∃ A c out, e = .returned (.slice A out.length c) ∧ Tg.Cut sep (bsT s) (out.map bsT) ∧ OwnsStr w.heap.size w' A c out ∧ out.length ≤ s.size + 1 ∧ Ext w w' := by
 have hsb := sep.toNat_lt
 go_enter Tryz.func175, Tryz.ntmps175
 go_wp2
 go_loopw [5, 6, 7] (SplRel w sep s) (fun _ _ i _ => s.size - (intOf i).toNat)
 case atStart => exact ⟨none, 0, [], 0, 0, rfl, rfl, rfl, Nat.le_refl _, Nat.zero_le _, Nat.le_refl _, lh (by rw [bsT_ext]; simpa using Tg.Under.start sep (bsT s)), lh (Owns.nil _ _ _ _ _), lh (eR _)⟩
 case round =>
  obtain ⟨A, c, out, p, k, rfl, rfl, rfl, hpk, hk, hok, HU, HO, HX⟩ := hrel
  have hsz := HX.out.size
  by_cases hlt : k < s.size
  ·have hd := bsT_drop s k hlt
   by_cases hc : s[k] = sep
   ·have hcc : ((s[k].toNat : Int) == (sep.toNat : Int)) = true := by rw [hc]; simp
    have HN : Hid (Tg.Under sep (bsT s) ((out ++ [s.extract p k]).map bsT) (bsT (s.extract (k + 1) (k + 1))) ((bsT s).drop (k + 1))) := lh (by
     have h := HU.out
     rw [hd, hc] at h
     have h2 := h.cut
     rw [List.map_append, List.map_singleton, bsT_ext s (k + 1) (k + 1), Nat.sub_self, List.take_zero]
     exact h2)
    clear hd hc
    go_wp2_with (at_builtin; refine (show Hid _ from ?_).out)
    refine lh ?_
    refine app_from strT sE rfl _ _ rfl w.heap.size _ _ out rfl (HO.out.alloc _) _ 1 _ [s.extract p k] rfl rfl (new_cells _ _ _) (by omega) (by omega) (by first | omega | (simp; omega)) ?_
    intro A2 c2 l2 w2 HL hO9 hB9 hl1 hl2 _
    have HO2' := lh hO9
    have HB2 := lh hB9
    clear hO9
    clear hB9
    go_wp2
    go_roundw
    case rel => exact ⟨A2, c2, l2, k + 1, k + 1, rfl, by go_num, by go_num, Nat.le_refl _, by omega, by (try simp at hl1 hl2); omega, by rw [HL.out]; exact HN, HO2', lh ((HX.out.alloc _).grown HB2.out (Nat.le_refl _))⟩
    case measure => simp [intOf]; omega
   ·have hcc : ((s[k].toNat : Int) == (sep.toNat : Int)) = false := by
     rw [beq_eq_false_iff_ne]
     exact fun h => hc (UInt8.toNat_inj.1 (by omega))
    have HN : Hid (Tg.Under sep (bsT s) (out.map bsT) (bsT (s.extract p (k + 1))) ((bsT s).drop (k + 1))) := lh (by
     have h := HU.out
     rw [hd] at h
     rw [bsT_snoc s p k hpk hlt]
     exact h.step hc)
    clear hd hc
    go_wp2
    go_roundw
    case rel => exact ⟨A, c, out, p, k + 1, rfl, rfl, by go_num, by omega, by omega, by omega, HN, HO, HX⟩
    case measure => simp [intOf]; omega
  ·have e : k = s.size := by omega
   subst e
   have HN : Hid (Tg.Cut sep (bsT s) ((out ++ [s.extract p s.size]).map bsT)) := lh (by
    have h := HU.out
    rw [List.drop_eq_nil_of_le (by rw [bsT_size]; omega)] at h
    rw [List.map_append, List.map_singleton]
    exact h.done)
   go_wp2_with (at_builtin; refine (show Hid _ from ?_).out)
   refine lh ?_
   refine app_from strT sE rfl _ _ rfl w.heap.size _ _ out rfl (HO.out.alloc _) _ 1 _ [s.extract p s.size] rfl rfl (new_cells _ _ _) (by omega) (by omega) (by first | omega | (simp; omega)) ?_
   intro A2 c2 l2 w2 HL hO9 hB9 hl1 hl2 _
   have HO2' := lh hO9
   have HB2 := lh hB9
   clear hO9
   clear hB9
   go_wp2
   go_ret
   exact ⟨A2, c2, l2, rfl, by rw [HL.out]; exact HN.out, HO2'.out, by (try simp at hl1 hl2); omega, (HX.out.alloc _).grown HB2.out (Nat.le_refl _)⟩
theorem le_walk (a b : ByteArray) : (Op.bytesLess a.toList b.toList || a.toList == b.toList) = decide (bsT a ≤ bsT b) := by
 rw [bytesLess_eq, Lib.toList_data, Lib.toList_data, Bool.eq_iff_iff]
 simp only [Bool.or_eq_true, decide_eq_true_eq, beq_iff_eq]
 exact List.le_iff_lt_or_eq.symm
theorem eq_walk (a b : ByteArray) : (a.toList == b.toList) = decide (bsT a = bsT b) := by
 rw [Lib.toList_data, Lib.toList_data, Bool.eq_iff_iff]
 simp [bsT]
def InsRel (w : World) (l : List ByteArray) (s : ByteArray) (o b i : Value) (wr : World) : Prop := ∃ (A : Option Addr) (c : Nat) (out : List ByteArray) (put : Bool) (k : Nat), o = .slice A out.length c ∧ b = .bool put ∧ i = .int .i64 k ∧ k ≤ l.length ∧ out.length ≤ k + k ∧
 Hid ((out.map bsT, put) = ((l.take k).map bsT).foldl (Tg.insStep (bsT s)) ([], false)) ∧ Hid (OwnsStr w.heap.size wr A c out) ∧ Hid (Ext w wr)
theorem ins_take (l : List ByteArray) (s : List UInt8) (k : Nat) (h : k < l.length) : ((l.take (k + 1)).map bsT).foldl (Tg.insStep s) ([], false) = Tg.insStep s (((l.take k).map bsT).foldl (Tg.insStep s) ([], false)) (bsT l[k]) := by
 rw [List.take_succ_eq_append_getElem h, List.map_append, List.foldl_append]
 rfl
theorem rinsert_any (A0 : Option Addr) (c0 : Nat) (l : List ByteArray) (s : ByteArray) (w : World) (hl : l.length ≤ 900000) (hr : ReadsStr w w.heap.size A0 l) (ha : Tg.Asc (l.map bsT)) :
  Calls Tryz.prog 230 #[.slice A0 l.length c0, .string s] w fun e w' => ∃ A c out, e = .returned (.slice A out.length c) ∧ out.map bsT = Tg.ins (bsT s) (l.map bsT) ∧ OwnsStr w.heap.size w' A c out ∧ Ext w w' := by
 have HR := lh hr
 have HAs := lh ha
 clear hr ha
 go_enter Tryz.func230, Tryz.ntmps230
 go_wp2
 go_loopw [5, 6, 7] (InsRel w l s) (fun _ _ i _ => l.length - (intOf i).toNat)
 case atStart => exact ⟨none, 0, [], false, 0, rfl, rfl, rfl, Nat.zero_le _, Nat.le_refl _, lh rfl, lh (Owns.nil _ _ _ _ _), lh (eR _)⟩
 case round =>
  obtain ⟨A, c, out, put, k, rfl, rfl, rfl, hk, hok, HF, HO, HX⟩ := hrel
  have hsz := HX.out.size
  by_cases hlt : k < l.length
  ·obtain ⟨b, off, rfl, hb, c1⟩ := ReadsStr.cell (HR.out.ext HX.out (Nat.le_refl _)) k hlt
   have hst := ins_take l (bsT s) k hlt
   rw [← HF.out] at hst
   generalize l[k] = x at *
   have HLE := lh (le_walk s x)
   have HNE := lh (eq_walk x s)
   by_cases h1 : put = false ∧ bsT s ≤ bsT x
   ·obtain ⟨rfl, h2⟩ := h1
    have e1 : (Op.bytesLess s.toList x.toList || s.toList == x.toList) = true := by rw [HLE.out]; simpa using h2
    by_cases h3 : bsT x = bsT s
    ·have e2 : (x.toList == s.toList) = true := by rw [HNE.out]; simpa using h3
     have HS : Hid (((l.take (k + 1)).map bsT).foldl (Tg.insStep (bsT s)) ([], false) = ((out ++ [s]).map bsT, true)) := lh (by rw [hst]; simp [Tg.insStep, h3])
     clear hst h2 h3
     go_wp2_with (at_builtin; refine (show Hid _ from ?_).out)
     refine lh ?_
     refine app_from strT sE rfl _ _ rfl w.heap.size _ _ out rfl (HO.out.alloc _) _ 1 _ [s] rfl rfl (new_cells _ _ _) (by omega) (by omega) (by first | omega | (simp; omega)) ?_
     intro A2 c2 l2 w2 HL hO9 hB9 hl1 hl2 _
     have HO2 := lh hO9
     have HB2 := lh hB9
     clear hO9
     have hcx := (hB9.cell (p := ⟨b, off + k, none⟩) hb).trans (Lib.cell?_alloc_some _ c1)
     clear hB9
     go_wp2
     go_roundw
     case rel => exact ⟨A2, c2, l2, true, k + 1, rfl, rfl, by go_num, by omega, by (try simp at hl1 hl2); omega, by rw [HL.out]; exact lh HS.out.symm, HO2, lh ((HX.out.alloc _).grown HB2.out (Nat.le_refl _))⟩
     case measure => simp [intOf]; omega
    ·have e2 : (x.toList == s.toList) = false := by rw [HNE.out]; simpa using h3
     have HS : Hid (((l.take (k + 1)).map bsT).foldl (Tg.insStep (bsT s)) ([], false) = ((out ++ [s] ++ [x]).map bsT, true)) := lh (by rw [hst]; simp [Tg.insStep, h2, h3])
     clear hst h2 h3
     go_wp2_with (at_builtin; refine (show Hid _ from ?_).out)
     refine lh ?_
     refine app_from strT sE rfl _ _ rfl w.heap.size _ _ out rfl (HO.out.alloc _) _ 1 _ [s] rfl rfl (new_cells _ _ _) (by omega) (by omega) (by first | omega | (simp; omega)) ?_
     intro A2 c2 l2 w2 HL hO9 hB9 hl1 hl2 _
     have HO2 := lh hO9
     have HB2 := lh hB9
     clear hO9
     have hcx := (hB9.cell (p := ⟨b, off + k, none⟩) hb).trans (Lib.cell?_alloc_some _ c1)
     have hs2 := hB9.size
     try simp at hl1 hl2 hs2
     clear hB9
     go_wp2_with (at_builtin; refine (show Hid _ from ?_).out)
     refine lh ?_
     refine app_from strT sE rfl _ _ rfl w.heap.size _ _ l2 rfl (HO2.out.alloc _) _ 1 _ [x] rfl rfl (new_cells _ _ _) (by omega) (by omega) (by first | omega | (simp; omega)) ?_
     intro A3 c3 l3 w3 HL3 hO9 hB9 hl3 hl4 _
     have HO3 := lh hO9
     have HB3 := lh hB9
     clear hO9
     clear hB9
     go_wp2
     go_roundw
     case rel => exact ⟨A3, c3, l3, true, k + 1, rfl, rfl, by go_num, by omega, by (try simp at hl3 hl4); omega, by rw [HL3.out, HL.out]; exact lh HS.out.symm, HO3, lh ((((HX.out.alloc _).grown HB2.out (Nat.le_refl _)).alloc _).grown HB3.out (Nat.le_refl _))⟩
     case measure => simp [intOf]; omega
   ·by_cases h3 : bsT x = bsT s
    ·have e2 : (x.toList == s.toList) = true := by rw [HNE.out]; simpa using h3
     have HS : Hid (((l.take (k + 1)).map bsT).foldl (Tg.insStep (bsT s)) ([], false) = (out.map bsT, put)) := lh (by rw [hst]; simp only [Tg.insStep, if_neg h1, if_pos h3])
     cases put with
     | true =>
      clear hst h1 h3
      go_wp2
      go_roundw
      case rel => exact ⟨A, c, out, true, k + 1, rfl, rfl, by go_num, by omega, by omega, lh HS.out.symm, HO, HX⟩
      case measure => simp [intOf]; omega
     | false =>
      have e1 : (Op.bytesLess s.toList x.toList || s.toList == x.toList) = false := by rw [HLE.out]; simpa using h1
      clear hst h1 h3
      go_wp2
      go_roundw
      case rel => exact ⟨A, c, out, false, k + 1, rfl, rfl, by go_num, by omega, by omega, lh HS.out.symm, HO, HX⟩
      case measure => simp [intOf]; omega
    ·have e2 : (x.toList == s.toList) = false := by rw [HNE.out]; simpa using h3
     have HS : Hid (((l.take (k + 1)).map bsT).foldl (Tg.insStep (bsT s)) ([], false) = ((out ++ [x]).map bsT, put)) := lh (by rw [hst]; simp only [Tg.insStep, if_neg h1, if_neg h3, List.map_append, List.map_singleton])
     cases put with
     | true =>
      clear hst h1 h3
      go_wp2_with (at_builtin; refine (show Hid _ from ?_).out)
      refine lh ?_
      refine app_from strT sE rfl _ _ rfl w.heap.size _ _ out rfl (HO.out.alloc _) _ 1 _ [x] rfl rfl (new_cells _ _ _) (by omega) (by omega) (by first | omega | (simp; omega)) ?_
      intro A2 c2 l2 w2 HL hO9 hB9 hl1 hl2 _
      have HO2 := lh hO9
      have HB2 := lh hB9
      clear hO9
      clear hB9
      go_wp2
      go_roundw
      case rel => exact ⟨A2, c2, l2, true, k + 1, rfl, rfl, by go_num, by omega, by (try simp at hl1 hl2); omega, by rw [HL.out]; exact lh HS.out.symm, HO2, lh ((HX.out.alloc _).grown HB2.out (Nat.le_refl _))⟩
      case measure => simp [intOf]; omega
     | false =>
      have e1 : (Op.bytesLess s.toList x.toList || s.toList == x.toList) = false := by rw [HLE.out]; simpa using h1
      clear hst h1 h3
      go_wp2_with (at_builtin; refine (show Hid _ from ?_).out)
      refine lh ?_
      refine app_from strT sE rfl _ _ rfl w.heap.size _ _ out rfl (HO.out.alloc _) _ 1 _ [x] rfl rfl (new_cells _ _ _) (by omega) (by omega) (by first | omega | (simp; omega)) ?_
      intro A2 c2 l2 w2 HL hO9 hB9 hl1 hl2 _
      have HO2 := lh hO9
      have HB2 := lh hB9
      clear hO9
      clear hB9
      go_wp2
      go_roundw
      case rel => exact ⟨A2, c2, l2, false, k + 1, rfl, rfl, by go_num, by omega, by (try simp at hl1 hl2); omega, by rw [HL.out]; exact lh HS.out.symm, HO2, lh ((HX.out.alloc _).grown HB2.out (Nat.le_refl _))⟩
      case measure => simp [intOf]; omega
  ·have e : k = l.length := by omega
   subst e
   rw [List.take_length] at HF
   have hi := Tg.ins_false (bsT s) (l.map bsT) [] HAs.out
   rw [← HF.out, List.nil_append] at hi
   cases put with
   | true =>
    have HI : Hid (out.map bsT = Tg.ins (bsT s) (l.map bsT)) := lh (by simpa using hi)
    clear hi
    go_wp2
    go_ret
    exact ⟨A, c, out, rfl, HI.out, HO.out, HX.out⟩
   | false =>
    have HI : Hid ((out ++ [s]).map bsT = Tg.ins (bsT s) (l.map bsT)) := lh (by simpa using hi)
    clear hi
    go_wp2_with (at_builtin; refine (show Hid _ from ?_).out)
    refine lh ?_
    refine app_from strT sE rfl _ _ rfl w.heap.size _ _ out rfl (HO.out.alloc _) _ 1 _ [s] rfl rfl (new_cells _ _ _) (by omega) (by omega) (by first | omega | (simp; omega)) ?_
    intro A2 c2 l2 w2 HL hO9 hB9 hl1 hl2 _
    have HO2 := lh hO9
    have HB2 := lh hB9
    clear hO9
    clear hB9
    go_wp2
    go_ret
    exact ⟨A2, c2, l2, rfl, by rw [HL.out]; exact HI.out, HO2.out, (HX.out.alloc _).grown HB2.out (Nat.le_refl _)⟩
def joinS (l : List ByteArray) : List UInt8 := Lib.join (l.map bsT) [44]
theorem join_take (l : List ByteArray) (k : Nat) (h : k < l.length) (h0 : 0 < k) : joinS (l.take (k + 1)) = joinS (l.take k) ++ [44] ++ bsT l[k] := by
 unfold joinS
 rw [List.take_succ_eq_append_getElem h, List.map_append, List.map_singleton, Tg.join_snoc]
 ·simp
 ·simp; exact ⟨by omega, fun e => by rw [e] at h; simp at h⟩
theorem bsT_app (a b : ByteArray) : bsT (a ++ b) = bsT a ++ bsT b := by simp [bsT, ByteArray.data_append]
theorem rjoined_any (A0 : Option Addr) (c0 : Nat) (l : List ByteArray) (w : World) (hl : l.length ≤ 900000) (hr : ReadsStr w w.heap.size A0 l) (hb : ∀ x ∈ l, x.size ≤ 64) :
  Calls Tryz.prog 231 #[.slice A0 l.length c0] w fun e w' => ∃ s, e = .returned (.string s) ∧ bsT s = joinS l ∧ Ext w w' := by
 have HR := lh hr
 have HB := lh hb
 clear hr hb
 go_enter Tryz.func231, Tryz.ntmps231
 go_wp2
 go_loopw [3, 4] (fun o i wr => ∃ (s : ByteArray) (k : Nat), o = .string s ∧ i = .int .i64 k ∧ k ≤ l.length ∧ s.size ≤ 65 * k ∧ Hid (bsT s = joinS (l.take k)) ∧ Hid (Ext w wr)) (fun _ i _ => l.length - (intOf i).toNat)
 case atStart => exact ⟨_, 0, rfl, rfl, Nat.zero_le _, Nat.le_refl _, lh rfl, lh (eR _)⟩
 case round =>
  obtain ⟨s, k, rfl, rfl, hk, hsz, HJ, HX⟩ := hrel
  by_cases hlt : k < l.length
  ·have hx64 := HB.out _ (List.getElem_mem hlt)
   obtain ⟨b, off, rfl, hb, c1⟩ := ReadsStr.cell (HR.out.ext HX.out (Nat.le_refl _)) k hlt
   by_cases h0 : 0 < k
   ·have HN : Hid (bsT (s ++ ⟨#[44]⟩ ++ l[k]) = joinS (l.take (k + 1))) := lh (by rw [bsT_app, bsT_app, HJ.out, join_take l k hlt h0]; rfl)
    have d0 : decide ((0 : Int) < (k : Int)) = true := by simp; omega
    generalize l[k] = x at *
    go_wp2
    go_roundw
    case rel => exact ⟨_, k + 1, rfl, by go_num, by omega, by simp only [ByteArray.size_append] <;> first | omega | (simp only [ByteArray.size]; simp; omega), HN, HX⟩
    case measure => simp [intOf]; omega
   ·have HN : Hid (bsT (s ++ l[k]) = joinS (l.take (k + 1))) := lh (by
     have e : k = 0 := by omega
     subst e
     rw [bsT_app, HJ.out, List.take_succ_eq_append_getElem hlt]
     simp [joinS, Lib.join_one]
     rfl)
    have d0 : decide ((0 : Int) < (k : Int)) = false := by simp; omega
    generalize l[k] = x at *
    go_wp2
    go_roundw
    case rel => exact ⟨_, k + 1, rfl, by go_num, by omega, by simp only [ByteArray.size_append] <;> first | omega | (simp only [ByteArray.size]; simp; omega), HN, HX⟩
    case measure => simp [intOf]; omega
  ·have HN : Hid (bsT s = joinS l) := lh (by rw [HJ.out, List.take_of_length_le (by omega)])
   go_wp2
   go_ret
   exact ⟨s, rfl, HN.out, HX.out⟩
theorem insAll_set (ls : List ByteArray) : Tg.insAll (ls.map bsT) = setBs ls :=
 Tg.asc_uniq (Tg.insAll_spec _).1 (setBs_asc ls) (fun x => ((Tg.insAll_spec _).2 x).trans (setBs_mem ls x).symm)
theorem insAll_take (ls : List ByteArray) (k : Nat) (h : k < ls.length) : Tg.insAll ((ls.take (k + 1)).map bsT) = Tg.ins (bsT ls[k]) (Tg.insAll ((ls.take k).map bsT)) := by
 rw [List.take_succ_eq_append_getElem h, List.map_append, List.map_singleton, Tg.insAll_snoc]
theorem insAll_len (ls : List ByteArray) (k : Nat) : (Tg.insAll ((ls.take k).map bsT)).length ≤ ls.length := by
 rw [insAll_set]
 have := setBs_len (ls.take k)
 rw [List.length_take] at this
 omega
theorem name_size {s : ByteArray} (h : Tg.nameB (bsT s) = true) : s.size ≤ 64 := by
 simp only [Tg.nameB, Tg.wordB, Bool.and_eq_true, decide_eq_true_eq] at h
 have := h.1.1.1.1.2
 rwa [bsT_size] at this
theorem RowAt.set2 {w : World} {b : Nat} {a0 a1 : Value} (h : RowAt w b #[a0, a1]) (x y : Value) : rowOf ((w.setCell ⟨b, 0, none⟩ x).setCell ⟨b, 1, none⟩ y) b 0 2 = some #[x, y] := ((h.set 0 x).set 1 y).all rfl (by omega)
theorem RowAt.set2A {w : World} {b : Nat} {a0 a1 : Value} (h : RowAt w b #[a0, a1]) (x y : Value) : RowAt ((w.setCell ⟨b, 0, none⟩ x).setCell ⟨b, 1, none⟩ y) b #[x, y] := (h.set 0 x).set 1 y
theorem wri_ty : RowTy Tryz.prog 171 2 := ⟨by kernel_rfl, by kernel_rfl⟩
theorem lst_ty : RowTy Tryz.prog 186 2 := ⟨by kernel_rfl, by kernel_rfl⟩
def RTgRel (w : World) (ls : List ByteArray) (o i : Value) (wr : World) : Prop := ∃ (A : Option Addr) (c : Nat) (out : List ByteArray) (k : Nat), o = .slice A out.length c ∧ i = .int .i64 k ∧ k ≤ ls.length ∧
 Hid (out.map bsT = Tg.insAll ((ls.take k).map bsT)) ∧ Hid ((ls.take k).any (fun s => !Tg.nameB (bsT s)) = false) ∧ Hid (ReadsStr wr wr.heap.size A out) ∧ Hid (Ext w wr) ∧ Hid (RowAt wr w.heap.size #[.string ⟨#[]⟩, .int .i64 0])
theorem rtags_any (A0 : Option Addr) (c0 : Nat) (ls : List ByteArray) (w : World) (hl : ls.length ≤ 900000) (hz : ∀ x ∈ ls, x.size ≤ 900000) (hr : ReadsStr w w.heap.size A0 ls) :
  Calls Tryz.prog 176 #[.slice A0 ls.length c0] w fun e w' => ∃ s, e = .returned (.agg #[.string s, .int .i64 (tagN ls)]) ∧ bsT s = tagS ls ∧ Ext w w' := by
 have HR := lh hr
 have HZ := lh hz
 clear hr hz
 go_enter Tryz.func176, Tryz.ntmps176
 go_wp2
 refine wp_world (fun W => Ext w W ∧ RowAt W w.heap.size #[.string ⟨#[]⟩, .int .i64 0]) ⟨(by (with_reducible repeat first|exact eR _|apply eD|apply eN|apply eA|apply eO|apply eS|apply eC);all_goals first|omega|simp <;> omega), RowAt.new _ _ _⟩ ?_
 rintro W1 ⟨x1, r1⟩
 have HX1 := lh x1
 have HR1 := lh r1
 clear x1 r1
 go_loopw [3, 4] (RTgRel w ls) (fun _ i _ => ls.length - (intOf i).toNat)
 case atStart => exact ⟨none, 0, [], 0, rfl, rfl, Nat.zero_le _, lh rfl, lh rfl, lh (Reads.nil _ _ _ _ _), HX1, HR1⟩
 case round =>
  obtain ⟨A, c, out, k, rfl, rfl, hk, HO, HB, HRd, HX, HRow⟩ := hrel
  clear HX1 HR1
  have hlt0 := HRow.out.lt
  have hsz := HX.out.size
  have q0 := HRow.out.cell 0
  have q1 := HRow.out.cell 1
  have qf := HRow.out.free
  have hol : out.length ≤ ls.length := by
   have h1 := congrArg List.length HO.out
   rw [List.length_map] at h1
   have h2 := insAll_len ls k
   omega
  by_cases hlt : k < ls.length
  ·obtain ⟨b, off, rfl, hb, c1⟩ := ReadsStr.cell (HR.out.ext HX.out (Nat.le_refl _)) k hlt
   have hxs := HZ.out _ (List.getElem_mem hlt)
   have HNm := lh (fun W => rname_any ls[k] W (by omega))
   have HST := lh (badB_step ls k hlt HB.out)
   have HIns := lh (insAll_take ls k hlt)
   have HBad : Hid (Tg.nameB (bsT ls[k]) = false → badB ls = true) := lh (fun h => by
    rw [badB, List.any_eq_true]; exact ⟨ls[k], List.getElem_mem hlt, by simp [h]⟩)
   have HI := lh (fun (W : World) (hx : Ext wr W) => rinsert_any A c out ls[k] W (by omega) (HRd.out.on hx) (by rw [HO.out]; exact (Tg.insAll_spec _).1))
   generalize ls[k] = s at *
   cases hn : Tg.nameB (bsT s) with
   | true =>
    have HN : Hid (Tg.nameB s.data.toList = true) := lh hn
    have HB2 := lh (HST.out hn)
    clear HST HBad hn
    go_wp2_with (first
     | (go_at_call 110; refine (HNm.out _).mono ?_; rw [HN.out]; rintro e w' ⟨rfl, hxl⟩; obtain ⟨xl, rfl⟩ := hxl.asLater; clear hxl)
     | (go_at_call 230; refine (HI.out _ (ext_later _ _)).mono ?_; rintro e w3 ⟨A3, c3, l3, rfl, hi, ho, hx⟩; have HI3 := lh hi; have HO3 := lh (ho.reads sE); have HX3 := lh hx; clear hi ho hx))
    go_roundw
    case rel => exact ⟨A3, c3, l3, k + 1, rfl, by go_num, by omega, lh (by rw [HI3.out, HO.out, HIns.out]), HB2, HO3, lh ((HX.out.onto _).trans HX3.out), lh ((HRow.out.later _).ext HX3.out)⟩
    case measure => simp [intOf]; omega
   | false =>
    have HN : Hid (Tg.nameB s.data.toList = false) := lh hn
    have HBd := lh (HBad.out hn)
    have HE1 : Hid (tagN ls = 1) := lh (by rw [tagN, HBd.out]; rfl)
    clear HST hn
    go_wp2_with (go_at_call 110; refine (HNm.out _).mono ?_; rw [HN.out]; rintro e w' ⟨rfl, hxl⟩; obtain ⟨xl, rfl⟩ := hxl.asLater; clear hxl)
    refine post_row wri_ty Tryz.results176 rfl rfl (RowAt.set2 (HRow.out.later _) _ _) ⟨⟨#[]⟩, by rw [HE1.out], by rw [tagS, HE1.out]; rfl, (by (with_reducible repeat first|exact HX.out|exact eR _|apply eD|apply eN|apply eA|apply eO|apply eS|apply eC);all_goals first|omega|simp <;> omega)⟩
  ·have e : k = ls.length := by omega
   have HO2 : Hid (out.map bsT = setBs ls) := lh (by rw [HO.out, e, List.take_length, insAll_set])
   have HB2 : Hid (badB ls = false) := lh (by have h := HB.out; rwa [List.take_of_length_le (by omega)] at h)
   have HJ := lh (rjoined_any A c out wr (by omega) HRd.out (fun x hx => by
    refine name_size ?_
    have h1 : bsT x ∈ setBs ls := by rw [← HO2.out]; exact List.mem_map_of_mem hx
    rw [setBs_mem, List.mem_map] at h1
    obtain ⟨y, hy, h2⟩ := h1
    rw [← h2]
    have h3 := HB2.out
    rw [badB, List.any_eq_false] at h3
    simpa using h3 y hy))
   have HN2 : Hid (tagN ls = if 4096 < (joinS out).length then 2 else 0) := lh (by rw [tagN, HB2.out, joinS, HO2.out]; rfl)
   have HS2 : Hid (tagS ls = if tagN ls = 0 then joinS out else []) := lh (by rw [tagS, joinS, HO2.out]; rfl)
   clear HO HB HO2 HB2 hol hlt
   go_wp2_with (go_at_call 231; refine (show Hid _ from ?_).out)
   refine lh ?_
   refine HJ.out.mono ?_
   rintro e w3 ⟨s, rfl, hs, hx⟩
   have hsl : s.size = (joinS out).length := by rw [← hs, bsT_size]
   have HSs := lh hs
   have HX3 := lh (HX.out.trans hx)
   have HRow3 := lh (HRow.out.ext hx)
   have hlt3 := HRow3.out.lt
   clear q0 q1 qf hs hx HRow
   have q0 := HRow3.out.cell 0
   have q1 := HRow3.out.cell 1
   have qf := HRow3.out.free
   rw [← hsl] at HN2
   by_cases h4 : 4096 < s.size
   ·have HN3 : Hid (tagN ls = 2) := lh (by rw [HN2.out, if_pos h4])
    have d4 : decide ((4096 : Int) < (s.size : Int)) = true := by simp; omega
    clear HN2 hsl
    go_wp2
    refine post_row wri_ty Tryz.results176 rfl rfl (RowAt.set2 (HRow3.out) _ _) ⟨⟨#[]⟩, by rw [HN3.out], by rw [tagS, HN3.out]; rfl, (by (with_reducible repeat first|exact HX3.out|exact eR _|apply eD|apply eN|apply eA|apply eO|apply eS|apply eC);all_goals first|omega|simp <;> omega)⟩
   ·have HN3 : Hid (tagN ls = 0) := lh (by rw [HN2.out, if_neg h4])
    have d4 : decide ((4096 : Int) < (s.size : Int)) = false := by simp; omega
    clear HN2 hsl
    go_wp2
    refine post_row wri_ty Tryz.results176 rfl rfl (RowAt.set2 (HRow3.out) _ _) ⟨s, by rw [HN3.out], by rw [HS2.out, HN3.out, HSs.out]; rfl, (by (with_reducible repeat first|exact HX3.out|exact eR _|apply eD|apply eN|apply eA|apply eO|apply eS|apply eC);all_goals first|omega|simp <;> omega)⟩
theorem Tg.piece_len {sep : UInt8} {s : List UInt8} {l : List (List UInt8)} (h : Tg.Cut sep s l) {p : List UInt8} (hp : p ∈ l) : p.length ≤ s.length := by
 rw [← h.join]
 clear h
 induction l with
 | nil => cases hp
 | cons x t ih =>
  cases t with
  | nil => rw [List.mem_singleton] at hp; subst hp; rw [Lib.join_one]; exact Nat.le_refl _
  | cons y r =>
   rw [Tg.join_two, List.length_append, List.length_cons]
   rcases List.mem_cons.1 hp with rfl | hp
   ·omega
   ·have := ih hp; omega
def RListIs (s : ByteArray) (e : Ending) (w' : World) : Prop := ∃ (A : Option Addr) (c : Nat) (ls : List ByteArray), e = .returned (.agg #[.slice A ls.length c, .int .i64 (if Tg.tagsB (bsT s) then 0 else 3)]) ∧ ReadsStr w' w'.heap.size A ls ∧
 (Tg.tagsB (bsT s) = true → s.size = 0 ∧ ls = [] ∨ Tg.Cut 44 (bsT s) (ls.map bsT)) ∧ (Tg.tagsB (bsT s) = false → ls = []) ∧ ls.length ≤ s.size + 1
theorem rSplit_any (s : ByteArray) (w : World) (hs : s.size ≤ 9223372036854775807) :
  Calls Tryz.prog 129 #[.string s] w fun e w' => RListIs s e w' ∧ Ext w w' := by
 by_cases hl : 4096 < s.size
 ·have HT : Hid (Tg.tagsB (bsT s) = false) := lh (Tg.tags_long (by rw [bsT_size]; exact hl))
  have d4 : decide ((4096 : Int) < (s.size : Int)) = true := by simp; omega
  go_enter Tryz.func129, Tryz.ntmps129
  go_wp2
  refine post_row lst_ty Tryz.results129 rfl rfl ((RowAt.new _ _ _).all rfl (by omega)) ⟨⟨none, 0, [], by rw [HT.out]; rfl, Reads.nil _ _ _ _ _, fun h => (by rw [HT.out] at h; cases h), fun _ => rfl, by simp⟩, (by (with_reducible repeat first|exact eR _|apply eD|apply eN|apply eA|apply eO|apply eS|apply eC);all_goals first|omega|simp <;> omega)⟩
 have d4 : decide ((4096 : Int) < (s.size : Int)) = false := by simp; omega
 by_cases h0 : s.size = 0
 ·have hb : bsT s = [] := List.eq_nil_of_length_eq_zero ((bsT_size s).trans h0)
  have HT : Hid (Tg.tagsB (bsT s) = true) := lh (by rw [hb]; exact Tg.tags_nil)
  have e : s = ByteArray.empty := by
   apply ByteArray.ext
   apply Array.toList_inj.1
   exact hb
  have H0 := lh h0
  subst e
  clear hb h0 hl
  go_enter Tryz.func129, Tryz.ntmps129
  go_wp2
  refine post_row lst_ty Tryz.results129 rfl rfl ((RowAt.new _ _ _).all rfl (by omega)) ⟨⟨none, 0, [], by rw [HT.out]; rfl, Reads.nil _ _ _ _ _, fun _ => .inl ⟨H0.out, rfl⟩, fun _ => rfl, by simp⟩, (by (with_reducible repeat first|exact eR _|apply eD|apply eN|apply eA|apply eO|apply eS|apply eC);all_goals first|omega|simp <;> omega)⟩
 ·have hb : bsT s ≠ [] := fun e => h0 (by rw [← bsT_size, e]; rfl)
  have hne : (s.toList == []) = false := by rw [Lib.toList_data, beq_eq_false_iff_ne]; exact hb
  have hne2 : s.toList.isEmpty = false := by rw [Lib.toList_data]; cases h : s.data.toList with
   | nil => exact absurd h hb
   | cons _ _ => rfl
  have HS := lh (fun W => rsplit_any s 44 W (by omega))
  have HB := lh hb
  have hs4 : s.size ≤ 4096 := by omega
  clear h0 hb hl
  go_enter Tryz.func129, Tryz.ntmps129
  go_wp2_with (first
   | (go_at_call 175; refine (show Hid _ from ?_).out)
   | (go_at_call 176; refine (show Hid _ from ?_).out))
  refine lh ?_
  refine calls_world (fun W => Ext w W ∧ RowAt W w.heap.size #[.slice none 0 0, .int .i64 0]) ⟨(by (with_reducible repeat first|exact eR _|apply eD|apply eN|apply eA|apply eO|apply eS|apply eC);all_goals first|omega|simp <;> omega), RowAt.new _ _ _⟩ ?_
  rintro W1 ⟨x1, r1⟩
  have HX1 := lh x1
  have HR1 := lh r1
  have hl1 := r1.lt
  clear x1 r1
  refine (HS.out W1).mono ?_
  rintro e w2 ⟨A, c, ls, rfl, h1, h2, h3, h4⟩
  have hr := h2.reads sE
  have h0 : ls ≠ [] := fun e => by
   have := h1.some
   rw [e] at this
   exact this rfl
  have hz : ∀ x ∈ ls, x.size ≤ 900000 := fun x hx => by
   have h5 : bsT x ∈ ls.map bsT := List.mem_map_of_mem hx
   have h6 := Tg.piece_len h1 h5
   rw [bsT_size, bsT_size] at h6
   omega
  have HC := lh h1
  have HR := lh h2
  have HX := lh (HX1.out.trans h4)
  have HRw := lh (HR1.out.ext h4)
  have HT := lh (tagN_ok h1 HB.out)
  have HP := lh (fun W (hx : Ext w2 W) => rtags_any A c ls W (by omega) hz (hr.on hx))
  have HL := lh h3
  have hl2 := HRw.out.lt
  clear h1 h2 h3 h4 hz h0 hr HS HX1 HR1
  go_wp2_with (go_at_call 176; refine (show Hid _ from ?_).out)
  refine lh ?_
  refine (HP.out _ (eR _)).mono ?_
  rintro e w3 ⟨t, rfl, ht, hx3⟩
  have HQ := lh (eq_walk t s)
  rw [ht] at HQ
  have HX3 := lh (HX.out.trans hx3)
  have HRw3 := lh (HRw.out.ext hx3)
  have HR3 := lh (HR.out.ext hx3)
  have hl3 := HRw3.out.lt
  have q0 := HRw3.out.cell 0
  have q1 := HRw3.out.cell 1
  have qf := HRw3.out.free
  clear ht hx3 HP HX HRw HR
  generalize tagN ls = n at *
  generalize tagS ls = tx at *
  by_cases hn : n = 0
  ·subst hn
   by_cases hq : tx = bsT s
   ·have HQ2 : (t.toList == s.toList) = true := by rw [HQ.out]; simpa using hq
    have HT2 : Hid (Tg.tagsB (bsT s) = true) := lh (by rw [HT.out]; simpa using hq)
    clear hq HT
    go_wp2
    refine post_row lst_ty Tryz.results129 rfl rfl (((RowAt.set2A HRw3.out _ _).alloc _).all rfl (by omega)) ⟨⟨_, _, ls, by rw [HT2.out]; rfl, (((HR3.out.other (p := ⟨w.heap.size, 0, none⟩) hl1 _).other (p := ⟨w.heap.size, 1, none⟩) hl1 _).alloc _).reads sE, fun _ => .inr HC.out, fun h => (by rw [HT2.out] at h; cases h), HL.out⟩, (by (with_reducible repeat first|exact HX3.out|exact eR _|apply eD|apply eN|apply eA|apply eO|apply eS|apply eC);all_goals first|omega|simp <;> omega)⟩
   ·have HQ2 : (t.toList == s.toList) = false := by rw [HQ.out]; simpa using hq
    have HT2 : Hid (Tg.tagsB (bsT s) = false) := lh (by rw [HT.out]; simpa using hq)
    clear hq HT
    go_wp2
    refine post_row lst_ty Tryz.results129 rfl rfl (((RowAt.set2A HRw3.out _ _).alloc _).all rfl (by omega)) ⟨⟨none, 0, [], by rw [HT2.out]; rfl, Reads.nil _ _ _ _ _, fun h => (by rw [HT2.out] at h; cases h), fun _ => rfl, by simp⟩, (by (with_reducible repeat first|exact HX3.out|exact eR _|apply eD|apply eN|apply eA|apply eO|apply eS|apply eC);all_goals first|omega|simp <;> omega)⟩
  ·have HT2 : Hid (Tg.tagsB (bsT s) = false) := lh (by rw [HT.out]; simp [hn])
   have hn1 : (n == 0) = false := by simpa using hn
   clear HT
   go_wp2
   refine post_row lst_ty Tryz.results129 rfl rfl (((RowAt.set2A HRw3.out _ _).alloc _).all rfl (by omega)) ⟨⟨none, 0, [], by rw [HT2.out]; rfl, Reads.nil _ _ _ _ _, fun h => (by rw [HT2.out] at h; cases h), fun _ => rfl, by simp⟩, (by (with_reducible repeat first|exact HX3.out|exact eR _|apply eD|apply eN|apply eA|apply eO|apply eS|apply eC);all_goals first|omega|simp <;> omega)⟩
theorem dgC_size (l : List Int) : (dgC l).size = 16 := rfl
theorem dgC_all (l : List Int) : rowSub (dgC l) 0 16 = some (dgC l) := rowSub_all _ _ rfl
attribute [go_sem] dgC_size dgC_all
def softsL (L : List Soft) (i : Nat) : Soft := L.getD i Soft.any
theorem row_extW {w w' : World} (hx : Ext w w') {b : Nat} (hb : b < w.heap.size) (o n : Nat) : rowOf w' b o n = rowOf w b o n := rowOf_congr (fun i _ => hx.cell (p := ⟨b, o + i, none⟩) hb)
end Go.Proofs.YtpojnhikgjcgmaaGreatDoor