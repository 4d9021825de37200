/- epoch.Table: Add and Fold. -/
import Derived.WalkKit
import Derived.WalkSpells
import Derived.WalkLawsBesides
import Derived.Deep.QuietTactic
import Derived.BigQuiet
import Derived.Shelf.SlGeneric
import Derived.Shelf.SlIter.Nil
import Derived.Shelf.SortM.Plain
import Derived.Shelf.SortM.SortNone
import Derived.Ground.GgzProg
import Derived.Ground.SlgmProg
import Derived.RangeFuncNested
import Derived.RangeFuncBound
import Derived.RangeFuncCalls
import Derived.RangeFuncLeaves
import Derived.Shelf.Abstract
import Derived.Shelf.RegionOpen
import Derived.OwnWalkIn
import Derived.TacticsInMore
import Derived.LoopNIn
import Derived.LoopIn
import Derived.Maps.OwnIn
import Derived.StringKeys
import Derived.Test.YtpojnhikgjcgmaaGreatDoorECi
import Derived.Test.YtpojnhikgjcgmaaGreatDoorEJg
import Derived.Test.YtpojnhikgjcgmaaGreatDoorENu
import Derived.Test.YtpojnhikgjcgmaaGreatDoorENl
import Derived.Test.YtpojnhikgjcgmaaGreatDoorESoI
set_option maxRecDepth 100000
set_option maxHeartbeats 64000000
set_option linter.unusedVariables false
set_option linter.unusedSimpArgs false
namespace Go.Proofs
open Go.Shelf
def Tryz.keysM_ren : Go.Shelf.Ren := ⟨fun | 7 => 260 | 10 => 290 | n => n, fun | 23 => 313 | 26 => 9 | 3 => 9 | 28 => 256 | 0 => 0 | 27 => 255 | 33 => 37 | 4 => 4 | n => n, fun | n => n⟩
theorem Tryz.keysM : Go.Proofs.SlLaysZ.n7 Tryz.prog Tryz.keysM_ren := {
 mixed := by kernel_rfl
 f7 := ⟨Tryz.f260.name, by decide, Tryz.func260.trans (congrArg some (by kernel_rfl))⟩
 f10 := ⟨Tryz.f290.name, by decide, Tryz.func290.trans (congrArg some (by kernel_rfl))⟩
 t0 := Tryz.underlying0
 a0 := Tryz.isAgg0
 z0 := Tryz.sizeOf0
 v0 := Tryz.zeroValue0
 t4 := Tryz.underlying4
 a4 := Tryz.isAgg4
 z4 := Tryz.sizeOf4
 v4 := Tryz.zeroValue4
 t23 := Tryz.underlying313
 a23 := Tryz.isAgg313
 z23 := Tryz.sizeOf313
 v23 := Tryz.zeroValue313
 t26 := Tryz.underlying9
 a26 := Tryz.isAgg9
 z26 := Tryz.sizeOf9
 v26 := Tryz.zeroValue9
 t27 := Tryz.underlying255
 a27 := Tryz.isAgg255
 z27 := Tryz.sizeOf255
 v27 := Tryz.zeroValue255
 t28 := Tryz.underlying256
 a28 := Tryz.isAgg256
 z28 := Tryz.sizeOf256
 v28 := Tryz.zeroValue256
 t33 := Tryz.underlying37
 a33 := Tryz.isAgg37
 z33 := Tryz.sizeOf37
 v33 := Tryz.zeroValue37 }
def Tryz.sortedM_ren : Go.Shelf.Ren := ⟨fun | 6 => 200 | 8 => 253 | 9 => 254 | 11 => 285 | 13 => 287 | 12 => 286 | 23 => 311 | 24 => 312 | 14 => 302 | 15 => 303 | 16 => 304 | 17 => 305 | 18 => 306 | 19 => 307 | 20 => 308 | 21 => 309 | 22 => 310 | 25 => 331 | 26 => 332 | 27 => 333 | 28 => 334 | 29 => 335 | 30 => 336 | 31 => 344 | n => n, fun | 26 => 9 | 28 => 256 | 24 => 97 | 0 => 0 | 3 => 3 | 37 => 249 | 48 => 154 | 50 => 157 | 4 => 4 | 40 => 350 | 39 => 349 | 45 => 116 | 5 => 5 | 9 => 9 | 51 => 373 | 55 => 377 | 57 => 383 | 58 => 384 | 33 => 37 | n => n, fun | n => n⟩
theorem Tryz.sortedM : Go.Proofs.SlLaysZ.n6 Tryz.prog Tryz.sortedM_ren := {
 mixed := by kernel_rfl
 f6 := ⟨Tryz.f200.name, by decide, Tryz.func200.trans (congrArg some (by kernel_rfl))⟩
 f8 := ⟨Tryz.f253.name, by decide, Tryz.func253.trans (congrArg some (by kernel_rfl))⟩
 f11 := ⟨Tryz.f285.name, by decide, Tryz.func285.trans (congrArg some (by kernel_rfl))⟩
 t0 := Tryz.underlying0
 a0 := Tryz.isAgg0
 z0 := Tryz.sizeOf0
 v0 := Tryz.zeroValue0
 t24 := Tryz.underlying97
 a24 := Tryz.isAgg97
 z24 := Tryz.sizeOf97
 v24 := Tryz.zeroValue97
 t26 := Tryz.underlying9
 a26 := Tryz.isAgg9
 z26 := Tryz.sizeOf9
 v26 := Tryz.zeroValue9
 t28 := Tryz.underlying256
 a28 := Tryz.isAgg256
 z28 := Tryz.sizeOf256
 v28 := Tryz.zeroValue256
 i26 := by kernel_rfl }
def Tryz.sortM_ren : Go.Shelf.Ren := ⟨fun | 6 => 254 | 8 => 287 | 9 => 286 | 19 => 311 | 20 => 312 | 21 => 302 | 22 => 303 | 23 => 304 | 24 => 305 | 25 => 306 | 26 => 307 | 27 => 308 | 28 => 309 | 29 => 310 | 36 => 331 | 31 => 332 | 32 => 333 | 37 => 334 | 38 => 335 | 39 => 336 | 41 => 344 | n => n, fun | 27 => 97 | 29 => 9 | 3 => 3 | 32 => 249 | 26 => 97 | 0 => 0 | 44 => 154 | 46 => 157 | 4 => 4 | 36 => 350 | 35 => 349 | 41 => 116 | 5 => 5 | 9 => 9 | 53 => 373 | 57 => 377 | 63 => 383 | 64 => 384 | n => n, fun | n => n⟩
theorem Tryz.sortM : Go.Proofs.SlLaysM.n6 Tryz.prog Tryz.sortM_ren := {
 mixed := by kernel_rfl
 f6 := ⟨Tryz.f254.name, by decide, Tryz.func254.trans (congrArg some (by kernel_rfl))⟩
 f8 := Tryz.func287.trans (congrArg some (by kernel_rfl))
 f9 := ⟨Tryz.f286.name, by decide, Tryz.func286.trans (congrArg some (by kernel_rfl))⟩
 f19 := Tryz.func311.trans (congrArg some (by kernel_rfl))
 f20 := Tryz.func312.trans (congrArg some (by kernel_rfl))
 f21 := ⟨Tryz.f302.name, by decide, Tryz.func302.trans (congrArg some (by kernel_rfl))⟩
 f22 := ⟨Tryz.f303.name, by decide, Tryz.func303.trans (congrArg some (by kernel_rfl))⟩
 f23 := ⟨Tryz.f304.name, by decide, Tryz.func304.trans (congrArg some (by kernel_rfl))⟩
 f24 := ⟨Tryz.f305.name, by decide, Tryz.func305.trans (congrArg some (by kernel_rfl))⟩
 f25 := ⟨Tryz.f306.name, by decide, Tryz.func306.trans (congrArg some (by kernel_rfl))⟩
 f26 := ⟨Tryz.f307.name, by decide, Tryz.func307.trans (congrArg some (by kernel_rfl))⟩
 f27 := ⟨Tryz.f308.name, by decide, Tryz.func308.trans (congrArg some (by kernel_rfl))⟩
 f28 := ⟨Tryz.f309.name, by decide, Tryz.func309.trans (congrArg some (by kernel_rfl))⟩
 f29 := ⟨Tryz.f310.name, by decide, Tryz.func310.trans (congrArg some (by kernel_rfl))⟩
 f31 := Tryz.func332.trans (congrArg some (by kernel_rfl))
 f32 := Tryz.func333.trans (congrArg some (by kernel_rfl))
 f36 := ⟨Tryz.f331.name, by decide, Tryz.func331.trans (congrArg some (by kernel_rfl))⟩
 f37 := ⟨Tryz.f334.name, by decide, Tryz.func334.trans (congrArg some (by kernel_rfl))⟩
 f38 := ⟨Tryz.f335.name, by decide, Tryz.func335.trans (congrArg some (by kernel_rfl))⟩
 f39 := ⟨Tryz.f336.name, by decide, Tryz.func336.trans (congrArg some (by kernel_rfl))⟩
 f41 := ⟨Tryz.f344.name, by decide, Tryz.func344.trans (congrArg some (by kernel_rfl))⟩
 t0 := Tryz.underlying0
 a0 := Tryz.isAgg0
 z0 := Tryz.sizeOf0
 v0 := Tryz.zeroValue0
 t3 := Tryz.underlying3
 a3 := Tryz.isAgg3
 z3 := Tryz.sizeOf3
 v3 := Tryz.zeroValue3
 t4 := Tryz.underlying4
 a4 := Tryz.isAgg4
 z4 := Tryz.sizeOf4
 v4 := Tryz.zeroValue4
 t5 := Tryz.underlying5
 a5 := Tryz.isAgg5
 z5 := Tryz.sizeOf5
 v5 := Tryz.zeroValue5
 t9 := Tryz.underlying9
 a9 := Tryz.isAgg9
 z9 := Tryz.sizeOf9
 v9 := Tryz.zeroValue9
 t26 := Tryz.underlying97
 a26 := Tryz.isAgg97
 z26 := Tryz.sizeOf97
 v26 := Tryz.zeroValue97
 t27 := Tryz.underlying97
 a27 := Tryz.isAgg97
 z27 := Tryz.sizeOf97
 v27 := Tryz.zeroValue97
 t29 := Tryz.underlying9
 a29 := Tryz.isAgg9
 z29 := Tryz.sizeOf9
 v29 := Tryz.zeroValue9
 t32 := Tryz.underlying249
 a32 := Tryz.isAgg249
 z32 := Tryz.sizeOf249
 v32 := Tryz.zeroValue249
 t35 := Tryz.underlying349
 a35 := Tryz.isAgg349
 z35 := Tryz.sizeOf349
 v35 := Tryz.zeroValue349
 t36 := Tryz.underlying350
 a36 := Tryz.isAgg350
 z36 := Tryz.sizeOf350
 v36 := Tryz.zeroValue350
 t41 := Tryz.underlying116
 a41 := Tryz.isAgg116
 z41 := Tryz.sizeOf116
 v41 := Tryz.zeroValue116
 t44 := Tryz.underlying154
 a44 := Tryz.isAgg154
 z44 := Tryz.sizeOf154
 v44 := Tryz.zeroValue154
 t46 := Tryz.underlying157
 a46 := Tryz.isAgg157
 z46 := Tryz.sizeOf157
 v46 := Tryz.zeroValue157
 t53 := Tryz.underlying373
 a53 := Tryz.isAgg373
 z53 := Tryz.sizeOf373
 v53 := Tryz.zeroValue373
 t57 := Tryz.underlying377
 a57 := Tryz.isAgg377
 z57 := Tryz.sizeOf377
 v57 := Tryz.zeroValue377
 t63 := Tryz.underlying383
 a63 := Tryz.isAgg383
 z63 := Tryz.sizeOf383
 v63 := Tryz.zeroValue383
 t64 := Tryz.underlying384
 a64 := Tryz.isAgg384
 z64 := Tryz.sizeOf384
 v64 := Tryz.zeroValue384 }
end Go.Proofs

namespace Go.Proofs
open Go.RowKit Go.Maps Go.Sort Go.Shelf
-- maps.Keys[map[string]string,string,string] (function 260; its iterator 290) · slices.Sorted[string] (200) · slices.Sort[[]string,string] (254) · the map's type 313, the keys' 9
theorem Tryz.sortsM (m : Nat) : AnyZ.SortsIn Tryz.prog Tryz.sortedM_ren Fence.wide m :=
 ⟨fun blk off cap ss W hH hblk hsz => callsIn_wide.2 (AnyM.slices_Sort_string Tryz.sortM blk off cap ss W hH hblk hsz),
  fun p cap W => callsIn_wide.2 (AnyM.slices_Sort_string_none Tryz.sortM p cap W)⟩
theorem Tryz.mapsKeys (mb : Option Nat) (W : World) : CallsIn Fence.wide 5 Tryz.prog 260 #[.map mb] W fun e w' => e = .returned (.func (.func 290) #[] #[.pointer (some ⟨W.heap.size, 0, none⟩)]) ∧ w' = W.alloc (.cells #[.map mb] 313) :=
 AnyZ.keys_in Tryz.keysM Fence.wide 5 trivial rfl mb W
theorem Tryz.sortedKeys {H : Type} (b nn : Nat) (D0 : DataW H) (R : Value → Option (DataW H × List MemPlace)) (w : World) (hown : w.ownsMap Tryz.prog 9 R b nn D0) (hmax : Maps.size D0 ≤ maxLen) (hbytes : Maps.size D0 * 16 ≤ 140737488355328) :
  CallsIn Fence.wide 5 Tryz.prog 200 #[.func (.func 290) #[] #[.pointer (some ⟨w.heap.size, 0, none⟩)]] (w.alloc (.cells #[.map (some b)] 313)) fun e w' => ∃ (v : Value) (ss : List (List UInt8)), e = .returned v ∧ ss.Perm (strKeys D0) ∧
   w'.ownsRow (w.alloc (.cells #[.map (some b)] 313)).heap.size 9 1 v ss.length ((ss.mergeSort (fun x y => decide (x ≤ y))).map encStr) ∧ (v = .slice none 0 0 ↔ ss = []) ∧ Below (w.alloc (.cells #[.map (some b)] 313)).heap.size (w.alloc (.cells #[.map (some b)] 313)) w' := by
 have hbl := hown.lt
 have hseq : SeqGives Fence.wide 2 Tryz.prog 290 #[.pointer (some ⟨w.heap.size, 0, none⟩)] encStr (fun ss => ss.Perm (strKeys D0)) (Maps.size D0) (w.alloc (.cells #[.map (some b)] 313)) :=
  AnyZ.keys_gives (ρ := Tryz.keysM_ren) { Tryz.keysM with } Fence.wide _ trivial rfl (by omega) w.heap.size b nn D0 _ (by simp) (by simp) (by
   obtain ⟨es, clock, hb, Ft, hs, hD⟩ := hown
   exact ⟨es, clock, (Below.heap_alloc _ _ b hbl).trans hb, Ft, hs, hD⟩)
 exact AnyZ.sorted_in Tryz.sortedM Fence.wide 5 trivial trivial trivial trivial rfl (by omega) (Tryz.sortsM _) (enters_of Tryz.func254 (by kernel_rfl) rfl) 290 #[.pointer (some ⟨w.heap.size, 0, none⟩)] trivial (enters_of Tryz.func290 (by kernel_rfl) rfl) _ _ hmax hbytes _ hseq
end Go.Proofs

namespace Go.Proofs.YtpojnhikgjcgmaaGreatDoor
open Go.RowKit Go.Shelf Go.Maps
open Go.Proofs
open Go.Proofs.YtpojnhikgjcgmaaGreatDoor.Ad (Pr AscP)
theorem strK : Keyed Tryz.prog 9 := string_keyed Tryz.underlying9
theorem ownsMap_same {P : Program} {k : TypeId} {R : Value → Option (DataW Unit × List MemPlace)} {w w' : World} {b n : Nat} {D : DataW Unit} (h : w.ownsMap P k R b n D) (e : w'.heap[b]? = w.heap[b]?) : w'.ownsMap P k R b n D := by
 obtain ⟨es, clock, hb, r⟩ := h
 exact ⟨es, clock, e.trans hb, r⟩
theorem bs_mk (x : ByteArray) : (⟨(bsT x).toArray⟩ : ByteArray) = x := by cases x; simp [bsT]
theorem piece_le (c : UInt8) : ∀ s : List UInt8, ∀ p ∈ Ad.pieces c s, p.length ≤ s.length
 | [], p, hp => by simp [Ad.pieces] at hp; rw [hp]; simp
 | x :: r, p, hp => by
  have ih := piece_le c r
  unfold Ad.pieces at hp
  split at hp
  ·rcases List.mem_cons.1 hp with e | e
   ·rw [e]; simp
   ·have := ih p e; simp only [List.length_cons]; omega
  ·split at hp
   ·rw [List.mem_singleton] at hp; rw [hp]; simp
   ·rename_i q l hq
    rcases List.mem_cons.1 hp with e | e
    ·rw [e]
     have := ih q (by rw [hq]; simp)
     simp only [List.length_cons]; omega
    ·have := ih p (by rw [hq]; exact List.mem_cons_of_mem _ e)
     simp only [List.length_cons]; omega
theorem zeroStrC (w : World) : (zeroValue 9).run Tryz.prog w = .ok (.string ByteArray.empty) w := by kernel_rfl
def keyB (p : Pr) : ByteArray := ⟨p.1.toArray⟩
theorem name_64 {p : Pr} (h : Ad.goodP p = true) : (keyB p).size ≤ 64 := by
 simp only [Ad.goodP, Bool.and_eq_true] at h
 have h1 := h.1
 simp only [Tg.nameB, Tg.wordB, Bool.and_eq_true, decide_eq_true_eq] at h1
 have h2 : (keyB p).size = p.1.length := by simp [keyB, ByteArray.size]
 omega
theorem keys_flat : ∀ L : List Pr, L.map (Go.Proofs.encStr ∘ fun x => x.1) = L.flatMap (fun a => encStr (keyB a))
 | [] => rfl
 | p :: l => by rw [List.map_cons, List.flatMap_cons, keys_flat l]; rfl
theorem keys_owned {base : Nat} {w : World} {v : Value} {ss : List (List UInt8)} {L : List Pr} (hs : ss.mergeSort (fun x y => decide (x ≤ y)) = L.map (·.1)) (h : w.ownsRow base 9 1 v ss.length ((ss.mergeSort (fun x y => decide (x ≤ y))).map Go.Proofs.encStr)) :
  ∃ A c, v = .slice A L.length c ∧ OwnsStr base w A c (L.map keyB) := by
 have hl : ss.length = L.length := by
  have := congrArg List.length hs
  rwa [List.length_mergeSort, List.length_map] at this
 have e : (ss.mergeSort (fun x y => decide (x ≤ y))).map Go.Proofs.encStr = (L.map keyB).flatMap encStr := by
  rw [hs, List.map_map, List.flatMap_map]
  exact keys_flat L
 rw [e, hl] at h
 have hl2 : (L.map keyB).length = L.length := List.length_map _
 obtain ⟨h1, h2⟩ := h
 rcases h2 with ⟨rfl, h3⟩ | ⟨g, cap, cur, rfl, h3⟩
 ·exact ⟨none, 0, by rw [h3], by unfold OwnsStr Owns World.ownsRow; rw [hl2]; exact ⟨h1, .inl ⟨by rw [h3], h3⟩⟩⟩
 ·exact ⟨_, cap, rfl, by unfold OwnsStr Owns World.ownsRow; rw [hl2]; exact ⟨h1, .inr ⟨g, cap, cur, rfl, h3⟩⟩⟩
section
attribute [local go_sem] Oper.semAt_some
abbrev ownsP (W : World) (bm n : Nat) (D : DataW Unit) : Prop := W.ownsMap Tryz.prog 9 (plainElem Tryz.prog 9) bm n D
def PrJ (b4 b2 b3 bm rc : Nat) (ps : List (List UInt8)) (rdy : Obj) (k : Nat) (W : World) : Prop :=
 ∃ (L : List Pr) (D : DataW Unit), Hid (Ad.qAll (ps.take k) = some L) ∧ Hid (MapIs D L) ∧ ownsP W bm k D ∧ Boxed W b4 313 (.map (some bm)) ∧ Boxed W b2 173 (.slice none 0 0) ∧ Boxed W b3 4 (.bool false) ∧ W.heap[rc]? = some rdy
theorem q_take {ps : List (List UInt8)} {k : Nat} (h : k < ps.length) {out : List Pr} (ho : Ad.qAll (ps.take k) = some out) : Ad.qAll (ps.take (k + 1)) = Ad.qIn out ps[k] := by
 rw [List.take_succ_eq_append_getElem h, Ad.q_snoc, ho]
 rfl
theorem q_stop {ps : List (List UInt8)} {k : Nat} (h : Ad.qAll (ps.take k) = none) : Ad.qAll ps = none := by
 have e : Ad.qAll ps = (ps.drop k).foldl Ad.qStep (Ad.qAll (ps.take k)) := by
  conv => lhs; rw [← List.take_append_drop k ps]
  unfold Ad.qAll
  rw [List.foldl_append]
 rw [e, h]
 exact Ad.q_none _
def PrSt (b2 b3 rc : Nat) (ps : List (List UInt8)) (rdy : Obj) (W : World) : Prop :=
 Ad.qAll ps = none ∧ Boxed W b2 173 (.slice none 0 0) ∧ Boxed W b3 4 (.bool false) ∧ W.heap[rc]? = some (doneOf .ret rdy)
theorem pairs_some (s : ByteArray) (w : World) (h0 : bsT s ≠ []) (hs : s.size ≤ 4096) :
  Calls Tryz.prog 219 #[.string s] w fun e w' => PrsU (Ad.quN (bsT s)) w.heap.size e w' ∧ Ext w w' := by
 have hs0 : (s.toList == []) = false := by rw [Lib.toList_data]; simpa [bsT] using h0
 have hs1 : s.toList.isEmpty = false := by rw [Lib.toList_data]; simpa [bsT] using h0
 have HQN : Hid (Ad.quN (bsT s) = Ad.qAll (Ad.pieces 38 (bsT s))) := lh (by unfold Ad.quN; rw [if_neg h0])
 have HSS := lh (fun W => splitSeq_any s 38 W)
 have hmm := @run_makeMap Tryz.prog
 clear h0
 refine (callsIn_wide (n := 6)).1 ?_
 refine callsIn_of_wp_marks Tryz.func219 rfl trivial ?_ rfl
 simp only [Tryz.ntmps219, List.size_toArray, List.length_cons, List.length_nil, Nat.reduceAdd, Nat.reduceSub, Array.replicate_succ, Array.replicate_zero, List.push_toArray, List.append_toArray, List.nil_append, List.cons_append]
 gi_wp2_with (refine ⟨trivial, ?_⟩; gi_at_call 216; refine (callsIn_wide.2 (HSS.out _)).mono ?_; rintro e w' ⟨rfl, rfl⟩)
 obtain ⟨W0, hW0⟩ : ∃ W0, (((((((w.alloc (.cells #[.slice none 0 0] 173)).alloc (.cells #[.bool false] 4)).alloc (.map #[] 0)).alloc (.cells #[.map (some (w.heap.size + 1 + 1))] 313)).alloc (.cells #[.string s] 9)).alloc (.cells #[.string ⟨#[38]⟩] 9)).alloc (.cells #[.int .i64 0] 3)) = W0 := ⟨_, rfl⟩
 have b1 : Boxed W0 w.heap.size 173 (.slice none 0 0) := by rw [← hW0]; exact ((((((Boxed.new w 173 _).alloc _).alloc _).alloc _).alloc _).alloc _).alloc _
 have b2 : Boxed W0 (w.heap.size + 1) 4 (.bool false) := by
  rw [← hW0]
  have := Boxed.new (w.alloc (.cells #[.slice none 0 0] 173)) 4 (.bool false); rw [World.size_alloc] at this; exact ((((this.alloc _).alloc _).alloc _).alloc _).alloc _
 have bmp : ownsP W0 (w.heap.size + 1 + 1) 0 (.map []) := by
  rw [← hW0]
  have := World.ownsMap_made (H := Unit) ((w.alloc (.cells #[.slice none 0 0] 173)).alloc (.cells #[.bool false] 4)) Tryz.prog 9 (plainElem Tryz.prog 9); rw [World.size_alloc, World.size_alloc] at this; exact (((this.alloc _).alloc _).alloc _).alloc _
 have b4 : Boxed W0 (w.heap.size + 1 + 1 + 1) 313 (.map (some (w.heap.size + 1 + 1))) := by
  rw [← hW0]
  have := Boxed.new (((w.alloc (.cells #[.slice none 0 0] 173)).alloc (.cells #[.bool false] 4)).alloc (.map #[] 0)) 313 (.map (some (w.heap.size + 1 + 1))); rw [World.size_alloc, World.size_alloc, World.size_alloc] at this; exact ((this.alloc _).alloc _).alloc _
 have bsx : Boxed W0 (w.heap.size + 1 + 1 + 1 + 1) 9 (.string s) := by
  rw [← hW0]
  have := Boxed.new ((((w.alloc (.cells #[.slice none 0 0] 173)).alloc (.cells #[.bool false] 4)).alloc (.map #[] 0)).alloc (.cells #[.map (some (w.heap.size + 1 + 1))] 313)) 9 (.string s); rw [World.size_alloc, World.size_alloc, World.size_alloc, World.size_alloc] at this; exact (this.alloc _).alloc _
 have bsep : Boxed W0 (w.heap.size + 1 + 1 + 1 + 1 + 1) 9 (.string ⟨#[38]⟩) := by
  rw [← hW0]
  have := Boxed.new (((((w.alloc (.cells #[.slice none 0 0] 173)).alloc (.cells #[.bool false] 4)).alloc (.map #[] 0)).alloc (.cells #[.map (some (w.heap.size + 1 + 1))] 313)).alloc (.cells #[.string s] 9)) 9 (.string ⟨#[38]⟩); rw [World.size_alloc, World.size_alloc, World.size_alloc, World.size_alloc, World.size_alloc] at this; exact this.alloc _
 have bsv : Boxed W0 (w.heap.size + 1 + 1 + 1 + 1 + 1 + 1) 3 (.int .i64 0) := by
  rw [← hW0]
  have := Boxed.new ((((((w.alloc (.cells #[.slice none 0 0] 173)).alloc (.cells #[.bool false] 4)).alloc (.map #[] 0)).alloc (.cells #[.map (some (w.heap.size + 1 + 1))] 313)).alloc (.cells #[.string s] 9)).alloc (.cells #[.string ⟨#[38]⟩] 9)) 3 (.int .i64 0); rw [World.size_alloc, World.size_alloc, World.size_alloc, World.size_alloc, World.size_alloc, World.size_alloc] at this; exact this
 have bs0 : W0.heap.size = w.heap.size + 7 := by rw [← hW0]; simp
 have bx : Ext w W0 := by rw [← hW0]; exact (((((((eR _).alloc _).alloc _).alloc _).alloc _).alloc _).alloc _).alloc _
 rw [hW0]
 clear hW0
 have hbs1 := Nat.le_of_eq bs0
 have hbs2 := Nat.le_of_eq bs0.symm
 clear bs0
 refine rf_enter2 rfl (by omega) (gf := 289) (lb := #[.pointer (some ⟨w.heap.size + 1 + 1 + 1 + 1 + 1, 0, none⟩), .pointer (some ⟨w.heap.size + 1 + 1 + 1 + 1, 0, none⟩), .pointer (some ⟨w.heap.size + 1 + 1 + 1 + 1 + 1 + 1, 0, none⟩)]) rfl trivial (enters_of Tryz.func289 (by kernel_rfl) rfl) ?_
 intro fn WL rdy hfn hrdy hE hEs hl0 hD0
 have hEa := Nat.le_of_eq hEs
 have hEb := Nat.le_of_eq hEs.symm
 clear hEs
 have hM0 : ownsP WL (w.heap.size + 1 + 1) 0 (.map []) := ownsMap_same bmp (hE.below.block _ (by omega))
 refine CallsIn.mono (splitseq1_in 38 (6 - 1) (by omega) (W0.heap.size + 1) (w.heap.size + 1 + 1 + 1 + 1) (w.heap.size + 1 + 1 + 1 + 1 + 1) (w.heap.size + 1 + 1 + 1 + 1 + 1 + 1) s WL (by omega) (Boxed.ext bsep hE) (Boxed.ext bsx hE) (Boxed.ext bsv hE) ⟨by omega, by omega⟩
  (fun k => (w.heap.size ≤ k ∧ k ≠ W0.heap.size ∧ k ≠ w.heap.size + 4 ∧ k ≠ w.heap.size + 5 ∧ k ≠ w.heap.size + 6)) ⟨by omega, by omega, by omega⟩
  (PrJ (w.heap.size + 1 + 1 + 1) w.heap.size (w.heap.size + 1) (w.heap.size + 1 + 1) (W0.heap.size + 1) (Ad.pieces 38 (bsT s)) rdy)
  (PrSt w.heap.size (w.heap.size + 1) (W0.heap.size + 1) (Ad.pieces 38 (bsT s)) rdy)
  ⟨[], .map [], lh rfl, lh MapIs.nil, hM0, Boxed.ext b4 hE, Boxed.ext b1 hE, Boxed.ext b2 hE, hl0⟩
  (fun k W1 W2 ⟨L', D', h1, h2, h4, h3, h5, h6, h7⟩ hx => ⟨L', D', h1, h2, ownsMap_same h4 (hx.block _ h4.lt (by omega)), hx.boxed h3 (by omega), hx.boxed h5 (by omega), hx.boxed h6 (by omega), (hx.block _ (Array.getElem?_eq_some_iff.1 h7).1 (by omega)).trans h7⟩) ?hY) ?post
 case hY =>
  rintro k hk x W1 hx ⟨L', D', HL, HMI, hM1, hbo, hb2, hb3, hrec⟩ hBS
  have hsz1 := hBS.size
  have hlt := (Array.getElem?_eq_some_iff.1 hrec).1
  have HSt : Hid (Ad.qAll ((Ad.pieces 38 (bsT s)).take (k + 1)) = Ad.qIn L' (bsT x)) := lh (by rw [q_take hk HL.out, hx])
  have HStop : Hid (Ad.qIn L' (bsT x) = none → Ad.qAll (Ad.pieces 38 (bsT s)) = none) := lh (fun h => q_stop (HSt.out.trans h))
  have hxs : x.size ≤ 4096 := by
   have h1 := piece_le 38 (bsT s) _ (List.getElem_mem hk)
   rw [← hx, bsT_size, bsT_size] at h1
   omega
  have hA : AscP L' := (Ad.qAll_ok _ [] L' HL.out (by simp [AscP]) (by simp)).1
  have HA := lh hA
  have HRdy := lh hrdy
  rw [hrdy] at hrec
  clear hrdy hx HL hA
  refine rf_round hrec hfn rfl ?_
  have HREC := lh hrec
  clear hrec
  gi_wp2
  refine ⟨(Array.getElem?_eq_some_iff.1 HREC.out).2, ?_⟩
  intro W2 hbt hs2 hr2
  have hs2a : W2.heap.size ≤ W1.heap.size := Nat.le_of_eq hs2
  have hs2b : W1.heap.size ≤ W2.heap.size := Nat.le_of_eq hs2.symm
  have hm2 : ownsP W2 (w.heap.size + 1 + 1) k D' := ownsMap_same hM1 (hbt.block _ hM1.lt (fun e => by injection e; omega))
  have hbp2 : Boxed W2 (w.heap.size + 1 + 1 + 1) 313 (.map (some (w.heap.size + 1 + 1))) := boxed_but hbo hbt (by omega)
  have hq2 : Boxed W2 w.heap.size 173 (.slice none 0 0) := boxed_but hb2 hbt (by omega)
  have hq3 : Boxed W2 (w.heap.size + 1) 4 (.bool false) := boxed_but hb3 hbt (by omega)
  have c3 := hbp2.cell
  have c4 := hq2.cell
  have c4f := hq2.frozen
  have c5 := hq3.cell
  have c5f := hq3.frozen
  have HBt := lh hbt
  have HR2 := lh hr2
  have HM2 := lh hm2
  have HP2 := lh hbp2
  have HQ2 := lh hq2
  have HQ3 := lh hq3
  clear hbt hr2 hs2 hM1 hbo hb2 hb3 hm2 hbp2 hq2 hq3
  gi_wp2_with (refine ⟨trivial, ?_⟩; gi_at_call 66; refine (show Hid _ from ?_).out)
  refine lh ?_
  refine (CallsIn.inRound _ (callsIn_wide.2 (scut_any x 61 _ (by omega)))).mono ?_
  rintro e w' ⟨⟨a, b, f, rfl, hc, has, hbs⟩, hxl⟩
  obtain ⟨xm, rfl⟩ := hxl.asLater
  clear hxl
  have HC := lh hc
  have HNm := lh (fun W => name_any a W)
  have HWd := lh (fun W => word_any b W)
  have HPo : Hid (Ad.pairOf (bsT x) = if f = true ∧ Tg.nameB (bsT a) = true ∧ Tg.wordB (bsT b) = true then some (bsT a, bsT b) else none) := lh (by unfold Ad.pairOf; rw [← hc])
  clear hc
  cases f with
  | false =>
   have HFl := lh (HStop.out (by unfold Ad.qIn; rw [HPo.out]; rfl))
   clear HStop HSt HPo HNm HWd HC
   gi_wp2_with (refine ⟨trivial, ?_⟩)
   refine ⟨?_, ?_⟩
   ·refine (Below.heap_setCell _ _ _ _ (by show _ ≠ w.heap.size + 1; omega)).trans ((Below.heap_setCell _ _ _ _ (by show _ ≠ w.heap.size; omega)).trans ?_)
    exact ((ext_later W2 xm).below.block _ (by omega)).trans HR2.out
   intro W4 hb4 hr4
   refine ⟨.inr ⟨rfl, HFl.out, ?_, ?_, by rw [HRdy.out]; exact hr4⟩, ?_⟩
   ·exact boxed_but (((Boxed.ext HQ2.out (ext_later W2 xm)).set _).other (by omega) _) hb4 (by omega)
   ·exact boxed_but ((((Boxed.ext HQ3.out (ext_later W2 xm)).other (by omega) _)).set _) hb4 (by omega)
   ·refine (ButS.of_but HBt.out (.inr ⟨by omega, by omega, by omega, by omega, by omega⟩)).trans ((ButS.of_ext (ext_later W2 xm)).trans ?_)
    exact (((ButS.refl _ (later W2 xm)).setCell (p := ⟨w.heap.size, 0, none⟩) (.inl ⟨by show w.heap.size ≤ w.heap.size; omega, by show w.heap.size ≠ _; omega, by show w.heap.size ≠ _; omega, by show w.heap.size ≠ _; omega, by show w.heap.size ≠ _; omega⟩) _).setCell (p := ⟨w.heap.size + 1, 0, none⟩) (.inl ⟨by show _ ≤ w.heap.size + 1; omega, by show w.heap.size + 1 ≠ _; omega, by show w.heap.size + 1 ≠ _; omega, by show w.heap.size + 1 ≠ _; omega, by show w.heap.size + 1 ≠ _; omega⟩) _).trans (ButS.of_but hb4 (.inr ⟨by omega, by omega, by omega, by omega, by omega⟩))
  | true =>
   cases hn : Tg.nameB (bsT a) with
   | false =>
    have hn' : Tg.nameB a.data.toList = false := hn
    rw [hn'] at HNm
    have HFl := lh (HStop.out (by unfold Ad.qIn; rw [HPo.out, hn]; rfl))
    clear HStop HSt HPo HWd HC hn hn'
    gi_wp2_with (refine ⟨trivial, ?_⟩; try (first
     | (gi_at_call 197; refine (CallsIn.inRound _ (callsIn_wide.2 (HNm.out _))).mono ?_; rintro e w' ⟨rfl, hxl⟩; obtain ⟨xn, rfl⟩ := hxl.asLater; clear hxl)
     | (gi_at_call 251; refine (CallsIn.inRound _ (callsIn_wide.2 (HWd.out _))).mono ?_; rintro e w' ⟨rfl, hxl⟩; obtain ⟨xo, rfl⟩ := hxl.asLater; clear hxl)))
    refine ⟨?_, ?_⟩
    ·refine (Below.heap_setCell _ _ _ _ (by show _ ≠ w.heap.size + 1; omega)).trans ((Below.heap_setCell _ _ _ _ (by show _ ≠ w.heap.size; omega)).trans ?_)
     exact ((ext_later W2 (xm.comp xn)).below.block _ (by omega)).trans HR2.out
    intro W4 hb4 hr4
    refine ⟨.inr ⟨rfl, HFl.out, ?_, ?_, by rw [HRdy.out]; exact hr4⟩, ?_⟩
    ·exact boxed_but (((Boxed.ext HQ2.out (ext_later W2 (xm.comp xn))).set _).other (by omega) _) hb4 (by omega)
    ·exact boxed_but ((((Boxed.ext HQ3.out (ext_later W2 (xm.comp xn))).other (by omega) _)).set _) hb4 (by omega)
    ·refine (ButS.of_but HBt.out (.inr ⟨by omega, by omega, by omega, by omega, by omega⟩)).trans ((ButS.of_ext (ext_later W2 (xm.comp xn))).trans ?_)
     exact (((ButS.refl _ (later W2 (xm.comp xn))).setCell (p := ⟨w.heap.size, 0, none⟩) (.inl ⟨by show w.heap.size ≤ w.heap.size; omega, by show w.heap.size ≠ _; omega, by show w.heap.size ≠ _; omega, by show w.heap.size ≠ _; omega, by show w.heap.size ≠ _; omega⟩) _).setCell (p := ⟨w.heap.size + 1, 0, none⟩) (.inl ⟨by show _ ≤ w.heap.size + 1; omega, by show w.heap.size + 1 ≠ _; omega, by show w.heap.size + 1 ≠ _; omega, by show w.heap.size + 1 ≠ _; omega, by show w.heap.size + 1 ≠ _; omega⟩) _).trans (ButS.of_but hb4 (.inr ⟨by omega, by omega, by omega, by omega, by omega⟩))
   | true =>
    have hn' : Tg.nameB a.data.toList = true := hn
    rw [hn'] at HNm
    cases hwd : Tg.wordB (bsT b) with
    | false =>
     have hw' : Tg.wordB b.data.toList = false := hwd
     rw [hw'] at HWd
     have HFl := lh (HStop.out (by unfold Ad.qIn; rw [HPo.out, hwd]; simp))
     clear HStop HSt HPo HC hn hn' hwd hw'
     gi_wp2_with (refine ⟨trivial, ?_⟩; try (first
      | (gi_at_call 197; refine (CallsIn.inRound _ (callsIn_wide.2 (HNm.out _))).mono ?_; rintro e w' ⟨rfl, hxl⟩; obtain ⟨xn, rfl⟩ := hxl.asLater; clear hxl)
      | (gi_at_call 251; refine (CallsIn.inRound _ (callsIn_wide.2 (HWd.out _))).mono ?_; rintro e w' ⟨rfl, hxl⟩; obtain ⟨xo, rfl⟩ := hxl.asLater; clear hxl)))
     refine ⟨?_, ?_⟩
     ·refine (Below.heap_setCell _ _ _ _ (by show _ ≠ w.heap.size + 1; omega)).trans ((Below.heap_setCell _ _ _ _ (by show _ ≠ w.heap.size; omega)).trans ?_)
      exact ((ext_later W2 ((xm.comp xn).comp xo)).below.block _ (by omega)).trans HR2.out
     intro W4 hb4 hr4
     refine ⟨.inr ⟨rfl, HFl.out, ?_, ?_, by rw [HRdy.out]; exact hr4⟩, ?_⟩
     ·exact boxed_but (((Boxed.ext HQ2.out (ext_later W2 ((xm.comp xn).comp xo))).set _).other (by omega) _) hb4 (by omega)
     ·exact boxed_but ((((Boxed.ext HQ3.out (ext_later W2 ((xm.comp xn).comp xo))).other (by omega) _)).set _) hb4 (by omega)
     ·refine (ButS.of_but HBt.out (.inr ⟨by omega, by omega, by omega, by omega, by omega⟩)).trans ((ButS.of_ext (ext_later W2 ((xm.comp xn).comp xo))).trans ?_)
      exact (((ButS.refl _ (later W2 ((xm.comp xn).comp xo))).setCell (p := ⟨w.heap.size, 0, none⟩) (.inl ⟨by show w.heap.size ≤ w.heap.size; omega, by show w.heap.size ≠ _; omega, by show w.heap.size ≠ _; omega, by show w.heap.size ≠ _; omega, by show w.heap.size ≠ _; omega⟩) _).setCell (p := ⟨w.heap.size + 1, 0, none⟩) (.inl ⟨by show _ ≤ w.heap.size + 1; omega, by show w.heap.size + 1 ≠ _; omega, by show w.heap.size + 1 ≠ _; omega, by show w.heap.size + 1 ≠ _; omega, by show w.heap.size + 1 ≠ _; omega⟩) _).trans (ButS.of_but hb4 (.inr ⟨by omega, by omega, by omega, by omega, by omega⟩))
    | true =>
     have hw' : Tg.wordB b.data.toList = true := hwd
     rw [hw'] at HWd
     have HN : Hid (Ad.qAll ((Ad.pieces 38 (bsT s)).take (k + 1)) = some (Ad.putP (bsT a, bsT b) L')) := lh (by rw [HSt.out]; unfold Ad.qIn; rw [HPo.out, if_pos ⟨rfl, hn, hwd⟩]; rfl)
     clear HStop HSt HPo HC hn hn' hwd hw'
     gi_wp2_with (first
      | (refine ⟨trivial, ?_⟩; try (first
       | (gi_at_call 197; refine (CallsIn.inRound _ (callsIn_wide.2 (HNm.out _))).mono ?_; rintro e w' ⟨rfl, hxl⟩; obtain ⟨xn, rfl⟩ := hxl.asLater; clear hxl)
       | (gi_at_call 251; refine (CallsIn.inRound _ (callsIn_wide.2 (HWd.out _))).mono ?_; rintro e w' ⟨rfl, hxl⟩; obtain ⟨xo, rfl⟩ := hxl.asLater; clear hxl)))
      | (gi_at_mapUpdate; refine (show Hid _ from ?_).out))
     refine lh ?_
     have HM3 : Hid (ownsP (later W2 ((xm.comp xn).comp xo)) (w.heap.size + 1 + 1) k D') := lh (ownsMap_same HM2.out ((ext_later W2 _).below.block _ HM2.out.lt))
     have hkl := Ad.pieces_len 38 (bsT s)
     rw [bsT_size] at hkl
     refine wpListIn_mapUpdate_own _ rfl _ _ _ 313 rfl 9 9 strK Tryz.underlying313 _ (w.heap.size + 1 + 1) k D' rfl HM3.out (by unfold maxLen; omega) (.string a) (.string b) (.string (bsT a)) rfl rfl (Go.WideMaps.keyOf_string_mk Tryz.underlying9 (by unfold maxLen; omega)) (.lit (.string (bsT b))) [] (plainElem_string Tryz.underlying9 (by unfold maxLen; omega)) ?_
     intro w3 hown3 hgrow3
     have HG3 := lh hgrow3
     have HO3 := lh hown3
     clear hown3 hgrow3 hkl
     gi_wp2
     refine ⟨(HG3.out.block _ (by rw [later_size]; omega) (fun e => by injection e; omega)).trans (((ext_later W2 _).below.block _ (by omega)).trans HR2.out), ?_⟩
     intro W4 hb4 hr4
     have hs3 := HG3.out.size
     rw [later_size] at hs3
     have hq2 : Boxed w3 w.heap.size 173 (.slice none 0 0) := (HG3.out.block _ (by rw [later_size]; omega) (fun e => by injection e; omega)).trans (Boxed.ext HQ2.out (ext_later W2 _))
     have hq3 : Boxed w3 (w.heap.size + 1) 4 (.bool false) := (HG3.out.block _ (by rw [later_size]; omega) (fun e => by injection e; omega)).trans (Boxed.ext HQ3.out (ext_later W2 _))
     have hp2 : Boxed w3 (w.heap.size + 1 + 1 + 1) 313 (.map (some (w.heap.size + 1 + 1))) := (HG3.out.block _ (by rw [later_size]; omega) (fun e => by injection e; omega)).trans (Boxed.ext HP2.out (ext_later W2 _))
     refine ⟨.inl ⟨rfl, _, _, HN, lh (HMI.out.put HA.out (bsT a, bsT b)), ownsMap_same HO3.out (hb4.block _ HO3.out.lt (fun e => by injection e; omega)), boxed_but hp2 hb4 (by omega), boxed_but hq2 hb4 (by omega), boxed_but hq3 hb4 (by omega), by rw [HRdy.out]; exact hr4⟩, ?_⟩
     refine (ButS.of_but HBt.out (.inr ⟨by omega, by omega, by omega, by omega, by omega⟩)).trans ((ButS.of_ext (ext_later W2 ((xm.comp xn).comp xo))).trans ?_)
     exact (ButS.of_grownBy HG3.out (fun k e => by injection e; subst_vars; exact ⟨by omega, by omega, by omega, by omega, by omega⟩)).trans (ButS.of_but hb4 (.inr ⟨by omega, by omega, by omega, by omega, by omega⟩))
 case post =>
  rintro e W' ⟨⟨v', rfl⟩, hJS, hB⟩
  have HOut : ButS (fun k => w.heap.size ≤ k) w W' := (ButS.of_ext (bx.trans hE)).trans (hB.mono (fun k _ e => by omega))
  have HO1 := lh HOut
  have hszB := hB.size
  have hD1 : W'.heap[W0.heap.size]? = some (.deferred (some [])) := (hB.block _ (by omega) (by omega)).trans hD0
  refine ⟨⟨_, rfl⟩, ?_⟩
  rcases hJS with ⟨L', D', HL, HMI, hM1, hbo, hb2, hb3, hrec⟩ | ⟨hno, hb2, hb3, hrec⟩
  ·refine .inl ⟨hrec, ?_⟩
   intro W'' hBut
   have HK : Hid (W''.heap[W0.heap.size]? = some (.deferred (some []))) := lh ((hBut.block _ (by omega) (fun e => by injection e; omega)).trans hD1)
   have hq4 := boxed_but hbo hBut (by omega)
   have hc := hq4.cell
   have HQ2 := lh (boxed_but hb2 hBut (by omega))
   have HQ3 := lh (boxed_but hb3 hBut (by omega))
   have HM2 : Hid (ownsP W'' (w.heap.size + 1 + 1) (Ad.pieces 38 (bsT s)).length D') := lh (ownsMap_same hM1 (hBut.block _ hM1.lt (fun e => by injection e; omega)))
   have HBu : Hid (ButS (fun k => w.heap.size ≤ k) w W'') := lh (HO1.out.trans (ButS.of_but hBut (.inr (by omega))))
   have HR : Hid (Ad.qAll (Ad.pieces 38 (bsT s)) = some L') := lh (by rw [← HL.out, List.take_of_length_le (Nat.le_refl _)])
   have HA : Hid (AscP L') := lh (Ad.qAll_ok _ [] L' HR.out (by simp [AscP]) (by simp)).1
   have hkl := Ad.pieces_len 38 (bsT s)
   rw [bsT_size] at hkl
   have hLl : L'.length ≤ (Ad.pieces 38 (bsT s)).length := by have := (Ad.qAll_ok _ [] L' HR.out (by simp [AscP]) (by simp)).2.2; simpa using this
   have hmz : Maps.size D' = L'.length := HMI.out.size HA.out HM2.out strK Tryz.underlying9
   have hsz2 := hBut.size
   clear hbo hb2 hb3 hrec hBut HL hD1 hD0 hB HOut hl0 b1 b2 b4 bmp bsx bsep bsv HO1 hM1 hM0
   gi_wp2_with (refine ⟨trivial, ?_⟩; first
    | (gi_at_call 260; refine (Tryz.mapsKeys _ _).mono ?_; rintro e w' ⟨rfl, rfl⟩)
    | (gi_at_call 200; refine (show Hid _ from ?_).out))
   refine lh ?_
   refine (Tryz.sortedKeys (w.heap.size + 1 + 1) _ D' _ W'' HM2.out (by rw [hmz]; unfold maxLen; omega) (by rw [hmz]; omega)).mono ?_
   rintro e w5 ⟨v, ss, rfl, hperm, hrow, _, hb5⟩
   obtain ⟨A5, c5, rfl, hks⟩ := keys_owned (L := L') (HMI.out.keys HA.out HM2.out strK Tryz.underlying9 hperm) hrow
   have HKs := lh hks
   have hx5 : Ext W'' w5 := ((Ext.refl W'').alloc _).trans hb5
   have hs5 := hx5.size
   have HX5 := lh hx5
   have HM5 : Hid (ownsP w5 (w.heap.size + 1 + 1) (Ad.pieces 38 (bsT s)).length D') := lh (ownsMap_same HM2.out (hx5.below.block _ HM2.out.lt))
   have HQ4 := lh (Boxed.ext hq4 hx5)
   have hsm : w.heap.size + 1 + 1 + 1 < w5.heap.size := HQ4.out.lt
   clear hperm hrow hb5 hks hx5 hq4 hc
   gi_wp2
   gi_loopw [43, 9] (fun i v wr => ∃ (j : Nat) (A' : Option Addr) (c' : Nat) (out : List PrB), j ≤ L'.length ∧ i = .int .i64 j ∧ v = .slice A' out.length c' ∧ out.length = j ∧ Hid (out.map prB = L'.take j) ∧ Hid (OwnsPr w5.heap.size wr A' c' out) ∧ Hid (Ext w5 wr)) (fun i _ _ => L'.length - (intOf i).toNat)
   case atStart => exact ⟨0, none, 0, [], Nat.zero_le _, rfl, rfl, rfl, lh rfl, lh (Owns.nil _ _ _ _ _), lh (eR _)⟩
   case round =>
    obtain ⟨j, A', c', out, hj, rfl, rfl, hoj, HOu, HOw, HX⟩ := hrel
    have hsr := HX.out.size
    by_cases hlt : j < L'.length
    ·obtain ⟨b, off, rfl, hb, d1⟩ := ReadsStr.cell ((HKs.out.reads sE).ext HX.out (Nat.le_refl _)) j (by rw [List.length_map]; exact hlt)
     rw [List.getElem_map] at d1
     have hmr : ownsP wr (w.heap.size + 1 + 1) (Ad.pieces 38 (bsT s)).length D' := ownsMap_same HM5.out (HX.out.below.block _ HM5.out.lt)
     have hkb : (keyB L'[j]).size ≤ 64 := by
      have hg := (Ad.qAll_ok _ [] L' HR.out (by simp [AscP]) (by simp)).2.1 _ (List.getElem_mem hlt)
      exact name_64 hg
     obtain ⟨v, ps, hrun, hv⟩ := hmr.lookup (z := .string ByteArray.empty) (zd := .lit (.string [])) (zp := []) strK Tryz.underlying313 (zeroStrC wr) (plainElem_string Tryz.underlying9 (by decide)) (Go.WideMaps.keyOf_string_mk Tryz.underlying9 (s := keyB L'[j]) (by unfold maxLen; omega))
     obtain ⟨vs, rfl, hvs, hvl⟩ := plainElem_string_inv Tryz.underlying9 hv
     have HN : Hid (prB (keyB L'[j], vs) = L'[j]) := lh (by
      have h1 := HMI.out.val _ (List.getElem_mem hlt) (.lit (.string []))
      have h2 := congrArg Prod.fst hvs
      rw [show (keyB L'[j]).data.toList = (L'[j]).1 from by simp [keyB], h1] at h2
      have h3 : (L'[j]).2 = vs.data.toList := by injection h2 with h2; injection h2
      exact Prod.ext (by simp [prB, keyB, bsT]) h3.symm)
     have HN2 : Hid ((out ++ [(keyB L'[j], vs)]).map prB = L'.take (j + 1)) := lh (by rw [List.map_append, HOu.out, List.take_succ_eq_append_getElem hlt, List.map_cons, HN.out]; rfl)
     have c4 := (HQ4.out.cell)
     have c4r : wr.cell? ⟨w.heap.size + 1 + 1 + 1, 0, none⟩ = some (.map (some (w.heap.size + 1 + 1))) := (HX.out.cell (p := ⟨w.heap.size + 1 + 1 + 1, 0, none⟩) (by exact hsm)).trans c4
     generalize keyB L'[j] = kb at *
     clear hv hvs hmr HN c4
     gi_wp2_with (gi_at_builtin; refine app_fromIn prT prE rfl _ _ rfl w5.heap.size _ _ out rfl (HOw.out.alloc _) _ 1 _ [(kb, vs)] rfl rfl (new_cellsAt rfl _ _) (by omega) (by omega) (by simp; omega) ?_; intro A3 c3' l3 w3 HL3 HO3 hB hl1 hl2 hG; have HO3' := lh HO3; have HB3 := lh hB; have hsz3 := hB.size; clear HO3 hB hG)
     go_roundw
     case rel => exact ⟨j + 1, A3, c3', l3, by omega, by go_num, rfl, by (try simp at hl1); omega, lh (by rw [HL3.out]; exact HN2.out), HO3', lh ((HX.out.alloc _).grown HB3.out (Nat.le_refl _))⟩
     case measure => simp [intOf]; omega
    ·have e : j = L'.length := by omega
     subst e
     rw [List.take_of_length_le (Nat.le_refl _)] at HOu
     have hq2 : Boxed wr w.heap.size 173 (.slice none 0 0) := Boxed.ext HQ2.out (HX5.out.trans HX.out)
     have hq3 : Boxed wr (w.heap.size + 1) 4 (.bool false) := Boxed.ext HQ3.out (HX5.out.trans HX.out)
     have k2 := hq2.cell
     have k2f := hq2.frozen
     have k3 := hq3.cell
     have k3f := hq3.frozen
     have HQ2r := lh hq2
     have HQ3r := lh hq3
     have HKr : Hid (wr.heap[W0.heap.size]? = some (.deferred (some []))) := lh (((HX5.out.trans HX.out).below.block _ (Array.getElem?_eq_some_iff.1 HK.out).1).trans HK.out)
     have HBr : Hid (ButS (fun k => w.heap.size ≤ k) w wr) := lh (HBu.out.trans (ButS.of_ext (HX5.out.trans HX.out)))
     clear hq2 hq3
     gi_wp2
     have hK2 : ((wr.setCell ⟨w.heap.size, 0, none⟩ (.slice A' L'.length c')).setCell ⟨w.heap.size + 1, 0, none⟩ (.bool true)).heap[W0.heap.size]? = some (.deferred (some [])) := (Below.heap_setCell _ _ _ _ (by show _ ≠ w.heap.size + 1; omega)).trans ((Below.heap_setCell _ _ _ _ (by show _ ≠ w.heap.size; omega)).trans HKr.out)
     refine ⟨by simp, .inl ⟨_, _, rfl, run_takeDeferred hK2, ?_⟩⟩
     have hgb := grownBy_putObj' ((wr.setCell ⟨w.heap.size, 0, none⟩ (.slice A' L'.length c')).setCell ⟨w.heap.size + 1, 0, none⟩ (.bool true)) W0.heap.size (.deferred none)
     refine ⟨.tuple #[.slice A' L'.length c', .bool true], results_two Tryz.results219 ⟨_, rfl, load_prs (boxed_but ((HQ2r.out.set _).other (by omega) _) hgb (by omega))⟩ ⟨_, rfl, load_bool (boxed_but ((HQ3r.out.other (by omega) _).set _) hgb (by omega))⟩, ?_, ?_⟩
     ·rw [HQN.out, HR.out]
      exact ⟨A', c', out, true, by rw [hoj], rfl, HOu.out, (((HOw.out.other (p := ⟨w.heap.size, 0, none⟩) (by show w.heap.size < _; omega) _).other (p := ⟨w.heap.size + 1, 0, none⟩) (by show w.heap.size + 1 < _; omega) _).but hgb (by omega)).lower (by omega)⟩
     ·have h1 : ButS (fun k => w.heap.size ≤ k) w ((wr.setCell ⟨w.heap.size, 0, none⟩ (.slice A' L'.length c')).setCell ⟨w.heap.size + 1, 0, none⟩ (.bool true)) := (HBr.out.setCell (p := ⟨w.heap.size, 0, none⟩) (.inr (Nat.le_refl _)) _).setCell (p := ⟨w.heap.size + 1, 0, none⟩) (.inr (by show _ ≤ w.heap.size + 1; omega)) _
      exact (h1.trans (ButS.of_but hgb (.inr (by omega)))).toExt (fun k hk => by omega)
  ·refine .inr ⟨_, hrec, ?_⟩
   intro W'' hBut
   have HK : Hid (W''.heap[W0.heap.size]? = some (.deferred (some []))) := lh ((hBut.block _ (by omega) (fun e => by injection e; omega)).trans hD1)
   have hq2 := boxed_but hb2 hBut (by omega)
   have hq3 := boxed_but hb3 hBut (by omega)
   have k2 := hq2.cell
   have k3 := hq3.cell
   have HQ2 := lh hq2
   have HQ3 := lh hq3
   have HBu : Hid (ButS (fun k => w.heap.size ≤ k) w W'') := lh (HO1.out.trans (ButS.of_but hBut (.inr (by omega))))
   have HR := lh hno
   clear hb2 hb3 hrec hBut hno hq2 hq3 hD1 hD0 hB HOut hl0 b1 b2 b4 bmp bsx bsep bsv HO1 hM0
   gi_wp2
   refine ⟨by simp, .inl ⟨_, _, rfl, run_takeDeferred HK.out, ?_⟩⟩
   have hgb := grownBy_putObj' W'' W0.heap.size (.deferred none)
   refine ⟨.tuple #[.slice none 0 0, .bool false], results_two Tryz.results219 ⟨_, rfl, load_prs (boxed_but HQ2.out hgb (by omega))⟩ ⟨_, rfl, load_bool (boxed_but HQ3.out hgb (by omega))⟩, ?_, ?_⟩
   ·rw [HQN.out, HR.out]
    exact ⟨none, 0, [], false, rfl, rfl, rfl, Owns.nil _ _ _ _ _⟩
   ·exact (HBu.out.trans (ButS.of_but hgb (.inr (by omega)))).toExt (fun k hk => by omega)
end
end Go.Proofs.YtpojnhikgjcgmaaGreatDoor

namespace Go.Proofs.YtpojnhikgjcgmaaGreatDoor
open Go.RowKit Go.Shelf
open Go.Proofs
theorem pairs_any (s : ByteArray) (w : World) (hs : s.size ≤ 4096) : Calls Tryz.prog 219 #[.string s] w fun e w' => PrsU (Ad.quN (bsT s)) w.heap.size e w' ∧ Ext w w' := by
 by_cases h : bsT s = []
 ·exact pairs_none s w h
 ·exact pairs_some s w h hs
theorem canon_all (s : ByteArray) (w : World) (hs : s.size ≤ 900000) :
  Calls Tryz.prog 157 #[.string s] w fun e w' => e = .returned (.tuple #[.string ⟨(Ad.canonT (bsT s)).toArray⟩, .int .i64 (Ad.canonE (bsT s))]) ∧ Ext w w' :=
 canon_any s w hs (fun q W _ hq _ => pairs_any q W hq)
theorem r6cut_any (s : ByteArray) (sep : UInt8) (w : World) (hs : s.size ≤ 900000) :
  Calls Tryz.prog 208 #[.string s, .int .u8 sep.toNat] w fun e w' => CutIs sep s e ∧ Ext w w' := by
 have hsb := sep.toNat_lt
 go_enter Tryz.func208, Tryz.ntmps208
 go_wp2
 go_loopw [7] (fun i wr => ∃ k : Nat, i = .int .i64 k ∧ k ≤ s.size ∧ Hid (∀ j (hj : j < (bsT s).length), j < k → (bsT s)[j] ≠ sep) ∧ Hid (Ext w wr)) (fun i _ => s.size - (intOf i).toNat)
 case atStart => exact ⟨0, rfl, Nat.zero_le _, lh (fun j _ h => absurd h (by omega)), lh (eR _)⟩
 case round =>
  obtain ⟨k, rfl, hk, HN, HX⟩ := hrel
  by_cases hlt : k < s.size
  ·have hl : k < (bsT s).length := by rw [bsT_size]; exact hlt
   have hg : (bsT s)[k] = s[k] := by simp only [bsT, Array.getElem_toList]; rfl
   by_cases hc : s[k] = sep
   ·have hcc : ((s[k].toNat : Int) == (sep.toNat : Int)) = true := by rw [hc]; simp
    have HC : Hid (CutIs sep s (.returned (.tuple #[.string (s.extract 0 k), .string (s.extract (k + 1) s.size), .bool true]))) := lh ⟨_, _, _, rfl, by rw [bsT_take, bsT_rest, Ad.cutB_hit hl (hg.trans hc) HN.out], by rw [ByteArray.size_extract]; omega, by rw [ByteArray.size_extract]; omega⟩
    clear hc hg
    go_wp2
    refine wp_region_later (by kernel_rfl) (by kernel_rfl) ?_
    repeat (first | go_big_quiet_step (fail) | quiet_step (fail))
    refine wpQuiet_nil ?_
    rintro _ ⟨xq, rfl⟩
    go_wp2
    refine bodyPost_ret (v := .tuple #[.string (s.extract 0 k), .string (s.extract (k + 1) s.size), .bool true]) ?_ rfl ⟨HC.out, (by (with_reducible repeat first|exact HX.out|exact eR _|apply eD|apply eN|apply eA|apply eO|apply eS|apply eC);all_goals first|omega|simp <;> omega)⟩
    simp [results, Tryz.results208, go_sem]
   ·have hcc : ((s[k].toNat : Int) == (sep.toNat : Int)) = false := by
     rw [beq_eq_false_iff_ne]
     exact fun h => hc (UInt8.toNat_inj.1 (by omega))
    have HN2 : Hid (∀ j (hj : j < (bsT s).length), j < k + 1 → (bsT s)[j] ≠ sep) := lh (fun j hj h => by
     by_cases e : j = k
     ·subst e; rw [hg]; exact hc
     ·exact HN.out j hj (by omega))
    clear hc hg HN
    go_wp2
    go_roundw
    case rel => exact ⟨k + 1, by go_num, by omega, HN2, HX⟩
    case measure => simp [intOf]; omega
  ·have HC : Hid (CutIs sep s (.returned (.tuple #[.string s, .string ByteArray.empty, .bool false]))) := lh ⟨_, _, _, rfl, by
    rw [Ad.cutB_miss (fun hm => by
     obtain ⟨j, hj, e⟩ := List.mem_iff_getElem.1 hm
     exact HN.out j hj (by rw [bsT_size] at hj; omega) e)]
    rfl, Nat.le_refl _, Nat.zero_le _⟩
   clear HN
   go_wp2
   refine bodyPost_ret (v := .tuple #[.string s, .string ByteArray.empty, .bool false]) ?_ rfl ⟨HC.out, (by (with_reducible repeat first|exact HX.out|exact eR _|apply eD|apply eN|apply eA|apply eO|apply eS|apply eC);all_goals first|omega|simp <;> omega)⟩
   simp [results, Tryz.results208, go_sem]
   rfl
attribute [local go_sem] strConv
theorem rsmall_any (s : ByteArray) (w : World) (hs : s.size ≤ 900000) :
  Calls Tryz.prog 209 #[.string s] w fun e w' => SmallIs s e ∧ Ext w w' := by
 have hbl := bts_length s
 have hbb := lh (bts_byte s)
 have hba := lh (bytes_at w 5 s)
 go_enter Tryz.func209, Tryz.ntmps209
 go_wp2
 refine wp_world (fun W => Ext w W ∧ ByteAt W w.heap.size (lowTo (bts s) 0)) ⟨ext_bytes _ _ _, by rw [lowTo_zero]; exact hba.out⟩ ?_
 rintro W1 ⟨x1, b1⟩
 have HX1 := lh x1
 have HB1 := lh b1
 clear x1 b1
 generalize grownCap w s.size 0 5 = gc
 go_loopw [4] (fun i wr => ∃ k : Nat, k ≤ s.size ∧ i = .int .i64 k ∧ Hid (ByteAt wr w.heap.size (lowTo (bts s) k)) ∧ Hid (Ext w wr)) (fun i _ => s.size - (intOf i).toNat)
 case atStart => exact ⟨0, Nat.zero_le _, rfl, HB1, HX1⟩
 case round =>
  obtain ⟨k, hk, rfl, HB, HX⟩ := hrel
  clear HX1 HB1
  have hlt0 := HB.out.1
  by_cases hlt : k < s.size
  ·have hc := (HB.out.2 k (by rw [lowTo_len]; omega)).1
   have hf := (HB.out.2 k (by rw [lowTo_len]; omega)).2
   rw [lowTo_at _ _ (by omega)] at hc
   have hby := getD_byte hbb.out k
   have HN := lh (fun h => ByteAt.lowKeep HB.out (by omega) h)
   have HL := lh (fun u h => ByteAt.low HB.out (by omega) u h)
   generalize (bts s).getD k 0 = x at *
   obtain ⟨hx0, hx1⟩ := hby
   by_cases h1 : 65 ≤ x
   ·have d1 : decide (65 ≤ x) = true := by simpa using h1
    by_cases h2 : x ≤ 90
    ·have d2 : decide (x ≤ 90) = true := by simpa using h2
     have HB2 := lh (HL.out (x + 32) (by unfold lowZ; rw [if_pos ⟨h1, h2⟩]))
     clear HN HL
     go_wp2
     go_roundw
     case rel => exact ⟨k + 1, by omega, by go_num, HB2, lh (HX.out.setCell (Nat.le_refl _) _)⟩
     case measure => simp [intOf]; omega
    ·have d2 : decide (x ≤ 90) = false := by simpa using h2
     have HB2 := lh (HN.out (by unfold lowZ; rw [if_neg (by omega)]))
     clear HN HL
     go_wp2
     go_roundw
     case rel => exact ⟨k + 1, by omega, by go_num, HB2, HX⟩
     case measure => simp [intOf]; omega
   ·have d1 : decide (65 ≤ x) = false := by simpa using h1
    have HB2 := lh (HN.out (by unfold lowZ; rw [if_neg (by omega)]))
    clear HN HL
    go_wp2
    go_roundw
    case rel => exact ⟨k + 1, by omega, by go_num, HB2, HX⟩
    case measure => simp [intOf]; omega
  ·have e : k = s.size := by omega
   subst e
   have HB2 : Hid (ByteAt wr w.heap.size ((bts s).map lowZ)) := lh (by rw [← lowTo_all, hbl]; exact HB.out)
   by_cases h0 : s.size = 0
   ·have HS : Hid (SmallIs s (.returned (.string ByteArray.empty))) := lh ⟨_, rfl, lows_nil h0, h0.symm⟩
    have hcv := conv_nobytes wr (some ⟨w.heap.size, 0, none⟩) gc
    rw [h0]
    clear hbl
    go_wp2
    go_ret
    exact ⟨HS.out, HX.out⟩
   ·have HS : Hid (SmallIs s (.returned (.string (strOfNums ((bts s).map lowZ))))) := lh ⟨_, rfl, lows_bs s, lows_size s⟩
    have hl2 : ((bts s).map lowZ).length = s.size := by rw [List.length_map, hbl]
    have hcv := conv_bytes gc HB2.out.reads (by omega)
    rw [hl2] at hcv
    clear hbl hl2
    go_wp2
    go_ret
    exact ⟨HS.out, HX.out⟩
end Go.Proofs.YtpojnhikgjcgmaaGreatDoor

namespace Go.Proofs.YtpojnhikgjcgmaaGreatDoor.Ad
open Go
def putStep (p : Pr) (st : List Pr × Bool) (x : Pr) : List Pr × Bool :=
 if st.2 = false ∧ p.1 ≤ x.1 then if x.1 = p.1 then (st.1 ++ [p], true) else (st.1 ++ [p] ++ [x], true)
 else if x.1 = p.1 then st else (st.1 ++ [x], st.2)
theorem put_true (p : Pr) : ∀ (l : List Pr) (out : List Pr), (∀ x ∈ l, p.1 < x.1) → l.foldl (putStep p) (out, true) = (out ++ l, true)
 | [], out, _ => by simp
 | q :: r, out, h => by
  have hq := h q (by simp)
  have hne : ¬ q.1 = p.1 := fun e => by rw [e] at hq; exact List.lt_irrefl _ hq
  rw [List.foldl_cons, show putStep p (out, true) q = (out ++ [q], true) by simp [putStep, hne], put_true p r _ (fun x hx => h x (List.mem_cons_of_mem _ hx))]
  simp
theorem put_false (p : Pr) : ∀ (l : List Pr) (out : List Pr), AscP l → (l.foldl (putStep p) (out, false)).1 ++ (if (l.foldl (putStep p) (out, false)).2 then [] else [p]) = out ++ putP p l
 | [], out, _ => by simp [putP]
 | q :: r, out, h => by
  have hq := List.pairwise_cons.1 h
  have hr : ∀ x ∈ r, q.1 < x.1 := fun x hx => hq.1 _ (List.mem_map_of_mem hx)
  rw [List.foldl_cons]
  by_cases h1 : p.1 < q.1
  ·have hne : ¬ q.1 = p.1 := fun e => by rw [e] at h1; exact List.lt_irrefl _ h1
   have hle : p.1 ≤ q.1 := List.le_of_lt h1
   rw [show putStep p (out, false) q = (out ++ [p] ++ [q], true) by simp [putStep, hne, hle], put_true p r _ (fun x hx => List.lt_trans h1 (hr x hx))]
   simp [putP, h1]
  ·by_cases h2 : p.1 = q.1
   ·rw [show putStep p (out, false) q = (out ++ [p], true) by simp [putStep, h2], put_true p r _ (fun x hx => by rw [h2]; exact hr x hx)]
    simp [putP, h1, h2]
   ·have hlt := lt_of h1 h2
    have hnle : ¬ p.1 ≤ q.1 := fun hle => h2 (List.le_antisymm hle (List.le_of_lt hlt))
    have hne : ¬ q.1 = p.1 := fun e => h2 e.symm
    rw [show putStep p (out, false) q = (out ++ [q], false) by simp [putStep, hne, hnle], put_false p r _ hq.2]
    simp [putP, h1, h2]
end Go.Proofs.YtpojnhikgjcgmaaGreatDoor.Ad
namespace Go.Proofs.YtpojnhikgjcgmaaGreatDoor
open Go.RowKit Go.Shelf
open Go.Proofs
theorem put_take (l : List PrB) (p : Ad.Pr) (k : Nat) (h : k < l.length) : ((l.take (k + 1)).map prB).foldl (Ad.putStep p) ([], false) = Ad.putStep p (((l.take k).map prB).foldl (Ad.putStep p) ([], false)) (prB l[k]) := by
 rw [List.take_succ_eq_append_getElem h, List.map_append, List.foldl_append]
 rfl
def PutRel (w W1 : World) (l : List PrB) (s : PrB) (o b i : Value) (wr : World) : Prop := ∃ (A : Option Addr) (c : Nat) (out : List PrB) (put : Bool) (k : Nat), o = .slice A out.length c ∧ b = .bool put ∧ i = .int .i64 k ∧ k ≤ l.length ∧ out.length ≤ k + k ∧
 Hid ((out.map prB, put) = ((l.take k).map prB).foldl (Ad.putStep (prB s)) ([], false)) ∧ Hid (OwnsPr (w.heap.size + 1) wr A c out) ∧ Hid (Ext W1 wr)
theorem r6put_any (A0 : Option Addr) (c0 : Nat) (l : List PrB) (s : PrB) (w : World) (hl : l.length ≤ 900000) (hr : ReadsPr w w.heap.size A0 l) (ha : Ad.AscP (l.map prB)) :
  Calls Tryz.prog 257 #[.slice A0 l.length c0, .agg #[.string s.1, .string s.2]] w fun e w' => ∃ A c out, e = .returned (.slice A out.length c) ∧ out.map prB = Ad.putP (prB s) (l.map prB) ∧ OwnsPr w.heap.size w' A c out ∧ Ext w w' := by
 have HR := lh hr
 have HAs := lh ha
 clear hr ha
 go_enter Tryz.func257, Tryz.ntmps257
 go_wp2
 refine wp_world (fun W => Ext w W ∧ W.heap.size = w.heap.size + 1 ∧ W.cell? ⟨w.heap.size, 0, none⟩ = some (.string s.1) ∧ W.cell? ⟨w.heap.size, 1, none⟩ = some (.string s.2)) ⟨(by (with_reducible repeat first|exact eR _|apply eD|apply eN|apply eA|apply eO|apply eS|apply eC);all_goals first|omega|simp <;> omega), by simp, by rw [alloc_cell_if, if_pos rfl]; rfl, by rw [alloc_cell_if, if_pos rfl]; rfl⟩ ?_
 rintro W1 ⟨hx1, hsz1, p10, p20⟩
 have HX1 := lh hx1
 have HP1 := lh p10
 have HP2 := lh p20
 clear hx1 p10 p20
 go_loopw [5, 6, 7] (PutRel w W1 l s) (fun _ _ i _ => l.length - (intOf i).toNat)
 case atStart => exact ⟨none, 0, [], false, 0, rfl, rfl, rfl, Nat.zero_le _, Nat.le_refl _, lh rfl, lh (Owns.nil _ _ _ _ _), lh (eR _)⟩
 case round =>
  obtain ⟨A, c, out, put, k, rfl, rfl, rfl, hk, hok, HF, HO, HX⟩ := hrel
  have hsz := HX.out.size
  have p1 : wr.cell? ⟨w.heap.size, 0, none⟩ = some (.string s.1) := (HX.out.cell (p := ⟨w.heap.size, 0, none⟩) (by show w.heap.size < _; omega)).trans HP1.out
  have p2 : wr.cell? ⟨w.heap.size, 1, none⟩ = some (.string s.2) := (HX.out.cell (p := ⟨w.heap.size, 1, none⟩) (by show w.heap.size < _; omega)).trans HP2.out
  by_cases hlt : k < l.length
  ·obtain ⟨b, off, rfl, hb, d1, d2⟩ := ReadsPr.cell (HR.out.ext (HX1.out.trans HX.out) (Nat.le_refl _)) k hlt
   have hst := put_take l (prB s) k hlt
   rw [← HF.out] at hst
   generalize l[k] = x at *
   have HLE := lh (le_walk s.1 x.1)
   have HNE := lh (eq_walk x.1 s.1)
   by_cases h1 : put = false ∧ bsT s.1 ≤ bsT x.1
   ·obtain ⟨rfl, h2⟩ := h1
    have e1 : (Op.bytesLess s.1.toList x.1.toList || s.1.toList == x.1.toList) = true := by rw [HLE.out]; simpa using h2
    by_cases h3 : bsT x.1 = bsT s.1
    ·have e2 : (x.1.toList == s.1.toList) = true := by rw [HNE.out]; simpa using h3
     have HS : Hid (((l.take (k + 1)).map prB).foldl (Ad.putStep (prB s)) ([], false) = ((out ++ [s]).map prB, true)) := lh (by rw [hst]; simp [Ad.putStep, prB, h3])
     clear hst h2 h3
     go_wp2
     refine wp_region_later (by kernel_rfl) (by kernel_rfl) ?_
     repeat (first | go_big_quiet_step (fail) | quiet_step (fail))
     refine wpQuiet_nil ?_
     rintro _ ⟨xq, rfl⟩
     have HXq := lh (HX.out.onto xq)
     have HOq := lh (HO.out.later xq)
     replace p1 := ((ext_later _ xq).cell (p := ⟨w.heap.size, 0, none⟩) (by show w.heap.size < _; omega)).trans p1
     replace p2 := ((ext_later _ xq).cell (p := ⟨w.heap.size, 1, none⟩) (by show w.heap.size < _; omega)).trans p2
     replace d1 := ((ext_later _ xq).cell (p := ⟨b, off + k * 2, none⟩) (by show b < _; omega)).trans d1
     replace d2 := ((ext_later _ xq).cell (p := ⟨b, off + k * 2 + 1, none⟩) (by show b < _; omega)).trans d2
     have hszq := HXq.out.size
     go_wp2_with (at_builtin; refine (show Hid _ from ?_).out)
     refine lh ?_
     refine app_from prT prE rfl _ _ rfl (w.heap.size + 1) _ _ out rfl (HOq.out.alloc _) _ 1 _ [s] rfl rfl (new_cellsAt (by first | rfl | exact (later_size _ _).symm) _ _) (by omega) (by omega) (by first | omega | (simp [later_size]; omega)) ?_
     intro A2 c2 l2 w2 HL hO9 hB9 hl1 hl2 _
     have HO2 := lh hO9
     have HB2 := lh hB9
     have hszx := hB9.size
     rw [World.size_alloc] at hszx
     clear hO9
     have r1 := (hB9.cell (p := ⟨w.heap.size, 0, none⟩) (by show w.heap.size < w.heap.size + 1; omega)).trans (Lib.cell?_alloc_some _ p1)
     have r2 := (hB9.cell (p := ⟨w.heap.size, 1, none⟩) (by show w.heap.size < w.heap.size + 1; omega)).trans (Lib.cell?_alloc_some _ p2)
     have r3 := (hB9.cell (p := ⟨b, off + k * 2, none⟩) (by show b < w.heap.size + 1; omega)).trans (Lib.cell?_alloc_some _ d1)
     have r4 := (hB9.cell (p := ⟨b, off + k * 2 + 1, none⟩) (by show b < w.heap.size + 1; omega)).trans (Lib.cell?_alloc_some _ d2)
     clear p1 p2 d1 d2 hB9
     have p1 := r1
     have p2 := r2
     have d1 := r3
     have d2 := r4
     clear r1 r2 r3 r4
     have HX2 : Hid (Ext W1 w2) := lh ((HXq.out.alloc _).grown HB2.out (by omega))
     go_wp2
     refine wp_region_later (by kernel_rfl) (by kernel_rfl) ?_
     repeat (first | go_big_quiet_step (fail) | quiet_step (fail))
     refine wpQuiet_nil ?_
     rintro _ ⟨xq, rfl⟩
     have HXq2 := lh (HX2.out.onto xq)
     have HOq2 := lh (HO2.out.later xq)
     replace p1 := ((ext_later _ xq).cell (p := ⟨w.heap.size, 0, none⟩) (by show w.heap.size < _; omega)).trans p1
     replace p2 := ((ext_later _ xq).cell (p := ⟨w.heap.size, 1, none⟩) (by show w.heap.size < _; omega)).trans p2
     replace d1 := ((ext_later _ xq).cell (p := ⟨b, off + k * 2, none⟩) (by show b < _; omega)).trans d1
     replace d2 := ((ext_later _ xq).cell (p := ⟨b, off + k * 2 + 1, none⟩) (by show b < _; omega)).trans d2
     have hszq := HXq2.out.size
     go_wp2
     go_roundw
     case rel => exact ⟨A2, c2, l2, true, k + 1, rfl, rfl, by go_num, by omega, by (try simp at hl1 hl2); omega, by rw [HL.out]; exact lh HS.out.symm, HOq2, HXq2⟩
     case measure => simp [intOf]; omega
    ·have e2 : (x.1.toList == s.1.toList) = false := by rw [HNE.out]; simpa using h3
     have HS : Hid (((l.take (k + 1)).map prB).foldl (Ad.putStep (prB s)) ([], false) = ((out ++ [s] ++ [x]).map prB, true)) := lh (by rw [hst]; simp [Ad.putStep, prB, h2, h3])
     clear hst h2 h3
     go_wp2
     refine wp_region_later (by kernel_rfl) (by kernel_rfl) ?_
     repeat (first | go_big_quiet_step (fail) | quiet_step (fail))
     refine wpQuiet_nil ?_
     rintro _ ⟨xq, rfl⟩
     have HXq := lh (HX.out.onto xq)
     have HOq := lh (HO.out.later xq)
     replace p1 := ((ext_later _ xq).cell (p := ⟨w.heap.size, 0, none⟩) (by show w.heap.size < _; omega)).trans p1
     replace p2 := ((ext_later _ xq).cell (p := ⟨w.heap.size, 1, none⟩) (by show w.heap.size < _; omega)).trans p2
     replace d1 := ((ext_later _ xq).cell (p := ⟨b, off + k * 2, none⟩) (by show b < _; omega)).trans d1
     replace d2 := ((ext_later _ xq).cell (p := ⟨b, off + k * 2 + 1, none⟩) (by show b < _; omega)).trans d2
     have hszq := HXq.out.size
     go_wp2_with (at_builtin; refine (show Hid _ from ?_).out)
     refine lh ?_
     refine app_from prT prE rfl _ _ rfl (w.heap.size + 1) _ _ out rfl (HOq.out.alloc _) _ 1 _ [s] rfl rfl (new_cellsAt (by first | rfl | exact (later_size _ _).symm) _ _) (by omega) (by omega) (by first | omega | (simp [later_size]; omega)) ?_
     intro A2 c2 l2 w2 HL hO9 hB9 hl1 hl2 _
     have HO2 := lh hO9
     have HB2 := lh hB9
     have hszx := hB9.size
     rw [World.size_alloc] at hszx
     clear hO9
     have r1 := (hB9.cell (p := ⟨w.heap.size, 0, none⟩) (by show w.heap.size < w.heap.size + 1; omega)).trans (Lib.cell?_alloc_some _ p1)
     have r2 := (hB9.cell (p := ⟨w.heap.size, 1, none⟩) (by show w.heap.size < w.heap.size + 1; omega)).trans (Lib.cell?_alloc_some _ p2)
     have r3 := (hB9.cell (p := ⟨b, off + k * 2, none⟩) (by show b < w.heap.size + 1; omega)).trans (Lib.cell?_alloc_some _ d1)
     have r4 := (hB9.cell (p := ⟨b, off + k * 2 + 1, none⟩) (by show b < w.heap.size + 1; omega)).trans (Lib.cell?_alloc_some _ d2)
     clear p1 p2 d1 d2 hB9
     have p1 := r1
     have p2 := r2
     have d1 := r3
     have d2 := r4
     clear r1 r2 r3 r4
     have HX2 : Hid (Ext W1 w2) := lh ((HXq.out.alloc _).grown HB2.out (by omega))
     go_wp2
     refine wp_region_later (by kernel_rfl) (by kernel_rfl) ?_
     repeat (first | go_big_quiet_step (fail) | quiet_step (fail))
     refine wpQuiet_nil ?_
     rintro _ ⟨xq, rfl⟩
     have HXq2 := lh (HX2.out.onto xq)
     have HOq2 := lh (HO2.out.later xq)
     replace p1 := ((ext_later _ xq).cell (p := ⟨w.heap.size, 0, none⟩) (by show w.heap.size < _; omega)).trans p1
     replace p2 := ((ext_later _ xq).cell (p := ⟨w.heap.size, 1, none⟩) (by show w.heap.size < _; omega)).trans p2
     replace d1 := ((ext_later _ xq).cell (p := ⟨b, off + k * 2, none⟩) (by show b < _; omega)).trans d1
     replace d2 := ((ext_later _ xq).cell (p := ⟨b, off + k * 2 + 1, none⟩) (by show b < _; omega)).trans d2
     have hszq := HXq2.out.size
     try simp at hl1 hl2
     go_wp2_with (at_builtin; refine (show Hid _ from ?_).out)
     refine lh ?_
     refine app_from prT prE rfl _ _ rfl (w.heap.size + 1) _ _ l2 rfl (HOq2.out.alloc _) _ 1 _ [x] rfl rfl (new_cellsAt (by first | rfl | exact (later_size _ _).symm) _ _) (by omega) (by omega) (by first | omega | (simp [later_size]; omega)) ?_
     intro A3 c3 l3 w3 HL3 hO9 hB9 hl3 hl4 _
     have HO3 := lh hO9
     have HB3 := lh hB9
     have hszx := hB9.size
     rw [World.size_alloc] at hszx
     clear hO9
     clear hB9
     go_wp2
     go_roundw
     case rel => exact ⟨A3, c3, l3, true, k + 1, rfl, rfl, by go_num, by omega, by (try simp at hl3 hl4); omega, by rw [HL3.out, HL.out]; exact lh HS.out.symm, HO3, lh ((HXq2.out.alloc _).grown HB3.out (by omega))⟩
     case measure => simp [intOf]; omega
   ·by_cases h3 : bsT x.1 = bsT s.1
    ·have e2 : (x.1.toList == s.1.toList) = true := by rw [HNE.out]; simpa using h3
     have HS : Hid (((l.take (k + 1)).map prB).foldl (Ad.putStep (prB s)) ([], false) = (out.map prB, put)) := lh (by rw [hst]; unfold Ad.putStep; rw [if_neg (by simpa [prB] using h1), if_pos (by simpa [prB] using h3)])
     cases put with
     | true =>
      clear hst h1 h3
      go_wp2
      refine wp_region_later (by kernel_rfl) (by kernel_rfl) ?_
      repeat (first | go_big_quiet_step (fail) | quiet_step (fail))
      refine wpQuiet_nil ?_
      rintro _ ⟨xq, rfl⟩
      rename Later => xa
      go_wp2
      refine wp_region_later (by kernel_rfl) (by kernel_rfl) ?_
      repeat (first | go_big_quiet_step (fail) | quiet_step (fail))
      refine wpQuiet_nil ?_
      rintro _ ⟨xq, rfl⟩
      have HXq2 := lh ((HX.out.onto xa).onto xq)
      have HOq2 := lh ((HO.out.later xa).later xq)
      have hszq := HXq2.out.size
      go_wp2
      go_roundw
      case rel => exact ⟨A, c, out, true, k + 1, rfl, rfl, by go_num, by omega, by omega, lh HS.out.symm, HOq2, HXq2⟩
      case measure => simp [intOf]; omega
     | false =>
      have e1 : (Op.bytesLess s.1.toList x.1.toList || s.1.toList == x.1.toList) = false := by rw [HLE.out]; simpa using h1
      clear hst h1 h3
      go_wp2
      refine wp_region_later (by kernel_rfl) (by kernel_rfl) ?_
      repeat (first | go_big_quiet_step (fail) | quiet_step (fail))
      refine wpQuiet_nil ?_
      rintro _ ⟨xq, rfl⟩
      rename Later => xa
      go_wp2
      refine wp_region_later (by kernel_rfl) (by kernel_rfl) ?_
      repeat (first | go_big_quiet_step (fail) | quiet_step (fail))
      refine wpQuiet_nil ?_
      rintro _ ⟨xq, rfl⟩
      have HXq2 := lh ((HX.out.onto xa).onto xq)
      have HOq2 := lh ((HO.out.later xa).later xq)
      have hszq := HXq2.out.size
      go_wp2
      go_roundw
      case rel => exact ⟨A, c, out, false, k + 1, rfl, rfl, by go_num, by omega, by omega, lh HS.out.symm, HOq2, HXq2⟩
      case measure => simp [intOf]; omega
    ·have e2 : (x.1.toList == s.1.toList) = false := by rw [HNE.out]; simpa using h3
     have HS : Hid (((l.take (k + 1)).map prB).foldl (Ad.putStep (prB s)) ([], false) = ((out ++ [x]).map prB, put)) := lh (by rw [hst]; unfold Ad.putStep; rw [if_neg (by simpa [prB] using h1), if_neg (by simpa [prB] using h3), List.map_append, List.map_singleton])
     cases put with
     | true =>
      clear hst h1 h3
      go_wp2
      refine wp_region_later (by kernel_rfl) (by kernel_rfl) ?_
      repeat (first | go_big_quiet_step (fail) | quiet_step (fail))
      refine wpQuiet_nil ?_
      rintro _ ⟨xq, rfl⟩
      rename Later => xa
      go_wp2
      refine wp_region_later (by kernel_rfl) (by kernel_rfl) ?_
      repeat (first | go_big_quiet_step (fail) | quiet_step (fail))
      refine wpQuiet_nil ?_
      rintro _ ⟨xq, rfl⟩
      have HXq2 := lh ((HX.out.onto xa).onto xq)
      have HOq2 := lh ((HO.out.later xa).later xq)
      have hszq := HXq2.out.size
      go_wp2_with (at_builtin; refine (show Hid _ from ?_).out)
      refine lh ?_
      refine app_from prT prE rfl _ _ rfl (w.heap.size + 1) _ _ out rfl (HOq2.out.alloc _) _ 1 _ [x] rfl rfl (new_cellsAt (by first | rfl | exact (later_size _ _).symm) _ _) (by omega) (by omega) (by first | omega | (simp [later_size]; omega)) ?_
      intro A2 c2 l2 w2 HL hO9 hB9 hl1 hl2 _
      have HO2 := lh hO9
      have HB2 := lh hB9
      have hszx := hB9.size
      rw [World.size_alloc] at hszx
      clear hO9
      clear hB9
      go_wp2
      go_roundw
      case rel => exact ⟨A2, c2, l2, true, k + 1, rfl, rfl, by go_num, by omega, by (try simp at hl1 hl2); omega, by rw [HL.out]; exact lh HS.out.symm, HO2, lh ((HXq2.out.alloc _).grown HB2.out (by omega))⟩
      case measure => simp [intOf]; omega
     | false =>
      have e1 : (Op.bytesLess s.1.toList x.1.toList || s.1.toList == x.1.toList) = false := by rw [HLE.out]; simpa using h1
      clear hst h1 h3
      go_wp2
      refine wp_region_later (by kernel_rfl) (by kernel_rfl) ?_
      repeat (first | go_big_quiet_step (fail) | quiet_step (fail))
      refine wpQuiet_nil ?_
      rintro _ ⟨xq, rfl⟩
      rename Later => xa
      go_wp2
      refine wp_region_later (by kernel_rfl) (by kernel_rfl) ?_
      repeat (first | go_big_quiet_step (fail) | quiet_step (fail))
      refine wpQuiet_nil ?_
      rintro _ ⟨xq, rfl⟩
      have HXq2 := lh ((HX.out.onto xa).onto xq)
      have HOq2 := lh ((HO.out.later xa).later xq)
      have hszq := HXq2.out.size
      go_wp2_with (at_builtin; refine (show Hid _ from ?_).out)
      refine lh ?_
      refine app_from prT prE rfl _ _ rfl (w.heap.size + 1) _ _ out rfl (HOq2.out.alloc _) _ 1 _ [x] rfl rfl (new_cellsAt (by first | rfl | exact (later_size _ _).symm) _ _) (by omega) (by omega) (by first | omega | (simp [later_size]; omega)) ?_
      intro A2 c2 l2 w2 HL hO9 hB9 hl1 hl2 _
      have HO2 := lh hO9
      have HB2 := lh hB9
      have hszx := hB9.size
      rw [World.size_alloc] at hszx
      clear hO9
      clear hB9
      go_wp2
      go_roundw
      case rel => exact ⟨A2, c2, l2, false, k + 1, rfl, rfl, by go_num, by omega, by (try simp at hl1 hl2); omega, by rw [HL.out]; exact lh HS.out.symm, HO2, lh ((HXq2.out.alloc _).grown HB2.out (by omega))⟩
      case measure => simp [intOf]; omega
  ·have e : k = l.length := by omega
   subst e
   rw [List.take_length] at HF
   have hi := Ad.put_false (prB s) (l.map prB) [] HAs.out
   rw [← HF.out, List.nil_append] at hi
   cases put with
   | true =>
    have HI : Hid (out.map prB = Ad.putP (prB s) (l.map prB)) := lh (by simpa using hi)
    clear hi
    go_wp2
    go_ret
    exact ⟨A, c, out, rfl, HI.out, HO.out.lower (by omega), HX1.out.trans HX.out⟩
   | false =>
    have HI : Hid ((out ++ [s]).map prB = Ad.putP (prB s) (l.map prB)) := lh (by simpa using hi)
    clear hi
    go_wp2_with (at_builtin; refine (show Hid _ from ?_).out)
    refine lh ?_
    refine app_from prT prE rfl _ _ rfl (w.heap.size + 1) _ _ out rfl (HO.out.alloc _) _ 1 _ [s] rfl rfl (new_cellsAt (by first | rfl | exact (later_size _ _).symm) _ _) (by omega) (by omega) (by first | omega | (simp [later_size]; omega)) ?_
    intro A2 c2 l2 w2 HL hO9 hB9 hl1 hl2 _
    have HO2 := lh hO9
    have HB2 := lh hB9
    have hszx := hB9.size
    rw [World.size_alloc] at hszx
    clear hO9
    clear hB9
    go_wp2
    go_ret
    exact ⟨A2, c2, l2, rfl, by rw [HL.out]; exact HI.out, HO2.out.lower (by omega), HX1.out.trans ((HX.out.alloc _).grown HB2.out (by omega))⟩
end Go.Proofs.YtpojnhikgjcgmaaGreatDoor

namespace Go.Proofs.YtpojnhikgjcgmaaGreatDoor
open Go.RowKit Go.Shelf
open Go.Proofs
def QuRel (w : World) (ls : List ByteArray) (o i : Value) (wr : World) : Prop := ∃ (A : Option Addr) (c : Nat) (qs : List PrB) (k : Nat), o = .slice A qs.length c ∧ i = .int .i64 k ∧ k ≤ ls.length ∧ qs.length ≤ k ∧
 Hid (Ad.qAll ((ls.map bsT).take k) = some (qs.map prB)) ∧ Hid (OwnsPr w.heap.size wr A c qs) ∧ Hid (Ext w wr)
theorem rquery_any (s : ByteArray) (w : World) (hs : s.size ≤ 4096) :
  Calls Tryz.prog 211 #[.string s] w fun e w' => PrsU (Ad.quN (bsT s)) w.heap.size e w' ∧ Ext w w' := by
 by_cases h0 : bsT s = []
 ·have hs0 : (s.toList == []) = true := by rw [Lib.toList_data]; rw [show s.data.toList = [] from h0]; rfl
  have hs1 : s.toList.isEmpty = true := by rw [Lib.toList_data]; rw [show s.data.toList = [] from h0]; rfl
  have HQ : Hid (Ad.quN (bsT s) = some []) := lh (by rw [h0]; rfl)
  clear h0
  go_enter Tryz.func211, Tryz.ntmps211
  go_wp2
  refine bodyPost_ret (v := .tuple #[.slice none 0 0, .bool true]) ?_ rfl ⟨⟨none, 0, [], true, rfl, by rw [HQ.out]; rfl, by rw [HQ.out]; rfl, Owns.nil _ _ _ _ _⟩, (by (with_reducible repeat first|exact eR _|apply eD|apply eN|apply eA|apply eO|apply eS|apply eC);all_goals first|omega|simp <;> omega)⟩
  simp [results, Tryz.results211, go_sem]
 ·have hs0 : (s.toList == []) = false := by rw [Lib.toList_data]; simpa [bsT] using h0
  have hs1 : s.toList.isEmpty = false := by rw [Lib.toList_data]; simpa [bsT] using h0
  have HQN : Hid (Ad.quN (bsT s) = Ad.qAll (Ad.pieces 38 (bsT s))) := lh (by unfold Ad.quN; rw [if_neg h0])
  have HSp := lh (fun W => rsplit_any s 38 W (by omega))
  clear h0
  go_enter Tryz.func211, Tryz.ntmps211
  go_wp2_with (go_at_call 175; refine (HSp.out _).mono ?_; rintro e w1 ⟨A1, c1, ls, rfl, hcut, ho1, hl1, hx1⟩; have HO1 := lh ho1; have HX1 := lh hx1; have HCu := lh (Ad.pieces_of hcut); clear hcut ho1 hx1)
  go_loopw [4, 6] (QuRel w1 ls) (fun _ i _ => ls.length - (intOf i).toNat)
  case atStart => exact ⟨none, 0, [], 0, rfl, rfl, Nat.zero_le _, Nat.le_refl _, lh rfl, lh (Owns.nil _ _ _ _ _), lh (eR _)⟩
  case round =>
   obtain ⟨A', c', qs, k, rfl, rfl, hk, hqk, HL, HO, HX⟩ := hrel
   have hsz := HX.out.size
   by_cases hlt : k < ls.length
   ·obtain ⟨b, off, rfl, hb, d1⟩ := ReadsStr.cell ((HO1.out.reads sE).ext HX.out (Nat.le_refl _)) k hlt
    have hltm : k < (ls.map bsT).length := by rw [List.length_map]; exact hlt
    have HSt : Hid (Ad.qAll ((ls.map bsT).take (k + 1)) = Ad.qIn (qs.map prB) (bsT ls[k])) := lh (by rw [q_take hltm HL.out, List.getElem_map])
    have HStop : Hid (Ad.qIn (qs.map prB) (bsT ls[k]) = none → Ad.qAll (Ad.pieces 38 (bsT s)) = none) := lh (fun h => by rw [← HCu.out]; exact q_stop (HSt.out.trans h))
    have HA : Hid (Ad.AscP (qs.map prB)) := lh (Ad.qAll_ok _ [] _ HL.out (by simp [Ad.AscP]) (by simp)).1
    have hxs : (ls[k]).size ≤ 4096 := by
     have h1 := piece_le 38 (bsT s) (bsT ls[k]) (by rw [← HCu.out]; exact List.mem_map_of_mem (List.getElem_mem hlt))
     rw [bsT_size, bsT_size] at h1
     omega
    generalize ls[k] = x at *
    go_wp2_with (go_at_call 208; refine (show Hid _ from ?_).out)
    refine lh ?_
    refine (r6cut_any x 61 _ (by omega)).mono ?_
    rintro e w' ⟨⟨a, b, f, rfl, hc, has, hbs⟩, hxl⟩
    obtain ⟨xm, rfl⟩ := hxl.asLater
    clear hxl
    have HNm := lh (fun W => rname_any a W (by omega))
    have HWd := lh (fun W => rword_any b W (by omega))
    have HPo : Hid (Ad.pairOf (bsT x) = if f = true ∧ Tg.nameB (bsT a) = true ∧ Tg.wordB (bsT b) = true then some (bsT a, bsT b) else none) := lh (by unfold Ad.pairOf; rw [← hc])
    clear hc
    cases f with
    | false =>
     have HFl := lh (HStop.out (by unfold Ad.qIn; rw [HPo.out]; rfl))
     clear HStop HSt HPo HNm HWd
     go_wp2
     refine bodyPost_ret (v := .tuple #[.slice none 0 0, .bool false]) ?_ rfl ⟨⟨none, 0, [], false, rfl, by rw [HQN.out, HFl.out]; rfl, by rw [HQN.out, HFl.out]; rfl, Owns.nil _ _ _ _ _⟩, (by (with_reducible repeat first|exact (HX1.out.trans HX.out)|exact eR _|apply eD|apply eN|apply eA|apply eO|apply eS|apply eC);all_goals first|omega|simp <;> omega)⟩
     simp [results, Tryz.results211, go_sem]
    | true =>
     cases hn : Tg.nameB (bsT a) with
     | false =>
      have hn' : Tg.nameB a.data.toList = false := hn
      rw [hn'] at HNm
      have HFl := lh (HStop.out (by unfold Ad.qIn; rw [HPo.out, hn]; rfl))
      clear HStop HSt HPo HWd hn hn'
      go_wp2_with (first
       | (go_at_call 110; refine (HNm.out _).mono ?_; rintro e w' ⟨rfl, hxl⟩; obtain ⟨xn, rfl⟩ := hxl.asLater; clear hxl)
       | (go_at_call 160; refine (HWd.out _).mono ?_; rintro e w' ⟨rfl, hxl⟩; obtain ⟨xo, rfl⟩ := hxl.asLater; clear hxl)
       | (go_at_call 257; refine (show Hid _ from ?_).out))
      refine bodyPost_ret (v := .tuple #[.slice none 0 0, .bool false]) ?_ rfl ⟨⟨none, 0, [], false, rfl, by rw [HQN.out, HFl.out]; rfl, by rw [HQN.out, HFl.out]; rfl, Owns.nil _ _ _ _ _⟩, (by (with_reducible repeat first|exact (HX1.out.trans HX.out)|exact eR _|apply eD|apply eN|apply eA|apply eO|apply eS|apply eC);all_goals first|omega|simp <;> omega)⟩
      simp [results, Tryz.results211, go_sem]
     | true =>
      have hn' : Tg.nameB a.data.toList = true := hn
      rw [hn'] at HNm
      cases hwd : Tg.wordB (bsT b) with
      | false =>
       have hw' : Tg.wordB b.data.toList = false := hwd
       rw [hw'] at HWd
       have HFl := lh (HStop.out (by unfold Ad.qIn; rw [HPo.out, hwd]; simp))
       clear HStop HSt HPo hn hn' hwd hw'
       go_wp2_with (first
        | (go_at_call 110; refine (HNm.out _).mono ?_; rintro e w' ⟨rfl, hxl⟩; obtain ⟨xn, rfl⟩ := hxl.asLater; clear hxl)
        | (go_at_call 160; refine (HWd.out _).mono ?_; rintro e w' ⟨rfl, hxl⟩; obtain ⟨xo, rfl⟩ := hxl.asLater; clear hxl)
        | (go_at_call 257; refine (show Hid _ from ?_).out))
       refine bodyPost_ret (v := .tuple #[.slice none 0 0, .bool false]) ?_ rfl ⟨⟨none, 0, [], false, rfl, by rw [HQN.out, HFl.out]; rfl, by rw [HQN.out, HFl.out]; rfl, Owns.nil _ _ _ _ _⟩, (by (with_reducible repeat first|exact (HX1.out.trans HX.out)|exact eR _|apply eD|apply eN|apply eA|apply eO|apply eS|apply eC);all_goals first|omega|simp <;> omega)⟩
       simp [results, Tryz.results211, go_sem]
      | true =>
       have hw' : Tg.wordB b.data.toList = true := hwd
       rw [hw'] at HWd
       have HN : Hid (Ad.qAll ((ls.map bsT).take (k + 1)) = some (Ad.putP (bsT a, bsT b) (qs.map prB))) := lh (by rw [HSt.out]; unfold Ad.qIn; rw [HPo.out, if_pos ⟨rfl, hn, hwd⟩]; rfl)
       clear HStop HSt HPo hn hn' hwd hw'
       go_wp2_with (first
        | (go_at_call 110; refine (HNm.out _).mono ?_; rintro e w' ⟨rfl, hxl⟩; obtain ⟨xn, rfl⟩ := hxl.asLater; clear hxl)
        | (go_at_call 160; refine (HWd.out _).mono ?_; rintro e w' ⟨rfl, hxl⟩; obtain ⟨xo, rfl⟩ := hxl.asLater; clear hxl)
        | (go_at_call 257; refine (show Hid _ from ?_).out))
       refine lh ?_
       refine (r6put_any A' c' qs (a, b) _ (by omega) (((HO.out.later _).reads prE)) HA.out).mono ?_
       rintro e w5 ⟨A5, c5, qs5, rfl, hq5, ho5, hx5⟩
       have hl5 : qs5.length ≤ k + 1 := by
        have h1 := congrArg List.length hq5
        have h2 := Ad.putP_len (prB (a, b)) (qs.map prB)
        rw [List.length_map] at h1 h2
        omega
       have HO5 := lh ho5
       have HX5 : Hid (Ext w1 w5) := lh ((HX.out.onto _).trans hx5)
       have HN5 : Hid (Ad.qAll ((ls.map bsT).take (k + 1)) = some (qs5.map prB)) := lh (by rw [HN.out, hq5]; rfl)
       clear hq5 ho5 hx5
       go_wp2
       go_roundw
       case rel => exact ⟨A5, c5, qs5, k + 1, rfl, by go_num, by omega, hl5, HN5, lh (HO5.out.lower (by rw [later_size]; omega)), HX5⟩
       case measure => simp [intOf]; omega
   ·have e : k = ls.length := by omega
    subst e
    rw [List.take_of_length_le (by rw [List.length_map]; exact Nat.le_refl _), HCu.out] at HL
    go_wp2
    refine bodyPost_ret (v := .tuple #[.slice A' qs.length c', .bool true]) ?_ rfl ⟨⟨A', c', qs, true, rfl, by rw [HQN.out, HL.out]; rfl, by rw [HQN.out, HL.out]; rfl, HO.out.lower HX1.out.size⟩, HX1.out.trans HX.out⟩
    simp [results, Tryz.results211, go_sem]
def PaRel (w : World) (ls : List ByteArray) (o i : Value) (wr : World) : Prop := ∃ (A : Option Addr) (c : Nat) (qs : List ByteArray) (k : Nat), o = .slice A qs.length c ∧ i = .int .i64 k ∧ k ≤ ls.length ∧ qs.length ≤ k ∧
 Hid (Ad.resAll ((ls.map bsT).take k) = some (qs.map bsT)) ∧ Hid (OwnsStr w.heap.size wr A c qs) ∧ Hid (Ext w wr)
theorem reads_cells {W : World} {B b off : Nat} {l : List ByteArray} (h : ReadsStr W B (some ⟨b, off, none⟩) l) : ∀ j u, (l.flatMap encStr)[j]? = some u → W.cell? ((⟨b, off, none⟩ : Addr).add j) = some u := by
 intro j u hj
 have hj' := (List.getElem?_eq_some_iff.1 hj).1
 rw [sE.flat_len] at hj'
 obtain ⟨b', off', e1, _, h3⟩ := ReadsStr.cell h j (by omega)
 injection e1 with e1
 injection e1 with e1 e2
 subst e1 e2
 have k := sE.flat_get l j (by omega) 0 (by omega)
 rw [show j * 1 + 0 = j by omega, hj] at k
 have e : u = .string l[j] := by
  have := k.symm
  simp [encStr] at this
  exact this.symm
 rw [e, addr_add]
 exact h3
theorem rpath_any (A0 : Option Addr) (c0 : Nat) (ls : List ByteArray) (w : World) (hl : ls.length ≤ 100000) (hs : ∀ x ∈ ls, x.size ≤ 4096) (hr : ReadsStr w w.heap.size A0 ls) :
  Calls Tryz.prog 210 #[.slice A0 ls.length c0] w fun e w' => RslU (Ad.resAll (ls.map bsT)) w.heap.size e w' ∧ Ext w w' := by
 have HR := lh hr
 have HSz := lh hs
 clear hr hs
 go_enter Tryz.func210, Tryz.ntmps210
 go_wp2
 go_loopw [4, 5] (PaRel w ls) (fun _ i _ => ls.length - (intOf i).toNat)
 case atStart => exact ⟨none, 0, [], 0, rfl, rfl, Nat.zero_le _, Nat.le_refl _, lh rfl, lh (Owns.nil _ _ _ _ _), lh (eR _)⟩
 case round =>
  obtain ⟨A', c', qs, k, rfl, rfl, hk, hqk, HL, HO, HX⟩ := hrel
  have hsz := HX.out.size
  by_cases hlt : k < ls.length
  ·obtain ⟨b, off, rfl, hb, d1⟩ := ReadsStr.cell (HR.out.ext HX.out (Nat.le_refl _)) k hlt
   have hltm : k < (ls.map bsT).length := by rw [List.length_map]; exact hlt
   have HSt : Hid (Ad.resAll ((ls.map bsT).take (k + 1)) = Ad.resIn (qs.map bsT) (bsT ls[k])) := lh (by rw [res_take hltm HL.out, List.getElem_map])
   have HStop : Hid (Ad.resIn (qs.map bsT) (bsT ls[k]) = none → Ad.resAll (ls.map bsT) = none) := lh (fun h => res_stop (HSt.out.trans h))
   have hxs := HSz.out _ (List.getElem_mem hlt)
   generalize ls[k] = x at *
   have HE1 := lh (lit_walk x [46])
   have HE2 := lh (lit_walk x [46, 46])
   have HWd := lh (fun W => rword_any x W (by omega))
   by_cases h1 : bsT x = [46]
   ·have e1 : (x.toList == [46]) = true := by rw [HE1.out]; simpa using h1
    have HN : Hid (Ad.resAll ((ls.map bsT).take (k + 1)) = some (qs.map bsT)) := lh (by rw [HSt.out]; unfold Ad.resIn; rw [if_pos h1])
    clear h1 HStop HSt HE1 HE2 HWd
    go_wp2
    go_roundw
    case rel => exact ⟨A', c', qs, k + 1, rfl, by go_num, by omega, by omega, HN, HO, HX⟩
    case measure => simp [intOf]; omega
   have e1 : (x.toList == [46]) = false := by rw [HE1.out]; simpa using h1
   by_cases h2 : bsT x = [46, 46]
   ·have e2 : (x.toList == [46, 46]) = true := by rw [HE2.out]; simpa using h2
    by_cases h3 : 0 < qs.length
    ·have hdl : qs.dropLast.length = qs.length - 1 := List.length_dropLast
     have HN : Hid (Ad.resAll ((ls.map bsT).take (k + 1)) = some (qs.dropLast.map bsT)) := lh (by
      rw [HSt.out]; unfold Ad.resIn
      rw [if_neg (by rw [h2]; decide), if_pos h2, if_neg (by intro e; rw [List.map_eq_nil_iff] at e; rw [e] at h3; simp at h3), List.map_dropLast])
     obtain ⟨a, ha, hod⟩ := Owns.shorter sE HO.out h3
     rcases HO.out.cases with ⟨_, _, e⟩ | ⟨g, cur, rfl, _, _, hcap, hcm, _, _⟩
     ·rw [e] at h3; simp at h3
     have ha' := Option.some.inj ha
     subst ha'
     clear ha
     have HOd := lh hod
     unfold maxLen at hcm
     have d3 : decide ((qs.length : Int) = 0) = false := decide_eq_false (by omega)
     have d4 : ((qs.length : Int) == 0) = false := by rw [beq_eq_false_iff_ne]; omega
     clear h2 HStop HSt HE1 HE2 HWd hod
     go_wp2_with (at_builtin; refine (show Hid _ from ?_).out)
     refine lh ?_
     refine app_from strT sE rfl _ _ rfl w.heap.size _ 0 [] rfl (Owns.mk sE hsz (heap_alloc_new wr _) (Nat.le_refl _) (by unfold maxLen; omega) rfl rfl) ⟨g, 0, none⟩ (qs.length - 1) c' qs.dropLast rfl hdl (reads_cells ((HOd.out.alloc _).reads sE)) (by simp; omega) (by simp; omega) (by simp; omega) ?_
     intro A2 c2 l2 w2 HL2 hO9 hB9 hl1 hl2 _
     have HO2 := lh hO9
     have HB2 := lh hB9
     clear hO9 hB9
     go_wp2
     go_roundw
     case rel => exact ⟨A2, c2, l2, k + 1, rfl, by go_num, by omega, by (try simp at hl1 hl2); omega, by rw [HL2.out]; exact HN, HO2, lh ((HX.out.alloc _).grown HB2.out (Nat.le_refl _))⟩
     case measure => simp [intOf]; omega
    ·have hl0 : qs = [] := List.eq_nil_of_length_eq_zero (by omega)
     subst hl0
     have HFl := lh (HStop.out (by unfold Ad.resIn; rw [if_neg (by rw [h2]; decide), if_pos h2, if_pos (show List.map bsT [] = [] from rfl)]))
     clear HStop HSt HE1 HE2 h1 h2 HWd
     go_wp2
     refine bodyPost_ret (v := .tuple #[.slice none 0 0, .bool false]) ?_ rfl ⟨⟨none, 0, [], false, rfl, by rw [HFl.out]; rfl, by rw [HFl.out]; rfl, Owns.nil _ _ _ _ _⟩, (by (with_reducible repeat first|exact HX.out|exact eR _|apply eD|apply eN|apply eA|apply eO|apply eS|apply eC);all_goals first|omega|simp <;> omega)⟩
     simp [results, Tryz.results210, go_sem]
   ·have e2 : (x.toList == [46, 46]) = false := by rw [HE2.out]; simpa using h2
    cases h3 : Tg.wordB (bsT x) with
    | true =>
     have hw0 : Tg.wordB x.data.toList = true := h3
     rw [hw0] at HWd
     have HN : Hid (Ad.resAll ((ls.map bsT).take (k + 1)) = some ((qs ++ [x]).map bsT)) := lh (by
      rw [HSt.out]; unfold Ad.resIn
      rw [if_neg h1, if_neg h2, if_pos h3]
      simp)
     clear HStop HSt HE1 HE2 h1 h2 h3 hw0
     go_wp2_with (first
      | (go_at_call 160; refine (HWd.out _).mono ?_; rintro e w' ⟨rfl, hxl⟩; obtain ⟨xo, rfl⟩ := hxl.asLater; clear hxl)
      | (at_builtin; refine (show Hid _ from ?_).out))
     refine lh ?_
     refine app_from strT sE rfl _ _ rfl w.heap.size _ _ qs rfl ((HO.out.later _).alloc _) _ 1 _ [x] rfl rfl (new_cellsAt (by first | rfl | exact (later_size _ _).symm) _ _) (by omega) (by omega) (by first | omega | (simp [later_size]; omega)) ?_
     intro A2 c2 l2 w2 HL2 hO9 hB9 hl1 hl2 _
     have HO2 := lh hO9
     have HB2 := lh hB9
     clear hO9 hB9
     go_wp2
     go_roundw
     case rel => exact ⟨A2, c2, l2, k + 1, rfl, by go_num, by omega, by (try simp at hl1 hl2); omega, by rw [HL2.out]; exact HN, HO2, lh (((HX.out.onto _).alloc _).grown HB2.out (Nat.le_refl _))⟩
     case measure => simp [intOf]; omega
    | false =>
     have hw0 : Tg.wordB x.data.toList = false := h3
     rw [hw0] at HWd
     have HFl := lh (HStop.out (by unfold Ad.resIn; rw [if_neg h1, if_neg h2, if_neg (by rw [h3]; decide)]))
     clear HStop HSt HE1 HE2 h1 h2 h3 hw0
     go_wp2_with (go_at_call 160; refine (HWd.out _).mono ?_; rintro e w' ⟨rfl, hxl⟩; obtain ⟨xo, rfl⟩ := hxl.asLater; clear hxl)
     refine bodyPost_ret (v := .tuple #[.slice none 0 0, .bool false]) ?_ rfl ⟨⟨none, 0, [], false, rfl, by rw [HFl.out]; rfl, by rw [HFl.out]; rfl, Owns.nil _ _ _ _ _⟩, (by (with_reducible repeat first|exact HX.out|exact eR _|apply eD|apply eN|apply eA|apply eO|apply eS|apply eC);all_goals first|omega|simp <;> omega)⟩
     simp [results, Tryz.results210, go_sem]
  ·have e : k = ls.length := by omega
   subst e
   rw [List.take_of_length_le (by rw [List.length_map]; exact Nat.le_refl _)] at HL
   go_wp2
   refine bodyPost_ret (v := .tuple #[.slice A' qs.length c', .bool true]) ?_ rfl ⟨⟨A', c', qs, true, rfl, by rw [HL.out]; rfl, by rw [HL.out]; rfl, HO.out⟩, HX.out⟩
   simp [results, Tryz.results210, go_sem]
theorem pieces_cutB (c : UInt8) (s : List UInt8) : Ad.pieces c s = (Ad.cutB c s).1 :: (if (Ad.cutB c s).2.2 = true then Ad.pieces c (Ad.cutB c s).2.1 else []) := by
 rcases Ad.cutB_index c s with ⟨_, h2, h3⟩ | ⟨i, _, _, h3, h4, h5⟩
 ·rw [h2, Ad.pieces_one h3]; rfl
 ·rw [h3, Ad.pieces_hit h4 h5]; rfl
theorem same_last {t : ByteArray} {m m' : Nat} (hm : t.size = m + 1) (hm' : t.size = m' + 1) (h : t[m]'(by omega) ≠ 47) : t[m']'(by omega) ≠ 47 := by
 have e : m' = m := by omega
 subst e
 exact h
theorem bsT_last {t : ByteArray} {m : Nat} (hm : t.size = m + 1) : bsT t = (bsT t).take m ++ [t[m]'(by omega)] := by
 have hl : m < (bsT t).length := by rw [bsT_size]; omega
 have h1 : (bsT t)[m] = t[m]'(by omega) := by simp only [bsT, Array.getElem_toList]; rfl
 conv => lhs; rw [← List.take_append_drop m (bsT t)]
 rw [List.drop_eq_getElem_cons hl, h1, List.drop_eq_nil_of_le (by rw [bsT_size]; omega)]
theorem trim_at {t : ByteArray} {m : Nat} (hm : t.size = m + 1) (h : t[m]'(by omega) = 47) : bsT (t.extract 0 m) = Ad.trim1 (bsT t) := by
 have hl := bsT_last hm
 rw [h] at hl
 have hs : Lib.hasSuffix (bsT t) [47] = true := by
  rw [hl]; simp [Lib.hasSuffix]
 have hz := bsT_size t
 rw [bsT_take]
 unfold Ad.trim1 Lib.trimSuffix
 rw [if_pos hs, hz, hm]
 rfl
theorem trim_no {t : ByteArray} (h : ∀ m (hm : t.size = m + 1), t[m]'(by omega) ≠ 47) : bsT t = Ad.trim1 (bsT t) := by
 have hs : ¬ Lib.hasSuffix (bsT t) [47] = true := by
  rcases Nat.eq_zero_or_pos t.size with h0 | h0
  ·have e : bsT t = [] := List.eq_nil_of_length_eq_zero (by rw [bsT_size]; exact h0)
   rw [e]; simp [Lib.hasSuffix]
  ·obtain ⟨m, hm⟩ : ∃ m, t.size = m + 1 := ⟨t.size - 1, by omega⟩
   have hl := bsT_last hm
   have hn := h m hm
   rw [hl]
   simp [Lib.hasSuffix]
   exact fun e => hn e.symm
 unfold Ad.trim1 Lib.trimSuffix
 rw [if_neg hs]
theorem reads_tail {W : World} {B b off : Nat} {x : ByteArray} {l : List ByteArray} (h : ReadsStr W B (some ⟨b, off, none⟩) (x :: l)) : ReadsStr W B (some ⟨b, off + 1, none⟩) l := by
 intro h0
 obtain ⟨b', off', e1, h2, h3⟩ := h (by simp)
 injection e1 with e1
 injection e1 with e1 e2
 subst e1 e2
 refine ⟨b, off + 1, rfl, h2, fun i hi j v hv => ?_⟩
 have := h3 (i + 1) (by simp; omega) j v hv
 rwa [show off + (i + 1) * 1 + j = off + 1 + i * 1 + j by omega] at this
def RdAt (base : Nat) (a : Ad.Adr) (E : Int) (e : Ending) (w : World) : Prop :=
 ∃ (cu : ByteArray) (A : Option Addr) (c : Nat) (ls : List ByteArray) (A2 : Option Addr) (c2 : Nat) (qs : List PrB), e = .returned (.agg #[.string cu, .slice A ls.length c, .slice A2 qs.length c2, .int .i64 E]) ∧ (⟨bsT cu, ls.map bsT, qs.map prB⟩ : Ad.Adr) = a ∧ OwnsStr base w A c ls ∧ OwnsPr base w A2 c2 qs
theorem rd_ty : RowTy Tryz.prog 215 4 := ⟨by kernel_rfl, by kernel_rfl⟩
theorem rd_ld (w : World) (b o : Nat) : (rowLoad 215 4 (.pointer (some ⟨b, o, none⟩))).run Tryz.prog w = rowLoadR Tryz.prog w 215 4 b o (rowOf w b o 4) := run_rowLoad rd_ty w b o
theorem rd_st (w : World) (b o : Nat) (cells : Array Value) : (rowStore 215 4 (.pointer (some ⟨b, o, none⟩)) (.agg cells)).run Tryz.prog w = rowStoreR Tryz.prog w 215 4 b o cells (roomOf w b o 4 && fitsRow 4 cells) := run_rowStore rd_ty w b o cells
theorem rd_al (w : World) : (rowAlloc 215).run Tryz.prog w = .ok (.value (.pointer (some ⟨w.heap.size, 0, none⟩))) (w.alloc (.cells (#[.string ByteArray.empty, .slice none 0 0, .slice none 0 0, .int .i64 0]) 215)) := run_rowAlloc (by kernel_rfl) w
theorem rd_xl (ρ : Operand → Value) (dst : Option Tmp) (x : Operand) (t : TypeId) (pos : String) (after : Array Edge) (guard : Option (Nat × Bool)) : execOp ρ { dst, op := .load 215 x, type := t, pos, after, guard } = rowLoad 215 4 (ρ x) := rfl
theorem rd_xs (ρ : Operand → Value) (dst : Option Tmp) (x y : Operand) (t : TypeId) (pos : String) (after : Array Edge) (guard : Option (Nat × Bool)) : execOp ρ { dst, op := .store 215 x y, type := t, pos, after, guard } = rowStore 215 4 (ρ x) (ρ y) := rfl
theorem rd_xa (ρ : Operand → Value) (dst : Option Tmp) (t : TypeId) (pos : String) (after : Array Edge) (guard : Option (Nat × Bool)) : execOp ρ { dst, op := .alloc 215, type := t, pos, after, guard } = rowAlloc 215 := rfl
attribute [go_sem ↓] rd_xl rd_xs rd_xa
attribute [go_sem] rd_ld rd_st rd_al
theorem rd_fits (cu : ByteArray) (A : Option Addr) (n c : Nat) (A2 : Option Addr) (n2 c2 : Nat) (E : Int) : fitsRow 4 #[.string cu, .slice A n c, .slice A2 n2 c2, .int .i64 E] = true := by kernel_rfl
attribute [local go_sem] rd_fits
theorem r6parse_any (s : ByteArray) (w : World) (hs : s.size ≤ 900000) :
  Calls Tryz.prog 163 #[.string s] w fun e w' => RdAt w.heap.size (Ad.parseA (bsT s)) (Ad.parseE (bsT s)) e w' ∧ Ext w w' := by
 have hz := bsT_size s
 by_cases h4 : 4096 < s.size
 ·have HE : Hid (Ad.parseE (bsT s) = 2) := lh (by unfold Ad.parseE; rw [hz, if_pos h4])
  have HA : Hid (Ad.parseA (bsT s) = Ad.noAdr) := lh (by unfold Ad.parseA; rw [HE.out]; rfl)
  clear hz
  go_enter Tryz.func163, Tryz.ntmps163
  go_wp2
  rw [HE.out, HA.out]
  exact post_row rd_ty Tryz.results163 rfl rfl (RowAt.stored (n := 4) (RowAt.new _ _ _) rfl rfl (by omega)) ⟨⟨⟨#[]⟩, none, 0, [], none, 0, [], rfl, rfl, Owns.nil _ _ _ _ _, Owns.nil _ _ _ _ _⟩, (by (with_reducible repeat first|exact eR _|apply eD|apply eN|apply eA|apply eO|apply eS|apply eC);all_goals first|omega|simp <;> omega)⟩
 ·have HE : Hid (Ad.parseE (bsT s) = if Tg.nameB (Ad.leftN (bsT s)).1 = true ∧ (Ad.pathN (bsT s)).isSome = true ∧ (Ad.quN (Ad.headN (bsT s)).2.1).isSome = true then (if 32 < ((Ad.pathN (bsT s)).getD []).length ∨ 16 < ((Ad.quN (Ad.headN (bsT s)).2.1).getD []).length then 2 else 0) else 3) := lh (by unfold Ad.parseE; rw [hz, if_neg h4])
  have HA : Hid (Ad.parseA (bsT s) = if Ad.parseE (bsT s) = 0 then ⟨(Ad.leftN (bsT s)).1, (Ad.pathN (bsT s)).getD [], (Ad.quN (Ad.headN (bsT s)).2.1).getD []⟩ else Ad.noAdr) := lh rfl
  generalize Ad.parseA (bsT s) = PA at *
  generalize Ad.parseE (bsT s) = PE at *
  go_enter Tryz.func163, Tryz.ntmps163
  go_wp2_with (first
   | (go_at_call 209; refine (rsmall_any s _ hs).mono ?_; rintro e w' ⟨⟨t, rfl, hlo, hlt⟩, hxl⟩; obtain ⟨xl, rfl⟩ := hxl.asLater; clear hxl; have HLo := lh hlo; clear hlo)
   | (go_at_call 208; refine (show Hid _ from ?_).out))
  refine lh ?_
  refine (r6cut_any t 63 _ (by omega)).mono ?_
  rintro e w' ⟨⟨a, b, fq, rfl, hcut, hla, hlb⟩, hxl⟩
  obtain ⟨x2, rfl⟩ := hxl.asLater
  have HHd : Hid (Ad.headN (bsT s) = (bsT a, bsT b, fq)) := lh (by unfold Ad.headN; rw [hcut]; exact congrArg _ HLo.out.symm)
  clear hxl hcut HLo
  have ha9 : a.size ≤ 4096 := by omega
  have hb9 : b.size ≤ 4096 := by omega
  clear hla hlb hlt
  rcases Nat.eq_zero_or_pos a.size with h0 | h0
  ·have HTr : Hid (bsT a = Ad.trim1 (bsT a)) := lh (trim_no (fun m hm => by omega))
   have d0 : decide (0 < (a.size : Int)) = false := decide_eq_false (by omega)
   go_upto_region 6 with (fail)
   clear d0
   go_upto_region 7 with (go_at_call 175; refine (rsplit_any a 47 _ (by omega)).mono ?_; rintro e w1 ⟨A1, c1, ls, rfl, hcut, ho1, hl1, hx1⟩)
   have hps : ls.map bsT = Ad.pieces 47 (bsT a) := Ad.pieces_of hcut
   rw [pieces_cutB, HTr.out] at hps
   have HLf : Hid (Ad.leftN (bsT s) = Ad.cutB 47 (Ad.trim1 (bsT a))) := lh (by unfold Ad.leftN; rw [HHd.out])
   rw [← HLf.out] at hps
   cases ls with
   | nil => cases hps
   | cons x0 rest =>
    rw [List.map_cons] at hps
    injection hps with hp0 hp1
    have HPt : Hid (Ad.pathN (bsT s) = Ad.resAll (rest.map bsT)) := lh (by
     rw [hp1]; unfold Ad.pathN
     split
     ·rfl
     ·rfl)
    rw [HHd.out, ← hp0] at HE HA
    have hx0 : x0.size ≤ 4096 := by
     have h1 := piece_le 47 (bsT a) (bsT x0) (by rw [← Ad.pieces_of hcut]; simp)
     rw [bsT_size, bsT_size] at h1
     omega
    have hrz : ∀ x ∈ rest, x.size ≤ 4096 := fun x hx => by
     have h1 := piece_le 47 (bsT a) (bsT x) (by rw [← Ad.pieces_of hcut]; exact List.mem_map_of_mem (List.mem_cons_of_mem _ hx))
     rw [bsT_size, bsT_size] at h1
     omega
    have HRz := lh hrz
    have hrow1 := ((RowAt.new w #[.string ByteArray.empty, .slice none 0 0, .slice none 0 0, .int .i64 0] 215).later _).ext hx1
    have hxw1 := (((Ext.refl w).alloc _).onto _).trans hx1
    have HRw := lh hrow1
    have HXw := lh hxw1
    have hlr := hrow1.lt
    have hmr : roomOf w1 w.heap.size 0 4 = true := by rw [hrow1.room]; rfl
    have HO1 := lh ho1
    rcases ho1.cases with ⟨_, _, e⟩ | ⟨g, cur, rfl, hg1, hg2, hcap, hcm, _, _⟩
    ·cases e
    have hglt : g < w1.heap.size := (Array.getElem?_eq_some_iff.1 hg2).1
    obtain ⟨b9, off9, e9, _, d0⟩ := ReadsStr.cell (HO1.out.reads sE) 0 (by simp)
    injection e9 with e9
    injection e9 with e9 e10
    subst e9 e10
    rw [List.length_cons] at hcap hl1
    unfold maxLen at hcm
    simp only [List.getElem_cons_zero] at d0
    have HNm := lh (fun W => rname_any x0 W (by omega))
    clear hcut hp0 hp1 hx1 hrow1 hxw1 ho1 HLf HTr hrz hg2 HHd
    generalize Ad.leftN (bsT s) = LF at *
    cases hn : Tg.nameB (bsT x0) with
    | false =>
     have hn' : Tg.nameB x0.data.toList = false := hn
     rw [hn'] at HNm
     have HE' : Hid (PE = 3) := lh (by rw [HE.out, hn]; rfl)
     have HA' : Hid (PA = Ad.noAdr) := lh (by rw [HA.out, HE'.out]; rfl)
     clear HE HA hn hn'
     go_wp2_with (go_at_call 110; refine (HNm.out _).mono ?_; rintro e w' ⟨rfl, hxl⟩; obtain ⟨xn, rfl⟩ := hxl.asLater; clear hxl)
     rw [HE'.out, HA'.out]
     exact post_row rd_ty Tryz.results163 rfl rfl (RowAt.stored (n := 4) (ds := #[.string ByteArray.empty, .slice none 0 0, .slice none 0 0, .int .i64 3]) (HRw.out.later _) rfl rfl (by omega)) ⟨⟨⟨#[]⟩, none, 0, [], none, 0, [], rfl, rfl, Owns.nil _ _ _ _ _, Owns.nil _ _ _ _ _⟩, (by (with_reducible repeat first|exact HXw.out|exact eR _|apply eD|apply eN|apply eA|apply eO|apply eS|apply eC);all_goals first|omega|simp <;> omega)⟩
    | true =>
     have hn' : Tg.nameB x0.data.toList = true := hn
     rw [hn'] at HNm
     have HPp : Hid (∀ W, Ext w1 W → ∀ (A0 : Option Addr) (c0 : Nat), (rest.length = 0 ∨ A0 = some ⟨g, 1, none⟩) → Calls Tryz.prog 210 #[.slice A0 rest.length c0] W fun e w' => RslU (Ad.resAll (rest.map bsT)) W.heap.size e w' ∧ Ext W w') := lh (fun W hx A0 c0 h => by
      refine rpath_any A0 c0 rest W (by omega) HRz.out ?_
      rcases h with h | h
      ·intro h9; omega
      ·subst h; exact reads_tail (off := 0) ((HO1.out.reads sE).on hx))
     have HE2 : Hid (PE = if (Ad.resAll (rest.map bsT)).isSome = true ∧ (Ad.quN (bsT b)).isSome = true then (if 32 < ((Ad.resAll (rest.map bsT)).getD []).length ∨ 16 < ((Ad.quN (bsT b)).getD []).length then 2 else 0) else 3) := lh (by rw [HE.out, HPt.out, hn]; simp)
     have HA2 : Hid (PA = if PE = 0 then ⟨bsT x0, (Ad.resAll (rest.map bsT)).getD [], (Ad.quN (bsT b)).getD []⟩ else Ad.noAdr) := lh (by rw [HA.out, HPt.out])
     clear HE HA hn hn' HRz HPt
     generalize Ad.resAll (rest.map bsT) = PT at *
     rcases (show c1 = 1 ∨ 2 ≤ c1 by omega) with hc1 | hc1
     ·have hr0 : rest.length = 0 := by omega
      subst hc1
      go_wp2_with (first
       | (go_at_call 110; refine (HNm.out _).mono ?_; rintro e w' ⟨rfl, hxl⟩; obtain ⟨xn, rfl⟩ := hxl.asLater; clear hxl)
       | (go_at_call 210; refine (show Hid _ from ?_).out))
      refine lh ?_
      (try rw [← hr0])
      refine (HPp.out _ (ext_later _ _) _ _ (.inl hr0)).mono ?_
      rintro e w5 ⟨⟨Ap, cp, lp, one, rfl, hone, hlp, hop⟩, hx5⟩
      have hrow5 := (HRw.out.later _).ext hx5
      have HOne := lh hone
      have HLp := lh hlp
      clear hone hlp
      have HRw5 := lh hrow5
      have HXw5 := lh ((HXw.out.onto _).trans hx5)
      have HOp := lh hop
      have hl5 := hrow5.lt
      have hsz5 := hx5.size
      rw [later_size] at hsz5
      have d05 : w5.cell? ⟨g, 0, none⟩ = some (.string x0) := (hx5.cell (p := ⟨g, 0, none⟩) (by show g < _; rw [later_size]; omega)).trans (((ext_later _ _).cell (p := ⟨g, 0, none⟩) (by exact hglt)).trans d0)
      have hbs5 : w.heap.size + 1 ≤ (later w1 xn).heap.size := by rw [later_size]; omega
      clear hop hx5 hrow5
      go_wp2_with (go_at_call 211; refine (show Hid _ from ?_).out)
      refine lh ?_
      refine (rquery_any b _ hb9).mono ?_
      rintro e w7 ⟨⟨A2, c2, qs, two, rfl, htwo, hqs, hoq⟩, hx7⟩
      have hrow7 := HRw5.out.ext hx7
      have HRw7 := lh hrow7
      have HXw7 := lh (HXw5.out.trans hx7)
      have HOp7 := lh ((HOp.out.ext hx7).lower hbs5)
      have HOq7 := lh (hoq.lower (b2 := w.heap.size + 1) (by omega))
      have d07 : w7.cell? ⟨g, 0, none⟩ = some (.string x0) := (hx7.cell (p := ⟨g, 0, none⟩) (by show g < _; omega)).trans d05
      have hm7 : roomOf w7 w.heap.size 0 4 = true := by rw [hrow7.room]; rfl
      have hl7 := hrow7.lt
      have hsz7 := hx7.size
      have HE3 : Hid (PE = if one = true ∧ two = true then (if 32 < lp.length ∨ 16 < qs.length then 2 else 0) else 3) := lh (by
       have e1 : lp.length = (PT.getD []).length := by rw [← HLp.out, List.length_map]
       have e2 : qs.length = ((Ad.quN (bsT b)).getD []).length := by rw [← hqs, List.length_map]
       rw [HE2.out, HOne.out, htwo, e1, e2])
      have HA3 : Hid (PA = if PE = 0 then ⟨bsT x0, lp.map bsT, qs.map prB⟩ else Ad.noAdr) := lh (by rw [HA2.out, HLp.out, hqs])
      clear hoq hx7 hrow7 HOne HLp htwo hqs HE2 HA2 HPp HOp HRw5 HXw5 HRw HXw HO1
      cases one with
      | false =>
       have HE' : Hid (PE = 3) := lh (by rw [HE3.out]; rfl)
       have HA' : Hid (PA = Ad.noAdr) := lh (by rw [HA3.out, HE'.out]; rfl)
       clear HE3 HA3
       go_wp2
       rw [HE'.out, HA'.out]
       exact post_row rd_ty Tryz.results163 rfl rfl (RowAt.stored (n := 4) (ds := #[.string ByteArray.empty, .slice none 0 0, .slice none 0 0, .int .i64 3]) HRw7.out rfl rfl (by omega)) ⟨⟨⟨#[]⟩, none, 0, [], none, 0, [], rfl, rfl, Owns.nil _ _ _ _ _, Owns.nil _ _ _ _ _⟩, (by (with_reducible repeat first|exact HXw7.out|exact eR _|apply eD|apply eN|apply eA|apply eO|apply eS|apply eC);all_goals first|omega|simp <;> omega)⟩
      | true =>
       cases two with
       | false =>
        have HE' : Hid (PE = 3) := lh (by rw [HE3.out]; rfl)
        have HA' : Hid (PA = Ad.noAdr) := lh (by rw [HA3.out, HE'.out]; rfl)
        clear HE3 HA3
        go_wp2
        rw [HE'.out, HA'.out]
        exact post_row rd_ty Tryz.results163 rfl rfl (RowAt.stored (n := 4) (ds := #[.string ByteArray.empty, .slice none 0 0, .slice none 0 0, .int .i64 3]) HRw7.out rfl rfl (by omega)) ⟨⟨⟨#[]⟩, none, 0, [], none, 0, [], rfl, rfl, Owns.nil _ _ _ _ _, Owns.nil _ _ _ _ _⟩, (by (with_reducible repeat first|exact HXw7.out|exact eR _|apply eD|apply eN|apply eA|apply eO|apply eS|apply eC);all_goals first|omega|simp <;> omega)⟩
       | true =>
        by_cases h32 : 32 < lp.length
        ·have d32 : decide ((32 : Int) < (lp.length : Int)) = true := decide_eq_true (by omega)
         have HE' : Hid (PE = 2) := lh (by rw [HE3.out, if_pos ⟨rfl, rfl⟩, if_pos (.inl h32)])
         have HA' : Hid (PA = Ad.noAdr) := lh (by rw [HA3.out, HE'.out]; rfl)
         clear HE3 HA3
         go_wp2
         rw [HE'.out, HA'.out]
         exact post_row rd_ty Tryz.results163 rfl rfl (RowAt.stored (n := 4) (ds := #[.string ByteArray.empty, .slice none 0 0, .slice none 0 0, .int .i64 2]) HRw7.out rfl rfl (by omega)) ⟨⟨⟨#[]⟩, none, 0, [], none, 0, [], rfl, rfl, Owns.nil _ _ _ _ _, Owns.nil _ _ _ _ _⟩, (by (with_reducible repeat first|exact HXw7.out|exact eR _|apply eD|apply eN|apply eA|apply eO|apply eS|apply eC);all_goals first|omega|simp <;> omega)⟩
        ·have d32 : decide ((32 : Int) < (lp.length : Int)) = false := decide_eq_false (by omega)
         by_cases h16 : 16 < qs.length
         ·have d16 : decide ((16 : Int) < (qs.length : Int)) = true := decide_eq_true (by omega)
          have HE' : Hid (PE = 2) := lh (by rw [HE3.out, if_pos ⟨rfl, rfl⟩, if_pos (.inr h16)])
          have HA' : Hid (PA = Ad.noAdr) := lh (by rw [HA3.out, HE'.out]; rfl)
          clear HE3 HA3
          go_wp2
          rw [HE'.out, HA'.out]
          exact post_row rd_ty Tryz.results163 rfl rfl (RowAt.stored (n := 4) (ds := #[.string ByteArray.empty, .slice none 0 0, .slice none 0 0, .int .i64 2]) HRw7.out rfl rfl (by omega)) ⟨⟨⟨#[]⟩, none, 0, [], none, 0, [], rfl, rfl, Owns.nil _ _ _ _ _, Owns.nil _ _ _ _ _⟩, (by (with_reducible repeat first|exact HXw7.out|exact eR _|apply eD|apply eN|apply eA|apply eO|apply eS|apply eC);all_goals first|omega|simp <;> omega)⟩
         ·have d16 : decide ((16 : Int) < (qs.length : Int)) = false := decide_eq_false (by omega)
          have HE' : Hid (PE = 0) := lh (by rw [HE3.out, if_pos ⟨rfl, rfl⟩, if_neg (by omega)])
          have HA' : Hid (PA = ⟨bsT x0, lp.map bsT, qs.map prB⟩) := lh (by rw [HA3.out, HE'.out, if_pos rfl])
          clear HE3 HA3
          go_wp2
          rw [HE'.out, HA'.out]
          exact post_row rd_ty Tryz.results163 rfl rfl (RowAt.stored (n := 4) (ds := #[.string x0, .slice Ap lp.length cp, .slice A2 qs.length c2, .int .i64 0]) HRw7.out rfl rfl (by omega)) ⟨⟨x0, Ap, cp, lp, A2, c2, qs, rfl, rfl, (HOp7.out.others (by omega) 0 _).lower (by omega), (HOq7.out.others (by omega) 0 _).lower (by omega)⟩, (by (with_reducible repeat first|exact HXw7.out|exact eR _|apply eD|apply eN|apply eA|apply eO|apply eS|apply eC);all_goals first|omega|simp <;> omega)⟩
     ·go_wp2_with (first
       | (go_at_call 110; refine (HNm.out _).mono ?_; rintro e w' ⟨rfl, hxl⟩; obtain ⟨xn, rfl⟩ := hxl.asLater; clear hxl)
       | (go_at_call 210; refine (show Hid _ from ?_).out))
      refine lh ?_
      refine (HPp.out _ (ext_later _ _) _ _ (.inr rfl)).mono ?_
      rintro e w5 ⟨⟨Ap, cp, lp, one, rfl, hone, hlp, hop⟩, hx5⟩
      have hrow5 := (HRw.out.later _).ext hx5
      have HOne := lh hone
      have HLp := lh hlp
      clear hone hlp
      have HRw5 := lh hrow5
      have HXw5 := lh ((HXw.out.onto _).trans hx5)
      have HOp := lh hop
      have hl5 := hrow5.lt
      have hsz5 := hx5.size
      rw [later_size] at hsz5
      have d05 : w5.cell? ⟨g, 0, none⟩ = some (.string x0) := (hx5.cell (p := ⟨g, 0, none⟩) (by show g < _; rw [later_size]; omega)).trans (((ext_later _ _).cell (p := ⟨g, 0, none⟩) (by exact hglt)).trans d0)
      have hbs5 : w.heap.size + 1 ≤ (later w1 xn).heap.size := by rw [later_size]; omega
      clear hop hx5 hrow5
      go_wp2_with (go_at_call 211; refine (show Hid _ from ?_).out)
      refine lh ?_
      refine (rquery_any b _ hb9).mono ?_
      rintro e w7 ⟨⟨A2, c2, qs, two, rfl, htwo, hqs, hoq⟩, hx7⟩
      have hrow7 := HRw5.out.ext hx7
      have HRw7 := lh hrow7
      have HXw7 := lh (HXw5.out.trans hx7)
      have HOp7 := lh ((HOp.out.ext hx7).lower hbs5)
      have HOq7 := lh (hoq.lower (b2 := w.heap.size + 1) (by omega))
      have d07 : w7.cell? ⟨g, 0, none⟩ = some (.string x0) := (hx7.cell (p := ⟨g, 0, none⟩) (by show g < _; omega)).trans d05
      have hm7 : roomOf w7 w.heap.size 0 4 = true := by rw [hrow7.room]; rfl
      have hl7 := hrow7.lt
      have hsz7 := hx7.size
      have HE3 : Hid (PE = if one = true ∧ two = true then (if 32 < lp.length ∨ 16 < qs.length then 2 else 0) else 3) := lh (by
       have e1 : lp.length = (PT.getD []).length := by rw [← HLp.out, List.length_map]
       have e2 : qs.length = ((Ad.quN (bsT b)).getD []).length := by rw [← hqs, List.length_map]
       rw [HE2.out, HOne.out, htwo, e1, e2])
      have HA3 : Hid (PA = if PE = 0 then ⟨bsT x0, lp.map bsT, qs.map prB⟩ else Ad.noAdr) := lh (by rw [HA2.out, HLp.out, hqs])
      clear hoq hx7 hrow7 HOne HLp htwo hqs HE2 HA2 HPp HOp HRw5 HXw5 HRw HXw HO1
      cases one with
      | false =>
       have HE' : Hid (PE = 3) := lh (by rw [HE3.out]; rfl)
       have HA' : Hid (PA = Ad.noAdr) := lh (by rw [HA3.out, HE'.out]; rfl)
       clear HE3 HA3
       go_wp2
       rw [HE'.out, HA'.out]
       exact post_row rd_ty Tryz.results163 rfl rfl (RowAt.stored (n := 4) (ds := #[.string ByteArray.empty, .slice none 0 0, .slice none 0 0, .int .i64 3]) HRw7.out rfl rfl (by omega)) ⟨⟨⟨#[]⟩, none, 0, [], none, 0, [], rfl, rfl, Owns.nil _ _ _ _ _, Owns.nil _ _ _ _ _⟩, (by (with_reducible repeat first|exact HXw7.out|exact eR _|apply eD|apply eN|apply eA|apply eO|apply eS|apply eC);all_goals first|omega|simp <;> omega)⟩
      | true =>
       cases two with
       | false =>
        have HE' : Hid (PE = 3) := lh (by rw [HE3.out]; rfl)
        have HA' : Hid (PA = Ad.noAdr) := lh (by rw [HA3.out, HE'.out]; rfl)
        clear HE3 HA3
        go_wp2
        rw [HE'.out, HA'.out]
        exact post_row rd_ty Tryz.results163 rfl rfl (RowAt.stored (n := 4) (ds := #[.string ByteArray.empty, .slice none 0 0, .slice none 0 0, .int .i64 3]) HRw7.out rfl rfl (by omega)) ⟨⟨⟨#[]⟩, none, 0, [], none, 0, [], rfl, rfl, Owns.nil _ _ _ _ _, Owns.nil _ _ _ _ _⟩, (by (with_reducible repeat first|exact HXw7.out|exact eR _|apply eD|apply eN|apply eA|apply eO|apply eS|apply eC);all_goals first|omega|simp <;> omega)⟩
       | true =>
        by_cases h32 : 32 < lp.length
        ·have d32 : decide ((32 : Int) < (lp.length : Int)) = true := decide_eq_true (by omega)
         have HE' : Hid (PE = 2) := lh (by rw [HE3.out, if_pos ⟨rfl, rfl⟩, if_pos (.inl h32)])
         have HA' : Hid (PA = Ad.noAdr) := lh (by rw [HA3.out, HE'.out]; rfl)
         clear HE3 HA3
         go_wp2
         rw [HE'.out, HA'.out]
         exact post_row rd_ty Tryz.results163 rfl rfl (RowAt.stored (n := 4) (ds := #[.string ByteArray.empty, .slice none 0 0, .slice none 0 0, .int .i64 2]) HRw7.out rfl rfl (by omega)) ⟨⟨⟨#[]⟩, none, 0, [], none, 0, [], rfl, rfl, Owns.nil _ _ _ _ _, Owns.nil _ _ _ _ _⟩, (by (with_reducible repeat first|exact HXw7.out|exact eR _|apply eD|apply eN|apply eA|apply eO|apply eS|apply eC);all_goals first|omega|simp <;> omega)⟩
        ·have d32 : decide ((32 : Int) < (lp.length : Int)) = false := decide_eq_false (by omega)
         by_cases h16 : 16 < qs.length
         ·have d16 : decide ((16 : Int) < (qs.length : Int)) = true := decide_eq_true (by omega)
          have HE' : Hid (PE = 2) := lh (by rw [HE3.out, if_pos ⟨rfl, rfl⟩, if_pos (.inr h16)])
          have HA' : Hid (PA = Ad.noAdr) := lh (by rw [HA3.out, HE'.out]; rfl)
          clear HE3 HA3
          go_wp2
          rw [HE'.out, HA'.out]
          exact post_row rd_ty Tryz.results163 rfl rfl (RowAt.stored (n := 4) (ds := #[.string ByteArray.empty, .slice none 0 0, .slice none 0 0, .int .i64 2]) HRw7.out rfl rfl (by omega)) ⟨⟨⟨#[]⟩, none, 0, [], none, 0, [], rfl, rfl, Owns.nil _ _ _ _ _, Owns.nil _ _ _ _ _⟩, (by (with_reducible repeat first|exact HXw7.out|exact eR _|apply eD|apply eN|apply eA|apply eO|apply eS|apply eC);all_goals first|omega|simp <;> omega)⟩
         ·have d16 : decide ((16 : Int) < (qs.length : Int)) = false := decide_eq_false (by omega)
          have HE' : Hid (PE = 0) := lh (by rw [HE3.out, if_pos ⟨rfl, rfl⟩, if_neg (by omega)])
          have HA' : Hid (PA = ⟨bsT x0, lp.map bsT, qs.map prB⟩) := lh (by rw [HA3.out, HE'.out, if_pos rfl])
          clear HE3 HA3
          go_wp2
          rw [HE'.out, HA'.out]
          exact post_row rd_ty Tryz.results163 rfl rfl (RowAt.stored (n := 4) (ds := #[.string x0, .slice Ap lp.length cp, .slice A2 qs.length c2, .int .i64 0]) HRw7.out rfl rfl (by omega)) ⟨⟨x0, Ap, cp, lp, A2, c2, qs, rfl, rfl, (HOp7.out.others (by omega) 0 _).lower (by omega), (HOq7.out.others (by omega) 0 _).lower (by omega)⟩, (by (with_reducible repeat first|exact HXw7.out|exact eR _|apply eD|apply eN|apply eA|apply eO|apply eS|apply eC);all_goals first|omega|simp <;> omega)⟩
  ·obtain ⟨m, hm⟩ : ∃ m, a.size = m + 1 := ⟨a.size - 1, by omega⟩
   by_cases h47 : a[m]'(by omega) = 47
   ·have hb7 : (((a[m]'(by omega)).toNat : Int) == 47) = true := by rw [h47]; rfl
    have HTr := lh (trim_at hm h47)
    have hu9 : (a.extract 0 m).size ≤ 4096 := by rw [ByteArray.size_extract]; omega
    go_upto_region 6 with (fail)
    generalize a.extract 0 m = u at *
    clear hb7 h47
    go_upto_region 7 with (go_at_call 175; refine (rsplit_any u 47 _ (by omega)).mono ?_; rintro e w1 ⟨A1, c1, ls, rfl, hcut, ho1, hl1, hx1⟩)
    have hps : ls.map bsT = Ad.pieces 47 (bsT u) := Ad.pieces_of hcut
    rw [pieces_cutB, HTr.out] at hps
    have HLf : Hid (Ad.leftN (bsT s) = Ad.cutB 47 (Ad.trim1 (bsT a))) := lh (by unfold Ad.leftN; rw [HHd.out])
    rw [← HLf.out] at hps
    cases ls with
    | nil => cases hps
    | cons x0 rest =>
     rw [List.map_cons] at hps
     injection hps with hp0 hp1
     have HPt : Hid (Ad.pathN (bsT s) = Ad.resAll (rest.map bsT)) := lh (by
      rw [hp1]; unfold Ad.pathN
      split
      ·rfl
      ·rfl)
     rw [HHd.out, ← hp0] at HE HA
     have hx0 : x0.size ≤ 4096 := by
      have h1 := piece_le 47 (bsT u) (bsT x0) (by rw [← Ad.pieces_of hcut]; simp)
      rw [bsT_size, bsT_size] at h1
      omega
     have hrz : ∀ x ∈ rest, x.size ≤ 4096 := fun x hx => by
      have h1 := piece_le 47 (bsT u) (bsT x) (by rw [← Ad.pieces_of hcut]; exact List.mem_map_of_mem (List.mem_cons_of_mem _ hx))
      rw [bsT_size, bsT_size] at h1
      omega
     have HRz := lh hrz
     have hrow1 := ((RowAt.new w #[.string ByteArray.empty, .slice none 0 0, .slice none 0 0, .int .i64 0] 215).later _).ext hx1
     have hxw1 := (((Ext.refl w).alloc _).onto _).trans hx1
     have HRw := lh hrow1
     have HXw := lh hxw1
     have hlr := hrow1.lt
     have hmr : roomOf w1 w.heap.size 0 4 = true := by rw [hrow1.room]; rfl
     have HO1 := lh ho1
     rcases ho1.cases with ⟨_, _, e⟩ | ⟨g, cur, rfl, hg1, hg2, hcap, hcm, _, _⟩
     ·cases e
     have hglt : g < w1.heap.size := (Array.getElem?_eq_some_iff.1 hg2).1
     obtain ⟨b9, off9, e9, _, d0⟩ := ReadsStr.cell (HO1.out.reads sE) 0 (by simp)
     injection e9 with e9
     injection e9 with e9 e10
     subst e9 e10
     rw [List.length_cons] at hcap hl1
     unfold maxLen at hcm
     simp only [List.getElem_cons_zero] at d0
     have HNm := lh (fun W => rname_any x0 W (by omega))
     clear hcut hp0 hp1 hx1 hrow1 hxw1 ho1 HLf HTr hrz hg2 HHd
     generalize Ad.leftN (bsT s) = LF at *
     cases hn : Tg.nameB (bsT x0) with
     | false =>
      have hn' : Tg.nameB x0.data.toList = false := hn
      rw [hn'] at HNm
      have HE' : Hid (PE = 3) := lh (by rw [HE.out, hn]; rfl)
      have HA' : Hid (PA = Ad.noAdr) := lh (by rw [HA.out, HE'.out]; rfl)
      clear HE HA hn hn'
      go_wp2_with (go_at_call 110; refine (HNm.out _).mono ?_; rintro e w' ⟨rfl, hxl⟩; obtain ⟨xn, rfl⟩ := hxl.asLater; clear hxl)
      rw [HE'.out, HA'.out]
      exact post_row rd_ty Tryz.results163 rfl rfl (RowAt.stored (n := 4) (ds := #[.string ByteArray.empty, .slice none 0 0, .slice none 0 0, .int .i64 3]) (HRw.out.later _) rfl rfl (by omega)) ⟨⟨⟨#[]⟩, none, 0, [], none, 0, [], rfl, rfl, Owns.nil _ _ _ _ _, Owns.nil _ _ _ _ _⟩, (by (with_reducible repeat first|exact HXw.out|exact eR _|apply eD|apply eN|apply eA|apply eO|apply eS|apply eC);all_goals first|omega|simp <;> omega)⟩
     | true =>
      have hn' : Tg.nameB x0.data.toList = true := hn
      rw [hn'] at HNm
      have HPp : Hid (∀ W, Ext w1 W → ∀ (A0 : Option Addr) (c0 : Nat), (rest.length = 0 ∨ A0 = some ⟨g, 1, none⟩) → Calls Tryz.prog 210 #[.slice A0 rest.length c0] W fun e w' => RslU (Ad.resAll (rest.map bsT)) W.heap.size e w' ∧ Ext W w') := lh (fun W hx A0 c0 h => by
       refine rpath_any A0 c0 rest W (by omega) HRz.out ?_
       rcases h with h | h
       ·intro h9; omega
       ·subst h; exact reads_tail (off := 0) ((HO1.out.reads sE).on hx))
      have HE2 : Hid (PE = if (Ad.resAll (rest.map bsT)).isSome = true ∧ (Ad.quN (bsT b)).isSome = true then (if 32 < ((Ad.resAll (rest.map bsT)).getD []).length ∨ 16 < ((Ad.quN (bsT b)).getD []).length then 2 else 0) else 3) := lh (by rw [HE.out, HPt.out, hn]; simp)
      have HA2 : Hid (PA = if PE = 0 then ⟨bsT x0, (Ad.resAll (rest.map bsT)).getD [], (Ad.quN (bsT b)).getD []⟩ else Ad.noAdr) := lh (by rw [HA.out, HPt.out])
      clear HE HA hn hn' HRz HPt
      generalize Ad.resAll (rest.map bsT) = PT at *
      rcases (show c1 = 1 ∨ 2 ≤ c1 by omega) with hc1 | hc1
      ·have hr0 : rest.length = 0 := by omega
       subst hc1
       go_wp2_with (first
        | (go_at_call 110; refine (HNm.out _).mono ?_; rintro e w' ⟨rfl, hxl⟩; obtain ⟨xn, rfl⟩ := hxl.asLater; clear hxl)
        | (go_at_call 210; refine (show Hid _ from ?_).out))
       refine lh ?_
       (try rw [← hr0])
       refine (HPp.out _ (ext_later _ _) _ _ (.inl hr0)).mono ?_
       rintro e w5 ⟨⟨Ap, cp, lp, one, rfl, hone, hlp, hop⟩, hx5⟩
       have hrow5 := (HRw.out.later _).ext hx5
       have HOne := lh hone
       have HLp := lh hlp
       clear hone hlp
       have HRw5 := lh hrow5
       have HXw5 := lh ((HXw.out.onto _).trans hx5)
       have HOp := lh hop
       have hl5 := hrow5.lt
       have hsz5 := hx5.size
       rw [later_size] at hsz5
       have d05 : w5.cell? ⟨g, 0, none⟩ = some (.string x0) := (hx5.cell (p := ⟨g, 0, none⟩) (by show g < _; rw [later_size]; omega)).trans (((ext_later _ _).cell (p := ⟨g, 0, none⟩) (by exact hglt)).trans d0)
       have hbs5 : w.heap.size + 1 ≤ (later w1 xn).heap.size := by rw [later_size]; omega
       clear hop hx5 hrow5
       go_wp2_with (go_at_call 211; refine (show Hid _ from ?_).out)
       refine lh ?_
       refine (rquery_any b _ hb9).mono ?_
       rintro e w7 ⟨⟨A2, c2, qs, two, rfl, htwo, hqs, hoq⟩, hx7⟩
       have hrow7 := HRw5.out.ext hx7
       have HRw7 := lh hrow7
       have HXw7 := lh (HXw5.out.trans hx7)
       have HOp7 := lh ((HOp.out.ext hx7).lower hbs5)
       have HOq7 := lh (hoq.lower (b2 := w.heap.size + 1) (by omega))
       have d07 : w7.cell? ⟨g, 0, none⟩ = some (.string x0) := (hx7.cell (p := ⟨g, 0, none⟩) (by show g < _; omega)).trans d05
       have hm7 : roomOf w7 w.heap.size 0 4 = true := by rw [hrow7.room]; rfl
       have hl7 := hrow7.lt
       have hsz7 := hx7.size
       have HE3 : Hid (PE = if one = true ∧ two = true then (if 32 < lp.length ∨ 16 < qs.length then 2 else 0) else 3) := lh (by
        have e1 : lp.length = (PT.getD []).length := by rw [← HLp.out, List.length_map]
        have e2 : qs.length = ((Ad.quN (bsT b)).getD []).length := by rw [← hqs, List.length_map]
        rw [HE2.out, HOne.out, htwo, e1, e2])
       have HA3 : Hid (PA = if PE = 0 then ⟨bsT x0, lp.map bsT, qs.map prB⟩ else Ad.noAdr) := lh (by rw [HA2.out, HLp.out, hqs])
       clear hoq hx7 hrow7 HOne HLp htwo hqs HE2 HA2 HPp HOp HRw5 HXw5 HRw HXw HO1
       cases one with
       | false =>
        have HE' : Hid (PE = 3) := lh (by rw [HE3.out]; rfl)
        have HA' : Hid (PA = Ad.noAdr) := lh (by rw [HA3.out, HE'.out]; rfl)
        clear HE3 HA3
        go_wp2
        rw [HE'.out, HA'.out]
        exact post_row rd_ty Tryz.results163 rfl rfl (RowAt.stored (n := 4) (ds := #[.string ByteArray.empty, .slice none 0 0, .slice none 0 0, .int .i64 3]) HRw7.out rfl rfl (by omega)) ⟨⟨⟨#[]⟩, none, 0, [], none, 0, [], rfl, rfl, Owns.nil _ _ _ _ _, Owns.nil _ _ _ _ _⟩, (by (with_reducible repeat first|exact HXw7.out|exact eR _|apply eD|apply eN|apply eA|apply eO|apply eS|apply eC);all_goals first|omega|simp <;> omega)⟩
       | true =>
        cases two with
        | false =>
         have HE' : Hid (PE = 3) := lh (by rw [HE3.out]; rfl)
         have HA' : Hid (PA = Ad.noAdr) := lh (by rw [HA3.out, HE'.out]; rfl)
         clear HE3 HA3
         go_wp2
         rw [HE'.out, HA'.out]
         exact post_row rd_ty Tryz.results163 rfl rfl (RowAt.stored (n := 4) (ds := #[.string ByteArray.empty, .slice none 0 0, .slice none 0 0, .int .i64 3]) HRw7.out rfl rfl (by omega)) ⟨⟨⟨#[]⟩, none, 0, [], none, 0, [], rfl, rfl, Owns.nil _ _ _ _ _, Owns.nil _ _ _ _ _⟩, (by (with_reducible repeat first|exact HXw7.out|exact eR _|apply eD|apply eN|apply eA|apply eO|apply eS|apply eC);all_goals first|omega|simp <;> omega)⟩
        | true =>
         by_cases h32 : 32 < lp.length
         ·have d32 : decide ((32 : Int) < (lp.length : Int)) = true := decide_eq_true (by omega)
          have HE' : Hid (PE = 2) := lh (by rw [HE3.out, if_pos ⟨rfl, rfl⟩, if_pos (.inl h32)])
          have HA' : Hid (PA = Ad.noAdr) := lh (by rw [HA3.out, HE'.out]; rfl)
          clear HE3 HA3
          go_wp2
          rw [HE'.out, HA'.out]
          exact post_row rd_ty Tryz.results163 rfl rfl (RowAt.stored (n := 4) (ds := #[.string ByteArray.empty, .slice none 0 0, .slice none 0 0, .int .i64 2]) HRw7.out rfl rfl (by omega)) ⟨⟨⟨#[]⟩, none, 0, [], none, 0, [], rfl, rfl, Owns.nil _ _ _ _ _, Owns.nil _ _ _ _ _⟩, (by (with_reducible repeat first|exact HXw7.out|exact eR _|apply eD|apply eN|apply eA|apply eO|apply eS|apply eC);all_goals first|omega|simp <;> omega)⟩
         ·have d32 : decide ((32 : Int) < (lp.length : Int)) = false := decide_eq_false (by omega)
          by_cases h16 : 16 < qs.length
          ·have d16 : decide ((16 : Int) < (qs.length : Int)) = true := decide_eq_true (by omega)
           have HE' : Hid (PE = 2) := lh (by rw [HE3.out, if_pos ⟨rfl, rfl⟩, if_pos (.inr h16)])
           have HA' : Hid (PA = Ad.noAdr) := lh (by rw [HA3.out, HE'.out]; rfl)
           clear HE3 HA3
           go_wp2
           rw [HE'.out, HA'.out]
           exact post_row rd_ty Tryz.results163 rfl rfl (RowAt.stored (n := 4) (ds := #[.string ByteArray.empty, .slice none 0 0, .slice none 0 0, .int .i64 2]) HRw7.out rfl rfl (by omega)) ⟨⟨⟨#[]⟩, none, 0, [], none, 0, [], rfl, rfl, Owns.nil _ _ _ _ _, Owns.nil _ _ _ _ _⟩, (by (with_reducible repeat first|exact HXw7.out|exact eR _|apply eD|apply eN|apply eA|apply eO|apply eS|apply eC);all_goals first|omega|simp <;> omega)⟩
          ·have d16 : decide ((16 : Int) < (qs.length : Int)) = false := decide_eq_false (by omega)
           have HE' : Hid (PE = 0) := lh (by rw [HE3.out, if_pos ⟨rfl, rfl⟩, if_neg (by omega)])
           have HA' : Hid (PA = ⟨bsT x0, lp.map bsT, qs.map prB⟩) := lh (by rw [HA3.out, HE'.out, if_pos rfl])
           clear HE3 HA3
           go_wp2
           rw [HE'.out, HA'.out]
           exact post_row rd_ty Tryz.results163 rfl rfl (RowAt.stored (n := 4) (ds := #[.string x0, .slice Ap lp.length cp, .slice A2 qs.length c2, .int .i64 0]) HRw7.out rfl rfl (by omega)) ⟨⟨x0, Ap, cp, lp, A2, c2, qs, rfl, rfl, (HOp7.out.others (by omega) 0 _).lower (by omega), (HOq7.out.others (by omega) 0 _).lower (by omega)⟩, (by (with_reducible repeat first|exact HXw7.out|exact eR _|apply eD|apply eN|apply eA|apply eO|apply eS|apply eC);all_goals first|omega|simp <;> omega)⟩
      ·go_wp2_with (first
        | (go_at_call 110; refine (HNm.out _).mono ?_; rintro e w' ⟨rfl, hxl⟩; obtain ⟨xn, rfl⟩ := hxl.asLater; clear hxl)
        | (go_at_call 210; refine (show Hid _ from ?_).out))
       refine lh ?_
       refine (HPp.out _ (ext_later _ _) _ _ (.inr rfl)).mono ?_
       rintro e w5 ⟨⟨Ap, cp, lp, one, rfl, hone, hlp, hop⟩, hx5⟩
       have hrow5 := (HRw.out.later _).ext hx5
       have HOne := lh hone
       have HLp := lh hlp
       clear hone hlp
       have HRw5 := lh hrow5
       have HXw5 := lh ((HXw.out.onto _).trans hx5)
       have HOp := lh hop
       have hl5 := hrow5.lt
       have hsz5 := hx5.size
       rw [later_size] at hsz5
       have d05 : w5.cell? ⟨g, 0, none⟩ = some (.string x0) := (hx5.cell (p := ⟨g, 0, none⟩) (by show g < _; rw [later_size]; omega)).trans (((ext_later _ _).cell (p := ⟨g, 0, none⟩) (by exact hglt)).trans d0)
       have hbs5 : w.heap.size + 1 ≤ (later w1 xn).heap.size := by rw [later_size]; omega
       clear hop hx5 hrow5
       go_wp2_with (go_at_call 211; refine (show Hid _ from ?_).out)
       refine lh ?_
       refine (rquery_any b _ hb9).mono ?_
       rintro e w7 ⟨⟨A2, c2, qs, two, rfl, htwo, hqs, hoq⟩, hx7⟩
       have hrow7 := HRw5.out.ext hx7
       have HRw7 := lh hrow7
       have HXw7 := lh (HXw5.out.trans hx7)
       have HOp7 := lh ((HOp.out.ext hx7).lower hbs5)
       have HOq7 := lh (hoq.lower (b2 := w.heap.size + 1) (by omega))
       have d07 : w7.cell? ⟨g, 0, none⟩ = some (.string x0) := (hx7.cell (p := ⟨g, 0, none⟩) (by show g < _; omega)).trans d05
       have hm7 : roomOf w7 w.heap.size 0 4 = true := by rw [hrow7.room]; rfl
       have hl7 := hrow7.lt
       have hsz7 := hx7.size
       have HE3 : Hid (PE = if one = true ∧ two = true then (if 32 < lp.length ∨ 16 < qs.length then 2 else 0) else 3) := lh (by
        have e1 : lp.length = (PT.getD []).length := by rw [← HLp.out, List.length_map]
        have e2 : qs.length = ((Ad.quN (bsT b)).getD []).length := by rw [← hqs, List.length_map]
        rw [HE2.out, HOne.out, htwo, e1, e2])
       have HA3 : Hid (PA = if PE = 0 then ⟨bsT x0, lp.map bsT, qs.map prB⟩ else Ad.noAdr) := lh (by rw [HA2.out, HLp.out, hqs])
       clear hoq hx7 hrow7 HOne HLp htwo hqs HE2 HA2 HPp HOp HRw5 HXw5 HRw HXw HO1
       cases one with
       | false =>
        have HE' : Hid (PE = 3) := lh (by rw [HE3.out]; rfl)
        have HA' : Hid (PA = Ad.noAdr) := lh (by rw [HA3.out, HE'.out]; rfl)
        clear HE3 HA3
        go_wp2
        rw [HE'.out, HA'.out]
        exact post_row rd_ty Tryz.results163 rfl rfl (RowAt.stored (n := 4) (ds := #[.string ByteArray.empty, .slice none 0 0, .slice none 0 0, .int .i64 3]) HRw7.out rfl rfl (by omega)) ⟨⟨⟨#[]⟩, none, 0, [], none, 0, [], rfl, rfl, Owns.nil _ _ _ _ _, Owns.nil _ _ _ _ _⟩, (by (with_reducible repeat first|exact HXw7.out|exact eR _|apply eD|apply eN|apply eA|apply eO|apply eS|apply eC);all_goals first|omega|simp <;> omega)⟩
       | true =>
        cases two with
        | false =>
         have HE' : Hid (PE = 3) := lh (by rw [HE3.out]; rfl)
         have HA' : Hid (PA = Ad.noAdr) := lh (by rw [HA3.out, HE'.out]; rfl)
         clear HE3 HA3
         go_wp2
         rw [HE'.out, HA'.out]
         exact post_row rd_ty Tryz.results163 rfl rfl (RowAt.stored (n := 4) (ds := #[.string ByteArray.empty, .slice none 0 0, .slice none 0 0, .int .i64 3]) HRw7.out rfl rfl (by omega)) ⟨⟨⟨#[]⟩, none, 0, [], none, 0, [], rfl, rfl, Owns.nil _ _ _ _ _, Owns.nil _ _ _ _ _⟩, (by (with_reducible repeat first|exact HXw7.out|exact eR _|apply eD|apply eN|apply eA|apply eO|apply eS|apply eC);all_goals first|omega|simp <;> omega)⟩
        | true =>
         by_cases h32 : 32 < lp.length
         ·have d32 : decide ((32 : Int) < (lp.length : Int)) = true := decide_eq_true (by omega)
          have HE' : Hid (PE = 2) := lh (by rw [HE3.out, if_pos ⟨rfl, rfl⟩, if_pos (.inl h32)])
          have HA' : Hid (PA = Ad.noAdr) := lh (by rw [HA3.out, HE'.out]; rfl)
          clear HE3 HA3
          go_wp2
          rw [HE'.out, HA'.out]
          exact post_row rd_ty Tryz.results163 rfl rfl (RowAt.stored (n := 4) (ds := #[.string ByteArray.empty, .slice none 0 0, .slice none 0 0, .int .i64 2]) HRw7.out rfl rfl (by omega)) ⟨⟨⟨#[]⟩, none, 0, [], none, 0, [], rfl, rfl, Owns.nil _ _ _ _ _, Owns.nil _ _ _ _ _⟩, (by (with_reducible repeat first|exact HXw7.out|exact eR _|apply eD|apply eN|apply eA|apply eO|apply eS|apply eC);all_goals first|omega|simp <;> omega)⟩
         ·have d32 : decide ((32 : Int) < (lp.length : Int)) = false := decide_eq_false (by omega)
          by_cases h16 : 16 < qs.length
          ·have d16 : decide ((16 : Int) < (qs.length : Int)) = true := decide_eq_true (by omega)
           have HE' : Hid (PE = 2) := lh (by rw [HE3.out, if_pos ⟨rfl, rfl⟩, if_pos (.inr h16)])
           have HA' : Hid (PA = Ad.noAdr) := lh (by rw [HA3.out, HE'.out]; rfl)
           clear HE3 HA3
           go_wp2
           rw [HE'.out, HA'.out]
           exact post_row rd_ty Tryz.results163 rfl rfl (RowAt.stored (n := 4) (ds := #[.string ByteArray.empty, .slice none 0 0, .slice none 0 0, .int .i64 2]) HRw7.out rfl rfl (by omega)) ⟨⟨⟨#[]⟩, none, 0, [], none, 0, [], rfl, rfl, Owns.nil _ _ _ _ _, Owns.nil _ _ _ _ _⟩, (by (with_reducible repeat first|exact HXw7.out|exact eR _|apply eD|apply eN|apply eA|apply eO|apply eS|apply eC);all_goals first|omega|simp <;> omega)⟩
          ·have d16 : decide ((16 : Int) < (qs.length : Int)) = false := decide_eq_false (by omega)
           have HE' : Hid (PE = 0) := lh (by rw [HE3.out, if_pos ⟨rfl, rfl⟩, if_neg (by omega)])
           have HA' : Hid (PA = ⟨bsT x0, lp.map bsT, qs.map prB⟩) := lh (by rw [HA3.out, HE'.out, if_pos rfl])
           clear HE3 HA3
           go_wp2
           rw [HE'.out, HA'.out]
           exact post_row rd_ty Tryz.results163 rfl rfl (RowAt.stored (n := 4) (ds := #[.string x0, .slice Ap lp.length cp, .slice A2 qs.length c2, .int .i64 0]) HRw7.out rfl rfl (by omega)) ⟨⟨x0, Ap, cp, lp, A2, c2, qs, rfl, rfl, (HOp7.out.others (by omega) 0 _).lower (by omega), (HOq7.out.others (by omega) 0 _).lower (by omega)⟩, (by (with_reducible repeat first|exact HXw7.out|exact eR _|apply eD|apply eN|apply eA|apply eO|apply eS|apply eC);all_goals first|omega|simp <;> omega)⟩
   ·have hb7 : (((a[m]'(by omega)).toNat : Int) == 47) = false := by
     rw [beq_eq_false_iff_ne]
     exact fun h => h47 (UInt8.toNat_inj.1 (by rw [show (47 : UInt8).toNat = 47 from rfl]; omega))
    have HTr : Hid (bsT a = Ad.trim1 (bsT a)) := lh (trim_no (fun m' hm' => same_last hm hm' h47))
    go_upto_region 6 with (fail)
    clear hb7 h47
    go_upto_region 7 with (go_at_call 175; refine (rsplit_any a 47 _ (by omega)).mono ?_; rintro e w1 ⟨A1, c1, ls, rfl, hcut, ho1, hl1, hx1⟩)
    have hps : ls.map bsT = Ad.pieces 47 (bsT a) := Ad.pieces_of hcut
    rw [pieces_cutB, HTr.out] at hps
    have HLf : Hid (Ad.leftN (bsT s) = Ad.cutB 47 (Ad.trim1 (bsT a))) := lh (by unfold Ad.leftN; rw [HHd.out])
    rw [← HLf.out] at hps
    cases ls with
    | nil => cases hps
    | cons x0 rest =>
     rw [List.map_cons] at hps
     injection hps with hp0 hp1
     have HPt : Hid (Ad.pathN (bsT s) = Ad.resAll (rest.map bsT)) := lh (by
      rw [hp1]; unfold Ad.pathN
      split
      ·rfl
      ·rfl)
     rw [HHd.out, ← hp0] at HE HA
     have hx0 : x0.size ≤ 4096 := by
      have h1 := piece_le 47 (bsT a) (bsT x0) (by rw [← Ad.pieces_of hcut]; simp)
      rw [bsT_size, bsT_size] at h1
      omega
     have hrz : ∀ x ∈ rest, x.size ≤ 4096 := fun x hx => by
      have h1 := piece_le 47 (bsT a) (bsT x) (by rw [← Ad.pieces_of hcut]; exact List.mem_map_of_mem (List.mem_cons_of_mem _ hx))
      rw [bsT_size, bsT_size] at h1
      omega
     have HRz := lh hrz
     have hrow1 := ((RowAt.new w #[.string ByteArray.empty, .slice none 0 0, .slice none 0 0, .int .i64 0] 215).later _).ext hx1
     have hxw1 := (((Ext.refl w).alloc _).onto _).trans hx1
     have HRw := lh hrow1
     have HXw := lh hxw1
     have hlr := hrow1.lt
     have hmr : roomOf w1 w.heap.size 0 4 = true := by rw [hrow1.room]; rfl
     have HO1 := lh ho1
     rcases ho1.cases with ⟨_, _, e⟩ | ⟨g, cur, rfl, hg1, hg2, hcap, hcm, _, _⟩
     ·cases e
     have hglt : g < w1.heap.size := (Array.getElem?_eq_some_iff.1 hg2).1
     obtain ⟨b9, off9, e9, _, d0⟩ := ReadsStr.cell (HO1.out.reads sE) 0 (by simp)
     injection e9 with e9
     injection e9 with e9 e10
     subst e9 e10
     rw [List.length_cons] at hcap hl1
     unfold maxLen at hcm
     simp only [List.getElem_cons_zero] at d0
     have HNm := lh (fun W => rname_any x0 W (by omega))
     clear hcut hp0 hp1 hx1 hrow1 hxw1 ho1 HLf HTr hrz hg2 HHd
     generalize Ad.leftN (bsT s) = LF at *
     cases hn : Tg.nameB (bsT x0) with
     | false =>
      have hn' : Tg.nameB x0.data.toList = false := hn
      rw [hn'] at HNm
      have HE' : Hid (PE = 3) := lh (by rw [HE.out, hn]; rfl)
      have HA' : Hid (PA = Ad.noAdr) := lh (by rw [HA.out, HE'.out]; rfl)
      clear HE HA hn hn'
      go_wp2_with (go_at_call 110; refine (HNm.out _).mono ?_; rintro e w' ⟨rfl, hxl⟩; obtain ⟨xn, rfl⟩ := hxl.asLater; clear hxl)
      rw [HE'.out, HA'.out]
      exact post_row rd_ty Tryz.results163 rfl rfl (RowAt.stored (n := 4) (ds := #[.string ByteArray.empty, .slice none 0 0, .slice none 0 0, .int .i64 3]) (HRw.out.later _) rfl rfl (by omega)) ⟨⟨⟨#[]⟩, none, 0, [], none, 0, [], rfl, rfl, Owns.nil _ _ _ _ _, Owns.nil _ _ _ _ _⟩, (by (with_reducible repeat first|exact HXw.out|exact eR _|apply eD|apply eN|apply eA|apply eO|apply eS|apply eC);all_goals first|omega|simp <;> omega)⟩
     | true =>
      have hn' : Tg.nameB x0.data.toList = true := hn
      rw [hn'] at HNm
      have HPp : Hid (∀ W, Ext w1 W → ∀ (A0 : Option Addr) (c0 : Nat), (rest.length = 0 ∨ A0 = some ⟨g, 1, none⟩) → Calls Tryz.prog 210 #[.slice A0 rest.length c0] W fun e w' => RslU (Ad.resAll (rest.map bsT)) W.heap.size e w' ∧ Ext W w') := lh (fun W hx A0 c0 h => by
       refine rpath_any A0 c0 rest W (by omega) HRz.out ?_
       rcases h with h | h
       ·intro h9; omega
       ·subst h; exact reads_tail (off := 0) ((HO1.out.reads sE).on hx))
      have HE2 : Hid (PE = if (Ad.resAll (rest.map bsT)).isSome = true ∧ (Ad.quN (bsT b)).isSome = true then (if 32 < ((Ad.resAll (rest.map bsT)).getD []).length ∨ 16 < ((Ad.quN (bsT b)).getD []).length then 2 else 0) else 3) := lh (by rw [HE.out, HPt.out, hn]; simp)
      have HA2 : Hid (PA = if PE = 0 then ⟨bsT x0, (Ad.resAll (rest.map bsT)).getD [], (Ad.quN (bsT b)).getD []⟩ else Ad.noAdr) := lh (by rw [HA.out, HPt.out])
      clear HE HA hn hn' HRz HPt
      generalize Ad.resAll (rest.map bsT) = PT at *
      rcases (show c1 = 1 ∨ 2 ≤ c1 by omega) with hc1 | hc1
      ·have hr0 : rest.length = 0 := by omega
       subst hc1
       go_wp2_with (first
        | (go_at_call 110; refine (HNm.out _).mono ?_; rintro e w' ⟨rfl, hxl⟩; obtain ⟨xn, rfl⟩ := hxl.asLater; clear hxl)
        | (go_at_call 210; refine (show Hid _ from ?_).out))
       refine lh ?_
       (try rw [← hr0])
       refine (HPp.out _ (ext_later _ _) _ _ (.inl hr0)).mono ?_
       rintro e w5 ⟨⟨Ap, cp, lp, one, rfl, hone, hlp, hop⟩, hx5⟩
       have hrow5 := (HRw.out.later _).ext hx5
       have HOne := lh hone
       have HLp := lh hlp
       clear hone hlp
       have HRw5 := lh hrow5
       have HXw5 := lh ((HXw.out.onto _).trans hx5)
       have HOp := lh hop
       have hl5 := hrow5.lt
       have hsz5 := hx5.size
       rw [later_size] at hsz5
       have d05 : w5.cell? ⟨g, 0, none⟩ = some (.string x0) := (hx5.cell (p := ⟨g, 0, none⟩) (by show g < _; rw [later_size]; omega)).trans (((ext_later _ _).cell (p := ⟨g, 0, none⟩) (by exact hglt)).trans d0)
       have hbs5 : w.heap.size + 1 ≤ (later w1 xn).heap.size := by rw [later_size]; omega
       clear hop hx5 hrow5
       go_wp2_with (go_at_call 211; refine (show Hid _ from ?_).out)
       refine lh ?_
       refine (rquery_any b _ hb9).mono ?_
       rintro e w7 ⟨⟨A2, c2, qs, two, rfl, htwo, hqs, hoq⟩, hx7⟩
       have hrow7 := HRw5.out.ext hx7
       have HRw7 := lh hrow7
       have HXw7 := lh (HXw5.out.trans hx7)
       have HOp7 := lh ((HOp.out.ext hx7).lower hbs5)
       have HOq7 := lh (hoq.lower (b2 := w.heap.size + 1) (by omega))
       have d07 : w7.cell? ⟨g, 0, none⟩ = some (.string x0) := (hx7.cell (p := ⟨g, 0, none⟩) (by show g < _; omega)).trans d05
       have hm7 : roomOf w7 w.heap.size 0 4 = true := by rw [hrow7.room]; rfl
       have hl7 := hrow7.lt
       have hsz7 := hx7.size
       have HE3 : Hid (PE = if one = true ∧ two = true then (if 32 < lp.length ∨ 16 < qs.length then 2 else 0) else 3) := lh (by
        have e1 : lp.length = (PT.getD []).length := by rw [← HLp.out, List.length_map]
        have e2 : qs.length = ((Ad.quN (bsT b)).getD []).length := by rw [← hqs, List.length_map]
        rw [HE2.out, HOne.out, htwo, e1, e2])
       have HA3 : Hid (PA = if PE = 0 then ⟨bsT x0, lp.map bsT, qs.map prB⟩ else Ad.noAdr) := lh (by rw [HA2.out, HLp.out, hqs])
       clear hoq hx7 hrow7 HOne HLp htwo hqs HE2 HA2 HPp HOp HRw5 HXw5 HRw HXw HO1
       cases one with
       | false =>
        have HE' : Hid (PE = 3) := lh (by rw [HE3.out]; rfl)
        have HA' : Hid (PA = Ad.noAdr) := lh (by rw [HA3.out, HE'.out]; rfl)
        clear HE3 HA3
        go_wp2
        rw [HE'.out, HA'.out]
        exact post_row rd_ty Tryz.results163 rfl rfl (RowAt.stored (n := 4) (ds := #[.string ByteArray.empty, .slice none 0 0, .slice none 0 0, .int .i64 3]) HRw7.out rfl rfl (by omega)) ⟨⟨⟨#[]⟩, none, 0, [], none, 0, [], rfl, rfl, Owns.nil _ _ _ _ _, Owns.nil _ _ _ _ _⟩, (by (with_reducible repeat first|exact HXw7.out|exact eR _|apply eD|apply eN|apply eA|apply eO|apply eS|apply eC);all_goals first|omega|simp <;> omega)⟩
       | true =>
        cases two with
        | false =>
         have HE' : Hid (PE = 3) := lh (by rw [HE3.out]; rfl)
         have HA' : Hid (PA = Ad.noAdr) := lh (by rw [HA3.out, HE'.out]; rfl)
         clear HE3 HA3
         go_wp2
         rw [HE'.out, HA'.out]
         exact post_row rd_ty Tryz.results163 rfl rfl (RowAt.stored (n := 4) (ds := #[.string ByteArray.empty, .slice none 0 0, .slice none 0 0, .int .i64 3]) HRw7.out rfl rfl (by omega)) ⟨⟨⟨#[]⟩, none, 0, [], none, 0, [], rfl, rfl, Owns.nil _ _ _ _ _, Owns.nil _ _ _ _ _⟩, (by (with_reducible repeat first|exact HXw7.out|exact eR _|apply eD|apply eN|apply eA|apply eO|apply eS|apply eC);all_goals first|omega|simp <;> omega)⟩
        | true =>
         by_cases h32 : 32 < lp.length
         ·have d32 : decide ((32 : Int) < (lp.length : Int)) = true := decide_eq_true (by omega)
          have HE' : Hid (PE = 2) := lh (by rw [HE3.out, if_pos ⟨rfl, rfl⟩, if_pos (.inl h32)])
          have HA' : Hid (PA = Ad.noAdr) := lh (by rw [HA3.out, HE'.out]; rfl)
          clear HE3 HA3
          go_wp2
          rw [HE'.out, HA'.out]
          exact post_row rd_ty Tryz.results163 rfl rfl (RowAt.stored (n := 4) (ds := #[.string ByteArray.empty, .slice none 0 0, .slice none 0 0, .int .i64 2]) HRw7.out rfl rfl (by omega)) ⟨⟨⟨#[]⟩, none, 0, [], none, 0, [], rfl, rfl, Owns.nil _ _ _ _ _, Owns.nil _ _ _ _ _⟩, (by (with_reducible repeat first|exact HXw7.out|exact eR _|apply eD|apply eN|apply eA|apply eO|apply eS|apply eC);all_goals first|omega|simp <;> omega)⟩
         ·have d32 : decide ((32 : Int) < (lp.length : Int)) = false := decide_eq_false (by omega)
          by_cases h16 : 16 < qs.length
          ·have d16 : decide ((16 : Int) < (qs.length : Int)) = true := decide_eq_true (by omega)
           have HE' : Hid (PE = 2) := lh (by rw [HE3.out, if_pos ⟨rfl, rfl⟩, if_pos (.inr h16)])
           have HA' : Hid (PA = Ad.noAdr) := lh (by rw [HA3.out, HE'.out]; rfl)
           clear HE3 HA3
           go_wp2
           rw [HE'.out, HA'.out]
           exact post_row rd_ty Tryz.results163 rfl rfl (RowAt.stored (n := 4) (ds := #[.string ByteArray.empty, .slice none 0 0, .slice none 0 0, .int .i64 2]) HRw7.out rfl rfl (by omega)) ⟨⟨⟨#[]⟩, none, 0, [], none, 0, [], rfl, rfl, Owns.nil _ _ _ _ _, Owns.nil _ _ _ _ _⟩, (by (with_reducible repeat first|exact HXw7.out|exact eR _|apply eD|apply eN|apply eA|apply eO|apply eS|apply eC);all_goals first|omega|simp <;> omega)⟩
          ·have d16 : decide ((16 : Int) < (qs.length : Int)) = false := decide_eq_false (by omega)
           have HE' : Hid (PE = 0) := lh (by rw [HE3.out, if_pos ⟨rfl, rfl⟩, if_neg (by omega)])
           have HA' : Hid (PA = ⟨bsT x0, lp.map bsT, qs.map prB⟩) := lh (by rw [HA3.out, HE'.out, if_pos rfl])
           clear HE3 HA3
           go_wp2
           rw [HE'.out, HA'.out]
           exact post_row rd_ty Tryz.results163 rfl rfl (RowAt.stored (n := 4) (ds := #[.string x0, .slice Ap lp.length cp, .slice A2 qs.length c2, .int .i64 0]) HRw7.out rfl rfl (by omega)) ⟨⟨x0, Ap, cp, lp, A2, c2, qs, rfl, rfl, (HOp7.out.others (by omega) 0 _).lower (by omega), (HOq7.out.others (by omega) 0 _).lower (by omega)⟩, (by (with_reducible repeat first|exact HXw7.out|exact eR _|apply eD|apply eN|apply eA|apply eO|apply eS|apply eC);all_goals first|omega|simp <;> omega)⟩
      ·go_wp2_with (first
        | (go_at_call 110; refine (HNm.out _).mono ?_; rintro e w' ⟨rfl, hxl⟩; obtain ⟨xn, rfl⟩ := hxl.asLater; clear hxl)
        | (go_at_call 210; refine (show Hid _ from ?_).out))
       refine lh ?_
       refine (HPp.out _ (ext_later _ _) _ _ (.inr rfl)).mono ?_
       rintro e w5 ⟨⟨Ap, cp, lp, one, rfl, hone, hlp, hop⟩, hx5⟩
       have hrow5 := (HRw.out.later _).ext hx5
       have HOne := lh hone
       have HLp := lh hlp
       clear hone hlp
       have HRw5 := lh hrow5
       have HXw5 := lh ((HXw.out.onto _).trans hx5)
       have HOp := lh hop
       have hl5 := hrow5.lt
       have hsz5 := hx5.size
       rw [later_size] at hsz5
       have d05 : w5.cell? ⟨g, 0, none⟩ = some (.string x0) := (hx5.cell (p := ⟨g, 0, none⟩) (by show g < _; rw [later_size]; omega)).trans (((ext_later _ _).cell (p := ⟨g, 0, none⟩) (by exact hglt)).trans d0)
       have hbs5 : w.heap.size + 1 ≤ (later w1 xn).heap.size := by rw [later_size]; omega
       clear hop hx5 hrow5
       go_wp2_with (go_at_call 211; refine (show Hid _ from ?_).out)
       refine lh ?_
       refine (rquery_any b _ hb9).mono ?_
       rintro e w7 ⟨⟨A2, c2, qs, two, rfl, htwo, hqs, hoq⟩, hx7⟩
       have hrow7 := HRw5.out.ext hx7
       have HRw7 := lh hrow7
       have HXw7 := lh (HXw5.out.trans hx7)
       have HOp7 := lh ((HOp.out.ext hx7).lower hbs5)
       have HOq7 := lh (hoq.lower (b2 := w.heap.size + 1) (by omega))
       have d07 : w7.cell? ⟨g, 0, none⟩ = some (.string x0) := (hx7.cell (p := ⟨g, 0, none⟩) (by show g < _; omega)).trans d05
       have hm7 : roomOf w7 w.heap.size 0 4 = true := by rw [hrow7.room]; rfl
       have hl7 := hrow7.lt
       have hsz7 := hx7.size
       have HE3 : Hid (PE = if one = true ∧ two = true then (if 32 < lp.length ∨ 16 < qs.length then 2 else 0) else 3) := lh (by
        have e1 : lp.length = (PT.getD []).length := by rw [← HLp.out, List.length_map]
        have e2 : qs.length = ((Ad.quN (bsT b)).getD []).length := by rw [← hqs, List.length_map]
        rw [HE2.out, HOne.out, htwo, e1, e2])
       have HA3 : Hid (PA = if PE = 0 then ⟨bsT x0, lp.map bsT, qs.map prB⟩ else Ad.noAdr) := lh (by rw [HA2.out, HLp.out, hqs])
       clear hoq hx7 hrow7 HOne HLp htwo hqs HE2 HA2 HPp HOp HRw5 HXw5 HRw HXw HO1
       cases one with
       | false =>
        have HE' : Hid (PE = 3) := lh (by rw [HE3.out]; rfl)
        have HA' : Hid (PA = Ad.noAdr) := lh (by rw [HA3.out, HE'.out]; rfl)
        clear HE3 HA3
        go_wp2
        rw [HE'.out, HA'.out]
        exact post_row rd_ty Tryz.results163 rfl rfl (RowAt.stored (n := 4) (ds := #[.string ByteArray.empty, .slice none 0 0, .slice none 0 0, .int .i64 3]) HRw7.out rfl rfl (by omega)) ⟨⟨⟨#[]⟩, none, 0, [], none, 0, [], rfl, rfl, Owns.nil _ _ _ _ _, Owns.nil _ _ _ _ _⟩, (by (with_reducible repeat first|exact HXw7.out|exact eR _|apply eD|apply eN|apply eA|apply eO|apply eS|apply eC);all_goals first|omega|simp <;> omega)⟩
       | true =>
        cases two with
        | false =>
         have HE' : Hid (PE = 3) := lh (by rw [HE3.out]; rfl)
         have HA' : Hid (PA = Ad.noAdr) := lh (by rw [HA3.out, HE'.out]; rfl)
         clear HE3 HA3
         go_wp2
         rw [HE'.out, HA'.out]
         exact post_row rd_ty Tryz.results163 rfl rfl (RowAt.stored (n := 4) (ds := #[.string ByteArray.empty, .slice none 0 0, .slice none 0 0, .int .i64 3]) HRw7.out rfl rfl (by omega)) ⟨⟨⟨#[]⟩, none, 0, [], none, 0, [], rfl, rfl, Owns.nil _ _ _ _ _, Owns.nil _ _ _ _ _⟩, (by (with_reducible repeat first|exact HXw7.out|exact eR _|apply eD|apply eN|apply eA|apply eO|apply eS|apply eC);all_goals first|omega|simp <;> omega)⟩
        | true =>
         by_cases h32 : 32 < lp.length
         ·have d32 : decide ((32 : Int) < (lp.length : Int)) = true := decide_eq_true (by omega)
          have HE' : Hid (PE = 2) := lh (by rw [HE3.out, if_pos ⟨rfl, rfl⟩, if_pos (.inl h32)])
          have HA' : Hid (PA = Ad.noAdr) := lh (by rw [HA3.out, HE'.out]; rfl)
          clear HE3 HA3
          go_wp2
          rw [HE'.out, HA'.out]
          exact post_row rd_ty Tryz.results163 rfl rfl (RowAt.stored (n := 4) (ds := #[.string ByteArray.empty, .slice none 0 0, .slice none 0 0, .int .i64 2]) HRw7.out rfl rfl (by omega)) ⟨⟨⟨#[]⟩, none, 0, [], none, 0, [], rfl, rfl, Owns.nil _ _ _ _ _, Owns.nil _ _ _ _ _⟩, (by (with_reducible repeat first|exact HXw7.out|exact eR _|apply eD|apply eN|apply eA|apply eO|apply eS|apply eC);all_goals first|omega|simp <;> omega)⟩
         ·have d32 : decide ((32 : Int) < (lp.length : Int)) = false := decide_eq_false (by omega)
          by_cases h16 : 16 < qs.length
          ·have d16 : decide ((16 : Int) < (qs.length : Int)) = true := decide_eq_true (by omega)
           have HE' : Hid (PE = 2) := lh (by rw [HE3.out, if_pos ⟨rfl, rfl⟩, if_pos (.inr h16)])
           have HA' : Hid (PA = Ad.noAdr) := lh (by rw [HA3.out, HE'.out]; rfl)
           clear HE3 HA3
           go_wp2
           rw [HE'.out, HA'.out]
           exact post_row rd_ty Tryz.results163 rfl rfl (RowAt.stored (n := 4) (ds := #[.string ByteArray.empty, .slice none 0 0, .slice none 0 0, .int .i64 2]) HRw7.out rfl rfl (by omega)) ⟨⟨⟨#[]⟩, none, 0, [], none, 0, [], rfl, rfl, Owns.nil _ _ _ _ _, Owns.nil _ _ _ _ _⟩, (by (with_reducible repeat first|exact HXw7.out|exact eR _|apply eD|apply eN|apply eA|apply eO|apply eS|apply eC);all_goals first|omega|simp <;> omega)⟩
          ·have d16 : decide ((16 : Int) < (qs.length : Int)) = false := decide_eq_false (by omega)
           have HE' : Hid (PE = 0) := lh (by rw [HE3.out, if_pos ⟨rfl, rfl⟩, if_neg (by omega)])
           have HA' : Hid (PA = ⟨bsT x0, lp.map bsT, qs.map prB⟩) := lh (by rw [HA3.out, HE'.out, if_pos rfl])
           clear HE3 HA3
           go_wp2
           rw [HE'.out, HA'.out]
           exact post_row rd_ty Tryz.results163 rfl rfl (RowAt.stored (n := 4) (ds := #[.string x0, .slice Ap lp.length cp, .slice A2 qs.length c2, .int .i64 0]) HRw7.out rfl rfl (by omega)) ⟨⟨x0, Ap, cp, lp, A2, c2, qs, rfl, rfl, (HOp7.out.others (by omega) 0 _).lower (by omega), (HOq7.out.others (by omega) 0 _).lower (by omega)⟩, (by (with_reducible repeat first|exact HXw7.out|exact eR _|apply eD|apply eN|apply eA|apply eO|apply eS|apply eC);all_goals first|omega|simp <;> omega)⟩
end Go.Proofs.YtpojnhikgjcgmaaGreatDoor

namespace Go.Proofs.YtpojnhikgjcgmaaGreatDoor
open Go.RowKit Go.Shelf
open Go.Proofs
theorem bs_eq {a : ByteArray} {l : List UInt8} (h : bsT a = l) : a = ⟨l.toArray⟩ := by
 rw [← h]; exact (bs_mk a).symm
theorem rtext_any (cu : ByteArray) (A : Option Addr) (c : Nat) (ls : List ByteArray) (A2 : Option Addr) (c2 : Nat) (qs : List PrB) (w : World) (h1 : cu.size ≤ 64) (h2 : ∀ x ∈ ls, x.size ≤ 64) (h3 : ∀ x ∈ qs, x.1.size ≤ 64 ∧ x.2.size ≤ 64) (hl : ls.length ≤ 32) (hq : qs.length ≤ 16)
  (hr : ReadsStr w w.heap.size A ls) (hr2 : ReadsPr w w.heap.size A2 qs) :
  Calls Tryz.prog 213 #[.agg #[.string cu, .slice A ls.length c, .slice A2 qs.length c2]] w fun e w' => e = .returned (.string ⟨(Ad.textT ⟨bsT cu, ls.map bsT, qs.map prB⟩).toArray⟩) ∧ Ext w w' := by
 have HR := lh hr
 have HR2 := lh hr2
 have H2 := lh h2
 have H3 := lh h3
 clear hr hr2 h2 h3
 go_enter Tryz.func213, Tryz.ntmps213
 go_wp2
 refine wp_world (fun W => Ext w W ∧ RowAt W w.heap.size #[.string cu, .slice A ls.length c, .slice A2 qs.length c2]) ⟨(by (with_reducible repeat first|exact eR _|apply eD|apply eN|apply eA|apply eO|apply eS|apply eC);all_goals first|omega|simp <;> omega), RowAt.new _ _ _⟩ ?_
 rintro W1 ⟨x1, r1⟩
 have HX1 := lh x1
 have HA1 := lh r1
 clear x1 r1
 go_loopw [3, 4] (fun o i wr => ∃ (k : Nat) (out : ByteArray), k ≤ ls.length ∧ o = .string out ∧ i = .int .i64 k ∧ Hid (bsT out = bsT cu ++ Ad.pathT ((ls.take k).map bsT)) ∧ Hid (Ext w wr) ∧ Hid (RowAt wr w.heap.size #[.string cu, .slice A ls.length c, .slice A2 qs.length c2]) ∧ out.size ≤ 64 + 65 * k) (fun _ i _ => ls.length - (intOf i).toNat)
 case atStart => exact ⟨0, cu, Nat.zero_le _, rfl, rfl, lh (by simp [Ad.pathT]), HX1, HA1, by omega⟩
 case round =>
  obtain ⟨k, out, hk, rfl, rfl, HB, HX, HA, hln⟩ := hrel
  have a1 := HA.out.cell 1
  have hlr := HA.out.lt
  by_cases hlt : k < ls.length
  ·obtain ⟨b, off, rfl, hb, d1⟩ := ReadsStr.cell (HR.out.ext HX.out (Nat.le_refl _)) k hlt
   have hx64 := H2.out _ (List.getElem_mem hlt)
   have HN : Hid (bsT (out ++ ⟨#[47]⟩ ++ ls[k]) = bsT cu ++ Ad.pathT ((ls.take (k + 1)).map bsT)) := lh (by
    have h := pathT_succ (ls.map bsT) k (by simpa using hlt)
    rw [List.map_take, h, bsT_app, bsT_app, HB.out, List.getElem_map, List.map_take]
    simp [bsT])
   generalize ls[k] = x at *
   have hsx : (out ++ ⟨#[47]⟩ ++ x).size ≤ 64 + 65 * (k + 1) := by
    simp only [ByteArray.size_append]; have : (⟨#[47]⟩ : ByteArray).size = 1 := rfl; omega
   go_wp2
   go_roundw
   case rel => exact ⟨k + 1, out ++ ⟨#[47]⟩ ++ x, by omega, rfl, by go_num, HN, HX, HA, hsx⟩
   case measure => simp [intOf]; omega
  ·have e : k = ls.length := by omega
   subst e
   rw [List.take_of_length_le (Nat.le_refl _)] at HB
   have a2 := HA.out.cell 2
   obtain ⟨L, hL⟩ : ∃ L, bsT cu ++ Ad.pathT (ls.map bsT) = L := ⟨_, rfl⟩
   have HT : Hid (Ad.textT ⟨bsT cu, ls.map bsT, qs.map prB⟩ = L ++ Ad.quT (qs.map prB)) := lh (by rw [← hL]; rfl)
   rw [hL] at HB
   clear hL
   go_wp2
   go_loopw [3, 5] (fun o i wr => ∃ (k : Nat) (out : ByteArray), k ≤ qs.length ∧ o = .string out ∧ i = .int .i64 k ∧ Hid (bsT out = L ++ Ad.quT ((qs.map prB).take k)) ∧ Hid (Ext w wr) ∧ Hid (RowAt wr w.heap.size #[.string cu, .slice A ls.length c, .slice A2 qs.length c2]) ∧ out.size ≤ 2200 + 140 * k) (fun _ i _ => qs.length - (intOf i).toNat)
   case atStart => exact ⟨0, out, Nat.zero_le _, rfl, rfl, lh (by simpa [Ad.quT] using HB.out), HX, HA, by omega⟩
   clear HB HX HA a1 a2 hlr hln
   case round =>
    obtain ⟨k, out, hk, rfl, rfl, HB, HX, HA, hln⟩ := hrel
    have a2 := HA.out.cell 2
    have hlr := HA.out.lt
    by_cases hlt : k < qs.length
    ·obtain ⟨b, off, rfl, hb, d1, d2⟩ := ReadsPr.cell (HR2.out.ext HX.out (Nat.le_refl _)) k hlt
     obtain ⟨hx1, hx2⟩ := H3.out _ (List.getElem_mem hlt)
     have HN : Hid (bsT (out ++ sepS k ++ qs[k].1 ++ ⟨#[61]⟩ ++ qs[k].2) = L ++ Ad.quT ((qs.map prB).take (k + 1))) := lh (by
      rw [quT_succ (qs.map prB) k (by simpa using hlt), List.getElem_map, bsT_app, bsT_app, bsT_app, bsT_app, sepS_bs, HB.out]
      simp only [List.append_assoc, prB, Ad.pairT]
      rfl)
     have hsx : (out ++ sepS k ++ qs[k].1 ++ ⟨#[61]⟩ ++ qs[k].2).size ≤ 2200 + 140 * (k + 1) := by
      have hsk := sepS_size k
      have : (⟨#[61]⟩ : ByteArray).size = 1 := rfl
      simp only [ByteArray.size_append]; omega
     generalize qs[k] = p at *
     obtain ⟨p1, p2⟩ := p
     simp only [] at d1 d2 hx1 hx2 HN hsx
     rcases Nat.eq_zero_or_pos k with hk0 | hk0
     ·subst hk0
      rw [show sepS 0 = ⟨#[63]⟩ from rfl] at HN hsx
      simp only [Nat.zero_mul, Nat.add_zero] at d1 d2
      go_wp2
      refine wp_region_later (by kernel_rfl) (by kernel_rfl) ?_
      repeat (first | go_big_quiet_step (fail) | quiet_step (fail))
      refine wpQuiet_nil ?_
      rintro _ ⟨xq, rfl⟩
      go_wp2
      go_roundw
      case rel => exact ⟨0 + 1, out ++ ⟨#[63]⟩ ++ p1 ++ ⟨#[61]⟩ ++ p2, by omega, rfl, by go_num, HN, lh (HX.out.onto _), lh (HA.out.later _), hsx⟩
      case measure => simp [intOf]; omega
     ·rw [show sepS k = ⟨#[38]⟩ from if_neg (by omega)] at HN hsx
      have e0 : ((k : Int) == 0) = false := by rw [beq_eq_false_iff_ne]; omega
      go_wp2
      refine wp_region_later (by kernel_rfl) (by kernel_rfl) ?_
      repeat (first | go_big_quiet_step (fail) | quiet_step (fail))
      refine wpQuiet_nil ?_
      rintro _ ⟨xq, rfl⟩
      go_wp2
      go_roundw
      case rel => exact ⟨k + 1, out ++ ⟨#[38]⟩ ++ p1 ++ ⟨#[61]⟩ ++ p2, by omega, rfl, by go_num, HN, lh (HX.out.onto _), lh (HA.out.later _), hsx⟩
      case measure => simp [intOf]; omega
    ·have e : k = qs.length := by omega
     subst e
     rw [List.take_of_length_le (by rw [List.length_map]; exact Nat.le_refl _), ← HT.out] at HB
     have HS := lh (bs_eq HB.out)
     go_wp2
     go_ret
     exact ⟨by rw [← HS.out]; rfl, HX.out⟩
theorem rformed_any (cu : ByteArray) (A : Option Addr) (c : Nat) (ls : List ByteArray) (A2 : Option Addr) (c2 : Nat) (qs : List PrB) (w : World) (hn : Tg.nameB (bsT cu) = true) (hw : ∀ x ∈ ls, Tg.wordB (bsT x) = true) (hg : ∀ p ∈ qs, Ad.goodP (prB p) = true) (ha : Ad.AscP (qs.map prB)) (hl : ls.length ≤ 32) (hq : qs.length ≤ 16)
  (hr : ReadsStr w w.heap.size A ls) (hr2 : ReadsPr w w.heap.size A2 qs) :
  Calls Tryz.prog 212 #[.agg #[.string cu, .slice A ls.length c, .slice A2 qs.length c2]] w fun e w' => e = .returned (.bool (decide ((Ad.textT ⟨bsT cu, ls.map bsT, qs.map prB⟩).length ≤ 4096))) ∧ Ext w w' := by
 have hcu : Tg.wordB (bsT cu) = true := by simp only [Tg.nameB, Bool.and_eq_true] at hn; exact hn.1
 have hgw : ∀ p ∈ qs, Tg.nameB (bsT p.1) = true ∧ Tg.wordB (bsT p.2) = true := fun p hp => by
  have := hg p hp
  simp only [Ad.goodP, Bool.and_eq_true, prB] at this
  exact this
 have HTx := lh (fun (W : World) (hx : Ext w W) => rtext_any cu A c ls A2 c2 qs W (word_size hcu) (fun x hx => word_size (hw x hx)) (fun p hp => ⟨word_size (by have := (hgw p hp).1; simp only [Tg.nameB, Bool.and_eq_true] at this; exact this.1), word_size (hgw p hp).2⟩) hl hq (hr.on hx) (hr2.on hx))
 obtain ⟨T, hT⟩ : ∃ T, Ad.textT ⟨bsT cu, ls.map bsT, qs.map prB⟩ = T := ⟨_, rfl⟩
 rw [hT] at HTx ⊢
 have HNc := lh (fun W => rname_any cu W (by have := word_size hcu; omega))
 rw [show Tg.nameB cu.data.toList = true from hn] at HNc
 have HR := lh hr
 have HR2 := lh hr2
 have HW := lh hw
 have HG := lh hgw
 have HAs := lh ha
 clear hr hr2 hw hg hgw ha hn hcu hT
 go_enter Tryz.func212, Tryz.ntmps212
 go_upto_region 1 with (fail)
 refine wp_world (fun W => Ext w W ∧ RowAt W w.heap.size #[.string cu, .slice A ls.length c, .slice A2 qs.length c2]) ⟨(by (with_reducible repeat first|exact eR _|apply eD|apply eN|apply eA|apply eO|apply eS|apply eC);all_goals first|omega|simp <;> omega), RowAt.new _ _ _⟩ ?_
 rintro W1 ⟨x1, r1⟩
 have HX1 := lh x1
 have HA1 := lh r1
 have a0 := r1.cell 0
 have a1 := r1.cell 1
 have a2 := r1.cell 2
 have hl1 := r1.lt
 clear x1 r1
 go_wp2_with (go_at_call 110; refine (HNc.out _).mono ?_; rintro e w' ⟨rfl, hxl⟩; obtain ⟨xn, rfl⟩ := hxl.asLater; clear hxl)
 have HX2 : Hid (Ext w (later W1 xn)) := lh (HX1.out.onto xn)
 have HA2 := lh (HA1.out.later xn)
 clear a0 a1 a2 hl1 HX1 HA1
 go_loopw [3] (fun i wr => ∃ k : Nat, k ≤ ls.length ∧ i = .int .i64 k ∧ Hid (Ext w wr) ∧ Hid (RowAt wr w.heap.size #[.string cu, .slice A ls.length c, .slice A2 qs.length c2])) (fun i _ => ls.length - (intOf i).toNat)
 case atStart => exact ⟨0, Nat.zero_le _, rfl, HX2, HA2⟩
 case round =>
  obtain ⟨k, hk, rfl, HX, HA⟩ := hrel
  clear HX2 HA2
  have a1 := HA.out.cell 1
  have hlr := HA.out.lt
  by_cases hlt : k < ls.length
  ·obtain ⟨b, off, rfl, hb, d1⟩ := ReadsStr.cell (HR.out.ext HX.out (Nat.le_refl _)) k hlt
   have hx := HW.out _ (List.getElem_mem hlt)
   generalize ls[k] = x at *
   have HWd := lh (fun W => rword_any x W (by have := word_size hx; omega))
   rw [show Tg.wordB x.data.toList = true from hx] at HWd
   clear hx
   go_wp2_with (go_at_call 160; refine (HWd.out _).mono ?_; rintro e w' ⟨rfl, hxl⟩; obtain ⟨xn, rfl⟩ := hxl.asLater; clear hxl)
   go_roundw
   case rel => exact ⟨k + 1, by omega, by go_num, lh (HX.out.onto _), lh (HA.out.later _)⟩
   case measure => simp [intOf]; omega
  ·have e : k = ls.length := by omega
   subst e
   go_wp2
   go_loopw [4] (fun i wr => ∃ k : Nat, k ≤ qs.length ∧ i = .int .i64 k ∧ Hid (Ext w wr) ∧ Hid (RowAt wr w.heap.size #[.string cu, .slice A ls.length c, .slice A2 qs.length c2])) (fun i _ => qs.length - (intOf i).toNat)
   case atStart => exact ⟨0, Nat.zero_le _, rfl, HX, HA⟩
   case round =>
    clear HX HA a1 hlr hlt
    obtain ⟨k, hk, rfl, HX, HA⟩ := hrel
    have a2 := HA.out.cell 2
    have hlr := HA.out.lt
    by_cases hlt : k < qs.length
    ·obtain ⟨b, off, rfl, hb, d1, d2⟩ := ReadsPr.cell (HR2.out.ext HX.out (Nat.le_refl _)) k hlt
     obtain ⟨g1, g2⟩ := HG.out _ (List.getElem_mem hlt)
     rcases Nat.eq_zero_or_pos k with hk0 | hk0
     ·subst hk0
      simp only [Nat.zero_mul, Nat.add_zero] at d1 d2
      generalize qs[0] = p at *
      have HK := lh (fun W => rname_any p.1 W (by have h := g1; simp only [Tg.nameB, Bool.and_eq_true] at h; have := word_size h.1; omega))
      rw [show Tg.nameB p.1.data.toList = true from g1] at HK
      have HV := lh (fun W => rword_any p.2 W (by have := word_size g2; omega))
      rw [show Tg.wordB p.2.data.toList = true from g2] at HV
      clear g1 g2
      go_wp2
      refine wp_region_later (by kernel_rfl) (by kernel_rfl) ?_
      repeat (first | go_big_quiet_step ((first
             | (go_at_call 110; exact quietE (HK.out _))
             | (go_at_call 160; exact quietE (HV.out _)))) | quiet_step ((first
             | (go_at_call 110; exact quietE (HK.out _))
             | (go_at_call 160; exact quietE (HV.out _)))))
      refine wpQuiet_nil ?_
      rintro _ ⟨xq, rfl⟩
      go_wp2
      go_roundw
      case rel => exact ⟨0 + 1, by omega, by go_num, lh (HX.out.onto _), lh (HA.out.later _)⟩
      case measure => simp [intOf]; omega
     ·obtain ⟨b', off', e1, _, d5, _⟩ := ReadsPr.cell (HR2.out.ext HX.out (Nat.le_refl _)) (k - 1) (by omega)
      injection e1 with e1
      injection e1 with e1 e2
      subst e1 e2
      have hasc := asc_at HAs.out k hk0 hlt
      have HLE := lh (le_walk qs[k].1 (qs[k - 1]'(by omega)).1)
      generalize (qs[k - 1]'(by omega)).1 = pk at *
      generalize qs[k] = p at *
      obtain ⟨p1, p2⟩ := p
      simp only [] at d1 d2 g1 g2 HLE hasc
      have hle : (Op.bytesLess p1.toList pk.toList || p1.toList == pk.toList) = false := by
       rw [HLE.out, decide_eq_false_iff_not]
       exact fun h => List.not_lt.2 h hasc
      have z0 : decide (0 < k) = true := by simpa using hk0
      have z1 : decide ((0 : Int) < (k : Int)) = true := by simp; omega
      have HK := lh (fun W => rname_any p1 W (by have h := g1; simp only [Tg.nameB, Bool.and_eq_true] at h; have := word_size h.1; omega))
      rw [show Tg.nameB p1.data.toList = true from g1] at HK
      have HV := lh (fun W => rword_any p2 W (by have := word_size g2; omega))
      rw [show Tg.wordB p2.data.toList = true from g2] at HV
      clear hasc HLE g1 g2
      go_wp2
      refine wp_region_later (by kernel_rfl) (by kernel_rfl) ?_
      repeat (first | go_big_quiet_step ((first
             | (go_at_call 110; exact quietE (HK.out _))
             | (go_at_call 160; exact quietE (HV.out _)))) | quiet_step ((first
             | (go_at_call 110; exact quietE (HK.out _))
             | (go_at_call 160; exact quietE (HV.out _)))))
      refine wpQuiet_nil ?_
      rintro _ ⟨xq, rfl⟩
      go_wp2
      go_roundw
      case rel => exact ⟨k + 1, by omega, by go_num, lh (HX.out.onto _), lh (HA.out.later _)⟩
      case measure => simp [intOf]; omega
    ·have e : k = qs.length := by omega
     subst e
     have hrow := HA.out.all (n := 3) rfl (by omega)
     have hz : ((⟨T.toArray⟩ : ByteArray)).size = T.length := by simp [ByteArray.size]
     have hdd : decide ((T.length : Int) ≤ 4096) = decide (T.length ≤ 4096) := by
      by_cases h : T.length ≤ 4096
      ·rw [decide_eq_true h, decide_eq_true (by omega)]
      ·rw [decide_eq_false h, decide_eq_false (by omega)]
     go_wp2_with (go_at_call 213; refine (HTx.out _ (by (with_reducible repeat first|exact HX.out|exact eR _|apply eD|apply eN|apply eA|apply eO|apply eS|apply eC);all_goals first|omega|simp <;> omega)).mono ?_; rintro e w' ⟨rfl, hxl⟩; obtain ⟨xn, rfl⟩ := hxl.asLater; clear hxl)
     go_ret
     exact ⟨ret_bool (by simp [hz, hdd]), (by (with_reducible repeat first|exact HX.out|exact eR _|apply eD|apply eN|apply eA|apply eO|apply eS|apply eC);all_goals first|omega|simp <;> omega)⟩
theorem rtextW_any (cu : ByteArray) (A : Option Addr) (c : Nat) (ls : List ByteArray) (A2 : Option Addr) (c2 : Nat) (qs : List PrB) (w : World) (hn : Tg.nameB (bsT cu) = true) (hw : ∀ x ∈ ls, Tg.wordB (bsT x) = true) (hg : ∀ p ∈ qs, Ad.goodP (prB p) = true) (ha : Ad.AscP (qs.map prB)) (hl : ls.length ≤ 32) (hq : qs.length ≤ 16)
  (hr : ReadsStr w w.heap.size A ls) (hr2 : ReadsPr w w.heap.size A2 qs) :
  Calls Tryz.prog 164 #[.agg #[.string cu, .slice A ls.length c, .slice A2 qs.length c2]] w fun e w' => e = .returned (.agg #[.string ⟨(txS ⟨bsT cu, ls.map bsT, qs.map prB⟩).toArray⟩, .int .i64 (txE ⟨bsT cu, ls.map bsT, qs.map prB⟩)]) ∧ Ext w w' := by
 have hcu : Tg.wordB (bsT cu) = true := by simp only [Tg.nameB, Bool.and_eq_true] at hn; exact hn.1
 have hgw : ∀ p ∈ qs, Tg.nameB (bsT p.1) = true ∧ Tg.wordB (bsT p.2) = true := fun p hp => by
  have := hg p hp
  simp only [Ad.goodP, Bool.and_eq_true, prB] at this
  exact this
 have HTx := lh (fun (W : World) (hx : Ext w W) => rtext_any cu A c ls A2 c2 qs W (word_size hcu) (fun x hx => word_size (hw x hx)) (fun p hp => ⟨word_size (by have := (hgw p hp).1; simp only [Tg.nameB, Bool.and_eq_true] at this; exact this.1), word_size (hgw p hp).2⟩) hl hq (hr.on hx) (hr2.on hx))
 have HFm := lh (fun (W : World) (hx : Ext w W) => rformed_any cu A c ls A2 c2 qs W hn hw hg ha hl hq (hr.on hx) (hr2.on hx))
 obtain ⟨T, hT⟩ : ∃ T, Ad.textT ⟨bsT cu, ls.map bsT, qs.map prB⟩ = T := ⟨_, rfl⟩
 have HE : Hid (txE ⟨bsT cu, ls.map bsT, qs.map prB⟩ = if 4096 < T.length then 1 else 0) := lh (by unfold txE; rw [hT])
 have HS : Hid (txS ⟨bsT cu, ls.map bsT, qs.map prB⟩ = if txE ⟨bsT cu, ls.map bsT, qs.map prB⟩ = 0 then T else []) := lh (by unfold txS; rw [hT])
 rw [hT] at HTx HFm
 generalize txS ⟨bsT cu, ls.map bsT, qs.map prB⟩ = tS at *
 generalize txE ⟨bsT cu, ls.map bsT, qs.map prB⟩ = tE at *
 clear hr hr2 hw hg hgw ha hn hcu hT
 go_enter Tryz.func164, Tryz.ntmps164
 go_upto_region 1 with (fail)
 refine wp_world (fun W => Ext w W ∧ RowAt W w.heap.size #[.string cu, .slice A ls.length c, .slice A2 qs.length c2] ∧ RowAt W (w.heap.size + 1) #[.string ⟨#[]⟩, .int .i64 0]) ⟨(by (with_reducible repeat first|exact eR _|apply eD|apply eN|apply eA|apply eO|apply eS|apply eC);all_goals first|omega|simp <;> omega), (RowAt.new _ _ _).alloc _, RowAt.newAt (by simp)⟩ ?_
 rintro W1 ⟨x1, r1, r2⟩
 have HX1 := lh x1
 have HR2 := lh r2
 have hrow := r1.all (n := 3) rfl (by omega)
 have hl1 := r1.lt
 have hl2 := r2.lt
 have q0 := r2.cell 0
 have q1 := r2.cell 1
 have qf := r2.free
 clear x1 r1 r2
 by_cases h4 : 4096 < T.length
 ·have hE : tE = 1 := by rw [HE.out, if_pos h4]
  have hS : tS = [] := by rw [HS.out, hE]; rfl
  subst hE hS
  have hdd : decide (T.length ≤ 4096) = false := decide_eq_false (by omega)
  rw [hdd] at HFm
  clear HE HS hdd
  go_wp2_with (go_at_call 212; refine (HFm.out _ (by (with_reducible repeat first|exact HX1.out|exact eR _|apply eD|apply eN|apply eA|apply eO|apply eS|apply eC);all_goals first|omega|simp <;> omega)).mono ?_; rintro e w' ⟨rfl, hxl⟩; obtain ⟨xn, rfl⟩ := hxl.asLater; clear hxl)
  exact post_row wri_ty Tryz.results164 rfl rfl ((RowAt.set2A (HR2.out.later _) _ _).all rfl (by omega)) ⟨rfl, (by (with_reducible repeat first|exact HX1.out|exact eR _|apply eD|apply eN|apply eA|apply eO|apply eS|apply eC);all_goals first|omega|simp <;> omega)⟩
 ·have hE : tE = 0 := by rw [HE.out, if_neg h4]
  have hS : tS = T := by rw [HS.out, hE]; rfl
  subst hE hS
  have hdd : decide (tS.length ≤ 4096) = true := decide_eq_true (by omega)
  rw [hdd] at HFm
  clear HE HS hdd
  go_wp2_with (first
   | (go_at_call 212; refine (HFm.out _ (by (with_reducible repeat first|exact HX1.out|exact eR _|apply eD|apply eN|apply eA|apply eO|apply eS|apply eC);all_goals first|omega|simp <;> omega)).mono ?_; rintro e w' ⟨rfl, hxl⟩; obtain ⟨xn, rfl⟩ := hxl.asLater; clear hxl)
   | (go_at_call 213; refine (HTx.out _ (by (with_reducible repeat first|exact HX1.out|exact eR _|apply eD|apply eN|apply eA|apply eO|apply eS|apply eC);all_goals first|omega|simp <;> omega)).mono ?_; rintro e w' ⟨rfl, hxl⟩; obtain ⟨xn, rfl⟩ := hxl.asLater; clear hxl))
  exact post_row wri_ty Tryz.results164 rfl rfl ((RowAt.set2A (HR2.out.later _) _ _).all rfl (by omega)) ⟨rfl, (by (with_reducible repeat first|exact HX1.out|exact eR _|apply eD|apply eN|apply eA|apply eO|apply eS|apply eC);all_goals first|omega|simp <;> omega)⟩
attribute [local go_sem] rd_fits
theorem rcanonical_any (s : ByteArray) (w : World) (hs : s.size ≤ 900000) :
  Calls Tryz.prog 121 #[.string s] w fun e w' => e = .returned (.agg #[.string ⟨(Ad.canonT (bsT s)).toArray⟩, .int .i64 (Ad.canonE (bsT s))]) ∧ Ext w w' := by
 have HP := lh (fun W => r6parse_any s W hs)
 have HE : Hid (Ad.canonE (bsT s) = if Ad.parseE (bsT s) = 0 then txE (Ad.parseA (bsT s)) else Ad.parseE (bsT s)) := lh rfl
 have HT : Hid (Ad.parseE (bsT s) = 0 → Ad.canonT (bsT s) = txS (Ad.parseA (bsT s))) := lh (fun h => by unfold Ad.canonT txS; rw [HE.out, if_pos h])
 have HT2 : Hid (Ad.canonE (bsT s) ≠ 0 → Ad.canonT (bsT s) = []) := lh (fun h => if_neg h)
 have HGd := lh (Ad.parseA_good (s := bsT s))
 generalize Ad.canonT (bsT s) = CT at *
 generalize Ad.canonE (bsT s) = CE at *
 generalize Ad.parseE (bsT s) = PE at *
 generalize Ad.parseA (bsT s) = PA at *
 go_enter Tryz.func121, Tryz.ntmps121
 go_upto_region 2 with (go_at_call 163; refine (HP.out _).mono ?_; rintro e w5 ⟨⟨cu, Ap, cp, lp, A2, c2, qs, rfl, hadr, hop, hoq⟩, hx5⟩)
 have hrow0 := (RowAt.new w #[.string ⟨#[]⟩, .int .i64 0] 171).ext hx5
 refine wp_world (fun W => Ext w5 W ∧ RowAt W w.heap.size #[.string ⟨#[]⟩, .int .i64 0] ∧ RowAt W w5.heap.size #[.string cu, .slice Ap lp.length cp, .slice A2 qs.length c2, .int .i64 PE]) ⟨((Ext.refl w5).alloc _).setCells (Nat.le_refl _) _ _, ?_, ?_⟩ ?_
 ·have hlw := hrow0.lt
  exact (hrow0.alloc _).others (by omega) 0 _
 ·exact (RowAt.new w5 _ _).store (ds := #[.string cu, .slice Ap lp.length cp, .slice A2 qs.length c2, .int .i64 PE]) rfl
 rintro W6 ⟨x6, r6, r7⟩
 have HX6 := lh (((((Ext.refl w).alloc _).trans hx5)).trans x6)
 have HR6 := lh r6
 have HOp := lh ((hop.reads sE).on x6)
 have HOq := lh ((hoq.reads prE).on x6)
 have hl6 := r6.lt
 have hl7 := r7.lt
 have q0 := r6.cell 0
 have q1 := r6.cell 1
 have qf := r6.free
 have e3 : W6.cell? ⟨w5.heap.size, 3, none⟩ = some (.int .i64 PE) := r7.cell 3
 have row3 : rowOf W6 w5.heap.size 0 3 = some #[.string cu, .slice Ap lp.length cp, .slice A2 qs.length c2] := by rw [r7.row, if_neg (by omega)]; rfl
 clear x6 r6 r7 hx5 hop hoq hrow0 HP
 by_cases h0 : PE = 0
 ·subst h0
  subst hadr
  have hCE : CE = txE ⟨bsT cu, lp.map bsT, qs.map prB⟩ := by rw [HE.out]; rfl
  have hCT : CT = txS ⟨bsT cu, lp.map bsT, qs.map prB⟩ := HT.out rfl
  obtain ⟨g1, g2, g3, g4, g5, g6⟩ := HGd.out rfl
  have HTx := lh (fun (W : World) (hx : Ext W6 W) => rtextW_any cu Ap cp lp A2 c2 qs W g1 (fun x hx => g4 _ (List.mem_map_of_mem hx)) (fun p hp => g6 _ (List.mem_map_of_mem hp)) g5 (by simpa using g2) (by simpa using g3) (HOp.out.on hx) (HOq.out.on hx))
  rw [← hCE, ← hCT] at HTx
  clear HE HT HT2 HGd g1 g2 g3 g4 g5 g6 HOp HOq hCE hCT
  go_wp2_with (go_at_call 164; refine (HTx.out _ (by (with_reducible repeat first|exact eR _|apply eD|apply eN|apply eA|apply eO|apply eS|apply eC);all_goals first|omega|simp <;> omega)).mono ?_; rintro e w' ⟨rfl, hxl⟩; obtain ⟨xn, rfl⟩ := hxl.asLater; clear hxl)
  exact post_row wri_ty Tryz.results121 rfl rfl ((RowAt.set2A (HR6.out.later _) _ _).all rfl (by omega)) ⟨rfl, (by (with_reducible repeat first|exact HX6.out|exact eR _|apply eD|apply eN|apply eA|apply eO|apply eS|apply eC);all_goals first|omega|simp <;> omega)⟩
 ·have hCE : CE = PE := by rw [HE.out, if_neg h0]
  subst hCE
  have hCT := HT2.out h0
  subst hCT
  have d0 : (CE != 0) = true := by simpa using h0
  clear HE HT HT2 HGd HOp HOq
  go_wp2
  exact post_row wri_ty Tryz.results121 rfl rfl ((RowAt.set2A HR6.out _ _).all rfl (by omega)) ⟨rfl, (by (with_reducible repeat first|exact HX6.out|exact eR _|apply eD|apply eN|apply eA|apply eO|apply eS|apply eC);all_goals first|omega|simp <;> omega)⟩
theorem rcanon_any (s : ByteArray) (w : World) (hs : s.size ≤ 900000) :
  Calls Tryz.prog 64 #[.string s] w fun e w' => e = .returned (.bool (Ad.canonB (bsT s))) ∧ Ext w w' := by
 have HC := lh (fun W => rcanonical_any s W hs)
 have HB : Hid (Ad.canonB (bsT s) = (decide (Ad.canonE (bsT s) = 0) && decide (Ad.canonT (bsT s) = bsT s))) := lh rfl
 obtain ⟨T, hT⟩ : ∃ T, Ad.canonT (bsT s) = T := ⟨_, rfl⟩
 rw [hT] at HC HB
 clear hT
 obtain ⟨t, ht⟩ : ∃ t, (⟨T.toArray⟩ : ByteArray) = t := ⟨_, rfl⟩
 have hbt : bsT t = T := by rw [← ht]; rfl
 have HW := lh (eq_walk t s)
 rw [hbt] at HW
 rw [ht] at HC
 clear ht hbt
 generalize Ad.canonB (bsT s) = B at *
 generalize Ad.canonE (bsT s) = E at *
 go_enter Tryz.func64, Tryz.ntmps64
 go_wp2_with (go_at_call 121; refine (HC.out _).mono ?_; rintro e w' ⟨rfl, hxl⟩; obtain ⟨xn, rfl⟩ := hxl.asLater; clear hxl)
 all_goals
  go_ret
  exact ⟨ret_bool (by rw [HB.out, ← HW.out]; simp [*]), (by (with_reducible repeat first|exact eR _|apply eD|apply eN|apply eA|apply eO|apply eS|apply eC);all_goals first|omega|simp <;> omega)⟩
end Go.Proofs.YtpojnhikgjcgmaaGreatDoor

namespace Go.Proofs.YtpojnhikgjcgmaaGreatDoor
open Go.RowKit Go.Shelf
open Go.Proofs
def okPu (p : Pu) : Bool :=
 if p.kind = 1 then Ad.canonB (bsT p.what)
 else if p.kind = 2 then Ad.canonB (bsT p.what) && !((bsT p.what).contains 63)
 else if p.kind = 3 then (Ad.cutB 58 (bsT p.what)).2.2 && decide ((p.what.size : Int) ≤ 4096) && Tg.nameB (Ad.cutB 58 (bsT p.what)).1 && Tg.nameB (Ad.cutB 58 (bsT p.what)).2.1
 else false
def okEp (e : Ep) : Bool := decide (e.num ≥ 1) && decide (e.num ≤ 1099511627776) && okClk ⟨e.lo, e.hi⟩ && decide (max (e.pu.length : Int) (e.rv.length : Int) ≤ 1000) && e.pu.all okPu
theorem ecanon_any (s : ByteArray) (w : World) (hs : s.size ≤ 900000) :
  Calls Tryz.prog 106 #[.string s] w fun e w' => e = .returned (.bool (Ad.canonB (bsT s))) ∧ Ext w w' := by
 have HC := lh (fun W => canon_all s W hs)
 have HB : Hid (Ad.canonB (bsT s) = (decide (Ad.canonE (bsT s) = 0) && decide (Ad.canonT (bsT s) = bsT s))) := lh rfl
 obtain ⟨T, hT⟩ : ∃ T, Ad.canonT (bsT s) = T := ⟨_, rfl⟩
 rw [hT] at HC HB
 clear hT
 obtain ⟨t, ht⟩ : ∃ t, (⟨T.toArray⟩ : ByteArray) = t := ⟨_, rfl⟩
 have hbt : bsT t = T := by rw [← ht]; rfl
 have HW := lh (eq_walk t s)
 rw [hbt] at HW
 rw [ht] at HC
 generalize Ad.canonB (bsT s) = R at *
 generalize Ad.canonE (bsT s) = E at *
 generalize decide (T = bsT s) = D at *
 clear ht hbt
 by_cases h : E = 0
 ·subst h
  go_enter Tryz.func106, Tryz.ntmps106
  go_wp2_with (go_at_call 157; refine (HC.out _).mono ?_; rintro e w' ⟨rfl, hxl⟩; obtain ⟨xl, rfl⟩ := hxl.asLater; clear hxl)
  go_ret
  exact ⟨ret_bool (by rw [HB.out, HW.out]; simp), (by (with_reducible repeat first|exact eR _|apply eD|apply eN|apply eA|apply eO|apply eS|apply eC);all_goals first|omega|simp <;> omega)⟩
 ·have e0 : (E == 0) = false := by simpa using h
  have HR : Hid (R = false) := lh (by rw [HB.out]; simp [h])
  clear HB h
  go_enter Tryz.func106, Tryz.ntmps106
  go_wp2_with (go_at_call 157; refine (HC.out _).mono ?_; rintro e w' ⟨rfl, hxl⟩; obtain ⟨xl, rfl⟩ := hxl.asLater; clear hxl)
  go_ret
  exact ⟨ret_bool HR.out.symm, (by (with_reducible repeat first|exact eR _|apply eD|apply eN|apply eA|apply eO|apply eS|apply eC);all_goals first|omega|simp <;> omega)⟩
theorem set_one (s : ByteArray) : setBs [s] = [bsT s] := by
 have h1 := setBs_len [s]
 have h2 := (setBs_mem [s] (bsT s)).2 (by simp)
 generalize setBs [s] = l at *
 match l, h1, h2 with
 | [x], _, h2 => simp at h2; rw [h2]
theorem tag_one (s : ByteArray) : tagN [s] = (if Tg.nameB (bsT s) then 0 else 1) := by
 unfold tagN
 cases h : Tg.nameB (bsT s) with
 | true =>
  have hb : badB [s] = false := by simp [badB, h]
  have := tagTx_len [s] hb
  rw [hb, if_neg (by decide), if_neg (by simp at this; omega), if_pos rfl]
 | false =>
  have hb : badB [s] = true := by simp [badB, h]
  rw [hb, if_pos rfl, if_neg (by decide)]
theorem tagS_one (s : ByteArray) (h : Tg.nameB (bsT s) = true) : tagS [s] = bsT s := by
 unfold tagS
 rw [tag_one, if_pos h, if_pos rfl]
 unfold tagTx
 rw [set_one, Lib.join_one]
theorem enamed_any (s : ByteArray) (w : World) :
  Calls Tryz.prog 108 #[.string s] w fun e w' => e = .returned (.bool (Tg.nameB (bsT s))) ∧ Ext w w' := by
 have HT : Hid (∀ (b : Nat) (W : World) (t : TypeId), b = W.heap.size → Calls Tryz.prog 159 #[.slice (some ⟨b, 0, none⟩) 1 1] (W.alloc (.cells #[.string s] t)) fun e w' => e = .returned (.tuple #[.string ⟨(tagS [s]).toArray⟩, .int .i64 (tagN [s])]) ∧ Ext (W.alloc (.cells #[.string s] t)) w') := lh (fun b W t hb => by
  subst hb
  exact ptags_any _ 1 [s] _ (by simp) (by simp) (reads_fresh sE [s] W _ t rfl))
 cases h : Tg.nameB (bsT s) with
 | true =>
  rw [tag_one, tagS_one s h, if_pos h, bs_mk] at HT
  clear h
  go_enter Tryz.func108, Tryz.ntmps108
  go_wp2_with (go_at_call 159; refine (HT.out _ _ _ rfl).mono ?_; rintro e w' ⟨rfl, hxl⟩; obtain ⟨xl, rfl⟩ := hxl.asLater; clear hxl)
  go_ret
  exact ⟨ret_bool (by simp), (by (with_reducible repeat first|exact eR _|apply eD|apply eN|apply eA|apply eO|apply eS|apply eC);all_goals first|omega|simp <;> omega)⟩
 | false =>
  rw [tag_one, if_neg (by rw [h]; decide)] at HT
  generalize (⟨(tagS [s]).toArray⟩ : ByteArray) = T at *
  clear h
  go_enter Tryz.func108, Tryz.ntmps108
  go_wp2_with (go_at_call 159; refine (HT.out _ _ _ rfl).mono ?_; rintro e w' ⟨rfl, hxl⟩; obtain ⟨xl, rfl⟩ := hxl.asLater; clear hxl)
  go_ret
  exact ⟨rfl, (by (with_reducible repeat first|exact eR _|apply eD|apply eN|apply eA|apply eO|apply eS|apply eC);all_goals first|omega|simp <;> omega)⟩
theorem eright_any (p : Pu) (w : World) (hw : p.what.size ≤ 900000) :
  Calls Tryz.prog 56 #[.agg (puC p)] w fun e w' => e = .returned (.bool (okPu p)) ∧ Ext w w' := by
 have HC := lh (fun W => ecanon_any p.what W hw)
 have HK := lh (fun W => contains_one p.what 63 W)
 have HT := lh (fun W => scut_any p.what 58 W hw)
 have HN := lh enamed_any
 have hft := pu_fits p
 by_cases k1 : p.kind = 1
 ·have HO : Hid (okPu p = Ad.canonB (bsT p.what)) := lh (by rw [okPu, if_pos k1])
  have d1 : (p.kind == 1) = true := by simpa using k1
  generalize okPu p = R at *
  generalize Ad.canonB (bsT p.what) = C at *
  clear k1 hw
  go_enter Tryz.func56, Tryz.ntmps56
  go_wp2_with (go_at_call 106; refine (HC.out _).mono ?_; rintro e w' ⟨rfl, hxl⟩; obtain ⟨xl, rfl⟩ := hxl.asLater; clear hxl)
  go_ret
  exact ⟨ret_bool HO.out.symm, (by (with_reducible repeat first|exact eR _|apply eD|apply eN|apply eA|apply eO|apply eS|apply eC);all_goals first|omega|simp <;> omega)⟩
 have d1 : (p.kind == 1) = false := by simpa using k1
 by_cases k2 : p.kind = 2
 ·have HO : Hid (okPu p = (Ad.canonB (bsT p.what) && !((bsT p.what).contains 63))) := lh (by rw [okPu, if_neg k1, if_pos k2])
  have d2 : (p.kind == 2) = true := by simpa using k2
  replace HK : Hid (∀ W, Calls Tryz.prog 107 #[.string p.what, .string ⟨#[63]⟩] W fun e w' => e = .returned (.bool ((bsT p.what).contains 63)) ∧ w' = W) := HK
  generalize okPu p = R at *
  generalize (bsT p.what).contains 63 = K at *
  generalize Ad.canonB (bsT p.what) = C at *
  clear k1 k2 hw
  cases C
  all_goals
   go_enter Tryz.func56, Tryz.ntmps56
   go_wp2_with (first
    | (go_at_call 106; refine (HC.out _).mono ?_; rintro e w' ⟨rfl, hxl⟩; obtain ⟨xl, rfl⟩ := hxl.asLater; clear hxl)
    | (go_at_call 107; refine (HK.out _).mono ?_; rintro e w' ⟨rfl, rfl⟩))
   go_ret
   exact ⟨ret_bool (by rw [HO.out]; simp), (by (with_reducible repeat first|exact eR _|apply eD|apply eN|apply eA|apply eO|apply eS|apply eC);all_goals first|omega|simp <;> omega)⟩
 have d2 : (p.kind == 2) = false := by simpa using k2
 by_cases k3 : p.kind = 3
 ·have d3 : (p.kind == 3) = true := by simpa using k3
  have HO : Hid (okPu p = ((Ad.cutB 58 (bsT p.what)).2.2 && decide ((p.what.size : Int) ≤ 4096) && Tg.nameB (Ad.cutB 58 (bsT p.what)).1 && Tg.nameB (Ad.cutB 58 (bsT p.what)).2.1)) := lh (by rw [okPu, if_neg k1, if_neg k2, if_pos k3])
  generalize okPu p = R at *
  clear k1 k2 k3 HC HK
  go_enter Tryz.func56, Tryz.ntmps56
  go_upto_region 8 with (go_at_call 66; refine (HT.out _).mono ?_; rintro e w' ⟨⟨a, b, f, rfl, h1, h2, h3⟩, hxl⟩; have HA := lh h1; clear h1; obtain ⟨xl, rfl⟩ := hxl.asLater; clear hxl)
  have HA' : Hid (R = (f && decide ((p.what.size : Int) ≤ 4096) && Tg.nameB (bsT a) && Tg.nameB (bsT b))) := lh (by rw [HO.out, ← HA.out])
  have hsz : p.what.size < 9223372036854775808 := by omega
  clear HO HA HT hw
  by_cases hf : f = true
  ·subst hf
   by_cases hl : (p.what.size : Int) ≤ 4096
   ·have dl : decide ((p.what.size : Int) ≤ 4096) = true := by simpa using hl
    rw [dl] at HA'
    cases ea : Tg.nameB (bsT a)
    all_goals
     rw [ea] at HA'
     have EA := lh ea
     clear ea
     go_wp2_with (go_at_call 108; refine (HN.out _ _).mono ?_; rintro e w' ⟨rfl, hxl⟩; (first | rw [EA.out] | skip); obtain ⟨xm, rfl⟩ := hxl.asLater; clear hxl)
     go_ret
     exact ⟨ret_bool (by rw [HA'.out]; simp), (by (with_reducible repeat first|exact eR _|apply eD|apply eN|apply eA|apply eO|apply eS|apply eC);all_goals first|omega|simp <;> omega)⟩
   ·have dl : decide ((p.what.size : Int) ≤ 4096) = false := by simpa using hl
    have HR : Hid (R = false) := lh (by rw [HA'.out, dl]; simp)
    clear HA'
    go_wp2
    go_ret
    exact ⟨ret_bool HR.out.symm, (by (with_reducible repeat first|exact eR _|apply eD|apply eN|apply eA|apply eO|apply eS|apply eC);all_goals first|omega|simp <;> omega)⟩
  ·have hf' : f = false := by simpa using hf
   subst hf'
   have HR : Hid (R = false) := lh (by rw [HA'.out]; simp)
   clear HA' hf
   go_wp2
   go_ret
   exact ⟨ret_bool HR.out.symm, (by (with_reducible repeat first|exact eR _|apply eD|apply eN|apply eA|apply eO|apply eS|apply eC);all_goals first|omega|simp <;> omega)⟩
 have d3 : (p.kind == 3) = false := by simpa using k3
 have HO : Hid (okPu p = false) := lh (by rw [okPu, if_neg k1, if_neg k2, if_neg k3])
 rw [HO.out]
 clear k1 k2 k3 hw HC HK HT HN
 go_enter Tryz.func56, Tryz.ntmps56
 go_wp2
 go_ret
 exact ⟨rfl, (by (with_reducible repeat first|exact eR _|apply eD|apply eN|apply eA|apply eO|apply eS|apply eC);all_goals first|omega|simp <;> omega)⟩
theorem evalid1_any (p : Pu) (w : World) (hw : p.what.size ≤ 900000) :
  Calls Tryz.prog 55 #[.agg (puC p)] w fun e w' => e = .returned (.bool (!okPu p)) ∧ Ext w w' := by
 have H := lh (fun W => eright_any p W hw)
 have hft := pu_fits p
 generalize okPu p = R at *
 clear hw
 go_enter Tryz.func55, Tryz.ntmps55
 go_wp2_with (go_at_call 56; refine (H.out _).mono ?_; rintro e w' ⟨rfl, hxl⟩; obtain ⟨xl, rfl⟩ := hxl.asLater; clear hxl)
 go_ret
 exact ⟨rfl, (by (with_reducible repeat first|exact eR _|apply eD|apply eN|apply eA|apply eO|apply eS|apply eC);all_goals first|omega|simp <;> omega)⟩
theorem pidx_any (A : Option Addr) (c : Nat) (ls : List Pu) (w : World) (hlen : ls.length ≤ 140737488355328) (hr : Reads 3 puL w w.heap.size A ls) (hw : ∀ p ∈ ls, (p.what.size ≤ 900000)) :
  Calls Tryz.prog 105 #[.slice A ls.length c, .func (.func 55) #[] #[]] w fun e w' => ∃ i : Int, e = .returned (.int .i64 i) ∧ (ls.any (fun p => !okPu p) = true → 0 ≤ i) ∧ (ls.any (fun p => !okPu p) = false → i = -1) ∧ Ext w w' := by
 have HR := lh hr
 have HT := lh (fun (k : Nat) (h : k < ls.length) (W : World) => evalid1_any ls[k] W (hw _ (List.getElem_mem h)))
 clear hr hw
 go_enter Tryz.func105, Tryz.ntmps105
 go_wp2
 go_loopw [8] (fun i wr => ∃ k : Nat, k ≤ ls.length ∧ i = .int .i64 k ∧ Ext w wr ∧ Hid ((ls.take k).any (fun p => !okPu p) = false)) (fun i _ => ls.length - (intOf i).toNat)
 case atStart => exact ⟨0, Nat.zero_le _, rfl, eR _, lh rfl⟩
 case round =>
  obtain ⟨k, hk, rfl, hx, HJ⟩ := hrel
  have HX := lh hx
  have hsz := hx.size
  by_cases hlt : k < ls.length
  ·obtain ⟨b, off, rfl, hb, c1⟩ := reads_row puE (HR.out.on hx) k hlt
   have HT1 := lh (HT.out k hlt)
   have HN : Hid ((fun p => !okPu p) ls[k] = false → (ls.take (k + 1)).any (fun p => !okPu p) = false) := lh (fun h => by rw [List.take_succ_eq_append_getElem hlt, List.any_append, HJ.out]; simpa using h)
   have HM : Hid ((fun p => !okPu p) ls[k] = true → ls.any (fun p => !okPu p) = true) := lh (fun h => by
    rw [List.any_eq_true]; exact ⟨ls[k], List.getElem_mem hlt, h⟩)
   change Hid (∀ W, Calls Tryz.prog 55 #[.agg ((puL ls[k]).toArray)] W fun e w' => e = .returned (.bool ((fun p => !okPu p) ls[k])) ∧ Ext W w') at HT1
   generalize (fun p => !okPu p) ls[k] = pk at *
   generalize (puL ls[k]).toArray = s at *
   clear hx
   cases pk with
   | false =>
    have HN2 := lh (HN.out rfl)
    clear HN HM
    go_wp2_with (go_at_call 55; refine (HT1.out _).mono ?_; rintro e w' ⟨rfl, hxl⟩; obtain ⟨xl, rfl⟩ := hxl.asLater; clear hxl)
    go_roundw
    case rel => exact ⟨k + 1, by omega, by go_num, (by (with_reducible repeat first|exact HX.out|exact eR _|apply eD|apply eN|apply eA|apply eO|apply eS|apply eC);all_goals first|omega|simp <;> omega), HN2⟩
    case measure => simp [intOf]; omega
   | true =>
    have HM2 := lh (HM.out rfl)
    clear HN HM
    go_wp2_with (go_at_call 55; refine (HT1.out _).mono ?_; rintro e w' ⟨rfl, hxl⟩; obtain ⟨xl, rfl⟩ := hxl.asLater; clear hxl)
    go_ret
    exact ⟨k, rfl, fun _ => by omega, fun h => (by rw [HM2.out] at h; cases h), (by (with_reducible repeat first|exact HX.out|exact eR _|apply eD|apply eN|apply eA|apply eO|apply eS|apply eC);all_goals first|omega|simp <;> omega)⟩
  ·have HQ : Hid (ls.any (fun p => !okPu p) = false) := lh (by have h := HJ.out; rwa [List.take_of_length_le (by omega)] at h)
   go_wp2
   go_ret
   exact ⟨-1, rfl, fun h => (by rw [HQ.out] at h; cases h), fun _ => rfl, HX.out⟩
theorem pcont_any (A : Option Addr) (c : Nat) (ls : List Pu) (w : World) (hlen : ls.length ≤ 140737488355328) (hr : Reads 3 puL w w.heap.size A ls) (hw : ∀ p ∈ ls, (p.what.size ≤ 900000)) :
  Calls Tryz.prog 54 #[.slice A ls.length c, .func (.func 55) #[] #[]] w fun e w' => e = .returned (.bool (ls.any (fun p => !okPu p))) ∧ Ext w w' := by
 have H := lh (pidx_any A c ls w hlen hr hw)
 clear hr hw
 generalize ls.any (fun p => !okPu p) = R at *
 cases R with
 | true =>
  go_enter Tryz.func54, Tryz.ntmps54
  go_wp2_with (go_at_call 105; refine H.out.mono ?_; rintro e w' ⟨i, rfl, h1, h2, hxl⟩; have h3 := h1 rfl; clear h1 h2; obtain ⟨xl, rfl⟩ := hxl.asLater; clear hxl)
  go_ret
  exact ⟨ret_bool (by first | (simp; done) | (simp; omega)), (by (with_reducible repeat first|exact eR _|apply eD|apply eN|apply eA|apply eO|apply eS|apply eC);all_goals first|omega|simp <;> omega)⟩
 | false =>
  go_enter Tryz.func54, Tryz.ntmps54
  go_wp2_with (go_at_call 105; refine H.out.mono ?_; rintro e w' ⟨i, rfl, h1, h2, hxl⟩; obtain rfl := h2 rfl; clear h1 h2; obtain ⟨xl, rfl⟩ := hxl.asLater; clear hxl)
  go_ret
  exact ⟨rfl, (by (with_reducible repeat first|exact eR _|apply eD|apply eN|apply eA|apply eO|apply eS|apply eC);all_goals first|omega|simp <;> omega)⟩
theorem evalid_any (e : Ep) (w : World) (ha : EpAt w e) (hl : e.pu.length ≤ 100000) (hr : e.rv.length ≤ 9223372036854775807) (hw : ∀ p ∈ e.pu, p.what.size ≤ 900000) :
  Calls Tryz.prog 13 #[.agg (epC e)] w fun e' w' => e' = .returned (.bool (okEp e)) ∧ Ext w w' := by
 have HC := lh (fun (W : World) (hx : Ext w W) => pcont_any e.PA e.pc e.pu W (by omega) (ha.pu.on hx) hw)
 have HV : Hid (∀ W : World, Calls Tryz.prog 53 #[.agg #[.int .i64 e.lo, .int .i64 e.hi]] W fun e' w' => e' = .returned (.bool (okClk ⟨e.lo, e.hi⟩)) ∧ Ext W w') := lh (fun W => cvalid_any ⟨e.lo, e.hi⟩ W)
 have HO : Hid (okEp e = (decide (e.num ≥ 1) && decide (e.num ≤ 1099511627776) && okClk ⟨e.lo, e.hi⟩ && decide (max (e.pu.length : Int) (e.rv.length : Int) ≤ 1000) && e.pu.all okPu)) := lh rfl
 have HA : Hid ((e.pu.any fun p => !okPu p) = !(e.pu.all okPu)) := lh (by simp [List.all_eq_not_any_not])
 rw [HA.out] at HC
 have hft := ep_fits e
 generalize okEp e = R at *
 generalize okClk ⟨e.lo, e.hi⟩ = C at *
 generalize e.pu.all okPu = P at *
 clear ha hw HA
 go_enter Tryz.func13, Tryz.ntmps13
 cases C
 all_goals
  go_wp2_with (first
   | (go_at_call 53; refine (HV.out _).mono ?_; rintro e w' ⟨rfl, hxl⟩; obtain ⟨xm, rfl⟩ := hxl.asLater; clear hxl)
   | (go_at_call 54; refine (HC.out _ (by (with_reducible repeat first|exact eR _|apply eD|apply eN|apply eA|apply eO|apply eS|apply eC);all_goals first|omega|simp <;> omega)).mono ?_; rintro e w' ⟨rfl, hxl⟩; obtain ⟨xn, rfl⟩ := hxl.asLater; clear hxl))
 all_goals
  go_ret
  exact ⟨ret_bool (by have h := HO.out; clear HO; subst h; first | rfl | (simp [*]; done) | (simp [*]; omega) | omega), (by (with_reducible repeat first|exact eR _|apply eD|apply eN|apply eA|apply eO|apply eS|apply eC);all_goals first|omega|simp <;> omega)⟩
def fstBad (f : Nat → Int) (n : Nat) : Int × Int := match (List.range n).find? (fun k => f k != 0) with
 | some k => ((k : Int), f k)
 | none => (-1, 0)
theorem fstBad_hit {f : Nat → Int} {n k : Nat} (hk : k < n) (h0 : ∀ i, i < k → f i = 0) (h1 : f k ≠ 0) : fstBad f n = ((k : Int), f k) := by
 have h : (List.range n).find? (fun k => f k != 0) = some k := by
  rw [List.find?_eq_some_iff_getElem]
  refine ⟨by simpa using h1, k, by simpa using hk, by simp, fun j hj => ?_⟩
  simp [h0 j hj]
 unfold fstBad
 rw [h]
theorem fstBad_none {f : Nat → Int} {n : Nat} (h0 : ∀ i, i < n → f i = 0) : fstBad f n = (-1, 0) := by
 have h : (List.range n).find? (fun k => f k != 0) = none := by
  rw [List.find?_eq_none]
  intro k hk
  simp only [List.mem_range] at hk
  simp [h0 k hk]
 unfold fstBad
 rw [h]
theorem epClk_lims {k : Clk} (h : okClk k = true) : 0 ≤ k.lo ∧ k.lo ≤ k.hi ∧ k.hi ≤ 1099511627776 := by
 simp only [okClk, Bool.and_eq_true, decide_eq_true_eq] at h
 omega
def lastD (l : List Ep) : List Int := match l.getLast? with
 | some e => epName e
 | none => zeros32 16
def lastLo (l : List Ep) : Int := match l.getLast? with
 | some e => e.lo
 | none => 0
def lastHi (l : List Ep) : Int := match l.getLast? with
 | some e => e.hi
 | none => 0
def followsN (l : List Ep) (e : Ep) : Int :=
 if okEp e = true then if e.num = (l.length : Int) + 1 ∧ e.prev = lastD l then if e.lo < lastLo l ∨ e.hi < lastHi l then 9 else 0 else 310 else 3
noncomputable def sealEp (k : Ky) (e : Ep) : Ep := { e with serial := k.serial, sl := makeN k 42 (epParts { e with serial := k.serial }) }
noncomputable def checkEp (ring : List Ky) (x : Ep) : Int := checkR ring 1 x.serial 42 (epParts x) x.sl x.lo x.hi
noncomputable def appendE (ring : List Ky) (l : List Ep) (x : Ep) : Int := if followsN l x = 0 then checkEp ring x else followsN l x
noncomputable def checkAll (ring : List Ky) (l : List Ep) : Int × Int := fstBad (fun i => appendE ring (l.take i) (l.getD i noEp)) l.length
def nextEp (l : List Ep) (s : Ep) : Ep := ⟨(l.length : Int) + 1, lastD l, s.lo, s.hi, s.PA, s.pc, s.pu, s.RA, s.rc, s.rv, 0, zeros32 16⟩
noncomputable def issueX (k : Ky) (l : List Ep) (s : Ep) : Ep := sealEp k (nextEp l s)
noncomputable def issueE (k : Ky) (l : List Ep) (s : Ep) : Int := followsN l (issueX k l s)
def ChainOk (ring : List Ky) (l : List Ep) : Prop := ∀ i (h : i < l.length), appendE ring (l.take i) l[i] = 0
theorem ep_getD {l : List Ep} {k : Nat} (h : k < l.length) : l.getD k noEp = l[k] := by rw [List.getD_eq_getElem?_getD, List.getElem?_eq_getElem h]; rfl
theorem append_follows {ring : List Ky} {l : List Ep} {x : Ep} (h : appendE ring l x = 0) : followsN l x = 0 := by
 unfold appendE at h
 split at h
 ·assumption
 ·exact h
theorem follows_is {l : List Ep} {e : Ep} (h : followsN l e = 0) : okEp e = true ∧ e.num = (l.length : Int) + 1 ∧ e.prev = lastD l ∧ lastLo l ≤ e.lo ∧ lastHi l ≤ e.hi := by
 unfold followsN at h
 split at h
 ·next h1 =>
  split at h
  ·next h2 =>
   split at h
   ·simp at h
   ·next h3 => exact ⟨h1, h2.1, h2.2, by omega, by omega⟩
  ·simp at h
 ·simp at h
def oneKey (secret : ByteArray) : Ky := ⟨1, 1, secret, 0, 1099511627776⟩
theorem oneKey_find (s : ByteArray) : keyF [oneKey s] 1 1 = oneKey s ∧ keyE [oneKey s] 1 1 = 0 := ⟨rfl, rfl⟩
theorem issue_append {s : ByteArray} {l : List Ep} {x : Ep} (h : issueE (oneKey s) l x = 0) : appendE [oneKey s] l (issueX (oneKey s) l x) = if (issueX (oneKey s) l x).hi < 1099511627776 then 0 else 9 := by
 have hf : followsN l (issueX (oneKey s) l x) = 0 := h
 have hok := (follows_is hf).1
 have hc : okClk ⟨(issueX (oneKey s) l x).lo, (issueX (oneKey s) l x).hi⟩ = true := by
  simp only [okEp, Bool.and_eq_true] at hok
  exact hok.1.1.2
 have hl := epClk_lims hc
 unfold appendE
 rw [if_pos hf]
 unfold checkEp
 show checkR [oneKey s] 1 1 42 (epParts { nextEp l x with serial := 1 }) (makeN (oneKey s) 42 (epParts { nextEp l x with serial := 1 })) (issueX (oneKey s) l x).lo (issueX (oneKey s) l x).hi = _
 unfold checkR checkOut
 rw [(oneKey_find s).1, (oneKey_find s).2, if_pos rfl]
 by_cases hh : (issueX (oneKey s) l x).hi < 1099511627776
 ·rw [if_pos hh, if_pos, if_pos rfl]
  simp only [countB, Bool.and_eq_true, decide_eq_true_eq]
  exact ⟨⟨⟨⟨hl.1, hl.2.1⟩, hl.2.2⟩, hl.1⟩, hh⟩
 ·rw [if_neg hh, if_neg]
  simp only [countB, Bool.and_eq_true, decide_eq_true_eq]
  intro h'
  exact hh h'.2
theorem fstBad_at {f : Nat → Int} {n k : Nat} (hk : k < n) (h0 : ∀ i, i < k → f i = 0) (h1 : f k ≠ 0) : fstBad f n = ((k : Int), f k) := fstBad_hit hk h0 h1
theorem chain_change {ring : List Ky} {l : List Ep} (h : ChainOk ring l) (i : Nat) (hi : i + 1 < l.length) (e : Ep) (hne : okEp e = true → epName (l[i]'(by omega)) ≠ epName e) :
  (checkAll ring (l.set i e)).2 ≠ 0 ∧ ((checkAll ring (l.set i e)).1 = i ∨ (checkAll ring (l.set i e)).1 = (i : Int) + 1) := by
 have hlen : (l.set i e).length = l.length := by simp
 have hpre : ∀ j, j < i → appendE ring ((l.set i e).take j) ((l.set i e).getD j noEp) = 0 := by
  intro j hj
  rw [List.take_set_of_le (by omega), List.getD_eq_getElem?_getD, List.getElem?_set_ne (by omega), ← List.getD_eq_getElem?_getD, ep_getD (by omega)]
  exact h j (by omega)
 have hti : (l.set i e).take i = l.take i := List.take_set_of_le (Nat.le_refl _)
 have hgi : (l.set i e).getD i noEp = e := by rw [List.getD_eq_getElem?_getD, List.getElem?_set_self (by omega)]; rfl
 by_cases h0 : appendE ring (l.take i) e = 0
 ·have hok := (follows_is (append_follows h0)).1
  have hn := hne hok
  have hg1 : (l.set i e).getD (i + 1) noEp = l[i + 1] := by rw [List.getD_eq_getElem?_getD, List.getElem?_set_ne (by omega), ← List.getD_eq_getElem?_getD, ep_getD hi]
  have ht1 : (l.set i e).take (i + 1) = l.take i ++ [e] := by
   rw [List.take_succ_eq_append_getElem (by omega), hti]
   simp
  have hprev := (follows_is (append_follows (h (i + 1) hi))).2.2.1
  have hl1 : lastD (l.take (i + 1)) = epName (l[i]'(by omega)) := by
   rw [List.take_succ_eq_append_getElem (by omega)]
   unfold lastD
   rw [List.getLast?_concat]
  have hl2 : lastD (l.take i ++ [e]) = epName e := by
   unfold lastD
   rw [List.getLast?_concat]
  have hbad : appendE ring ((l.set i e).take (i + 1)) ((l.set i e).getD (i + 1) noEp) ≠ 0 := by
   rw [ht1, hg1]
   intro hc
   have := (follows_is (append_follows hc)).2.2.1
   rw [hl2, hprev, hl1] at this
   exact hn this
  have := fstBad_at (f := fun j => appendE ring ((l.set i e).take j) ((l.set i e).getD j noEp)) (n := (l.set i e).length) (k := i + 1) (by omega) (fun j hj => by
   by_cases hji : j = i
   ·subst hji
    show appendE ring ((l.set j e).take j) ((l.set j e).getD j noEp) = 0
    rw [hti, hgi]
    exact h0
   ·exact hpre j (by omega)) hbad
  unfold checkAll
  rw [this]
  exact ⟨hbad, .inr (by simp)⟩
 ·have hbad : appendE ring ((l.set i e).take i) ((l.set i e).getD i noEp) ≠ 0 := by rw [hti, hgi]; exact h0
  have := fstBad_at (f := fun j => appendE ring ((l.set i e).take j) ((l.set i e).getD j noEp)) (n := (l.set i e).length) (k := i) (by omega) hpre hbad
  unfold checkAll
  rw [this]
  exact ⟨hbad, .inl rfl⟩
end Go.Proofs.YtpojnhikgjcgmaaGreatDoor

namespace Go.Proofs.YtpojnhikgjcgmaaGreatDoor
open Go.RowKit Go.Shelf
open Go.Proofs
open Ad (Bs cutB)
def custB (a : Bs) : Bs := a.takeWhile fun c => c != 47 && c != 63
noncomputable def splitT (t : Bs) : List Bs := if t = [] then [] else if Tg.tagsB t = true then Ad.pieces 44 t else []
def restB : Bs → Bool
 | [] => true
 | c :: _ => c == 47 || c == 63
def underB (p a : Bs) : Bool := Ad.canonB p && Ad.canonB a && !(p.contains 63) && decide (a.take p.length = p) && restB (a.drop p.length)
noncomputable def hitsB (p : Pu) (a t : Bs) : Bool :=
 if p.kind = 1 then decide (bsT p.what = a) else if p.kind = 2 then underB (bsT p.what) a else decide ((cutB 58 (bsT p.what)).1 = custB a) && (splitT t).contains (cutB 58 (bsT p.what)).2.1
noncomputable def removesB (e : Ep) (lo : Int) (a t : Bs) : Int :=
 if e.hi < lo then 0 else if (e.pu.any fun p => hitsB p a t && !p.soft) = true then 2 else if (e.pu.any fun p => hitsB p a t) = true then 1 else 0
noncomputable def stateB (l : List Ep) (lo : Int) (a t : Bs) : Int := l.foldl (fun m e => max m (removesB e lo a t)) 0
def pathB (a : Bs) : Bs := (cutB 63 a).1
def prefs (p : Bs) : List Bs := (((List.range p.length).filter fun i => p.getD i 0 == 47).map fun i => p.take i) ++ [p]
noncomputable def namesB (a t : Bs) : List (Int × Bs) := (1, a) :: (((prefs (pathB a)).map fun x => ((2 : Int), x)) ++ ((splitT t).map fun x => ((3 : Int), custB a ++ 58 :: x)))
def untilE (e : Ep) (k : Int) (x : Bs) (soft : Bool) : Bool := e.pu.any fun p => decide (p.kind = k) && decide (bsT p.what = x) && (p.soft == soft)
def untilB (l : List Ep) (k : Int) (x : Bs) (soft : Bool) : Option Int := l.foldl (fun o e => if untilE e k x soft = true then some (max (o.getD 0) e.hi) else o) none
def lateB (o : Option Int) (lo : Int) : Bool := match o with
 | some u => decide (lo ≤ u)
 | none => false
noncomputable def hitT (l : List Ep) (soft : Bool) (lo : Int) (a t : Bs) : Bool := (namesB a t).any fun n => lateB (untilB l n.1 n.2 soft) lo
noncomputable def tableB (l : List Ep) (lo : Int) (a t : Bs) : Int := if hitT l false lo a t = true then 2 else if hitT l true lo a t = true then 1 else 0
theorem mem_prefs {p x : Bs} : x ∈ prefs p ↔ (∃ r, p = x ++ 47 :: r) ∨ x = p := by
 unfold prefs
 rw [List.mem_append, List.mem_singleton, List.mem_map]
 constructor
 ·rintro (⟨i, hi, rfl⟩ | h)
  ·left
   simp only [List.mem_filter, List.mem_range, beq_iff_eq] at hi
   refine ⟨p.drop (i + 1), ?_⟩
   have e : p[i]'hi.1 = 47 := by have := hi.2; rwa [List.getD_eq_getElem?_getD, List.getElem?_eq_getElem hi.1] at this
   conv => lhs; rw [← List.take_append_drop i p, List.drop_eq_getElem_cons hi.1, e]
  ·exact .inr h
 ·rintro (⟨r, rfl⟩ | h)
  ·left
   refine ⟨x.length, ?_, by simp⟩
   simp [List.getD_eq_getElem?_getD]
  ·exact .inr h
theorem cut_path {a : Bs} : ∃ r, a = pathB a ++ r ∧ (r = [] ∨ ∃ q, r = 63 :: q) ∧ (63 : UInt8) ∉ pathB a := by
 unfold pathB
 rcases Ad.cutB_index 63 a with ⟨_, h, hm⟩ | ⟨i, _, _, h, hm, e⟩
 ·rw [h]; exact ⟨[], by simp, .inl rfl, hm⟩
 ·rw [h]; exact ⟨63 :: a.drop (i + 1), e, .inr ⟨_, rfl⟩, hm⟩
theorem path_uniq {x r y s : Bs} (hx : (63 : UInt8) ∉ x) (hy : (63 : UInt8) ∉ y) (hr : r = [] ∨ ∃ q, r = 63 :: q) (hs : s = [] ∨ ∃ q, s = 63 :: q) (h : x ++ r = y ++ s) : x = y := by
 rcases hr with rfl | ⟨q, rfl⟩ <;> rcases hs with rfl | ⟨q', rfl⟩
 ·simpa using h
 ·exfalso; rw [List.append_nil] at h; exact hx (by rw [h]; simp)
 ·exfalso; rw [List.append_nil] at h; exact hy (by rw [← h]; simp)
 ·exact (Tg.tail_uniq 63 hx hy h).1
theorem under_names {p a : Bs} (hp : Ad.canonB p = true) (hn : (63 : UInt8) ∉ p) (ha : Ad.canonB a = true) : underB p a = true ↔ p ∈ prefs (pathB a) := by
 obtain ⟨r, e, hr, hpa⟩ := cut_path (a := a)
 have hc : p.contains 63 = false := by simpa using hn
 unfold underB
 rw [hp, ha, hc]
 simp only [Bool.true_and, Bool.not_false, Bool.and_eq_true, decide_eq_true_eq]
 rw [mem_prefs]
 constructor
 ·rintro ⟨h1, h2⟩
  have e1 : a = p ++ a.drop p.length := by conv => lhs; rw [← List.take_append_drop p.length a, h1]
  generalize a.drop p.length = d at *
  match d, h2, e1 with
  | [], _, e1 =>
   right
   exact path_uniq hn hpa (.inl rfl) hr (e1.symm.trans e)
  | c :: q, h2, e1 =>
   simp only [restB, Bool.or_eq_true, beq_iff_eq] at h2
   rcases h2 with rfl | rfl
   ·left
    rcases Ad.cutB_index 63 q with ⟨_, h3, hm⟩ | ⟨i, _, _, h3, hm, e3⟩
    ·refine ⟨q, ?_⟩
     refine path_uniq hpa ?_ hr (s := []) (.inl rfl) ?_
     ·intro hh
      rcases List.mem_append.1 hh with k | k
      ·exact hn k
      ·rcases List.mem_cons.1 k with k | k
       ·exact absurd k (by decide)
       ·exact hm k
     ·rw [List.append_nil, ← e1]; exact e.symm
    ·refine ⟨q.take i, ?_⟩
     refine path_uniq hpa ?_ hr (s := 63 :: q.drop (i + 1)) (.inr ⟨_, rfl⟩) ?_
     ·intro hh
      rcases List.mem_append.1 hh with k | k
      ·exact hn k
      ·rcases List.mem_cons.1 k with k | k
       ·exact absurd k (by decide)
       ·exact hm k
     ·rw [List.append_assoc, List.cons_append, ← e3, ← e1]; exact e.symm
   ·right
    exact path_uniq hn hpa (.inr ⟨q, rfl⟩) hr (e1.symm.trans e)
 ·rintro (⟨q, h⟩ | h)
  ·rw [h, List.append_assoc] at e
   rw [e]
   refine ⟨by simp, ?_⟩
   rw [List.drop_left, List.cons_append]
   rfl
  ·rw [← h] at e
   rw [e]
   refine ⟨by simp, ?_⟩
   rw [List.drop_left]
   rcases hr with rfl | ⟨q, rfl⟩ <;> rfl
theorem cut_colon {x : Bs} (h : (cutB 58 x).2.2 = true) : x = (cutB 58 x).1 ++ 58 :: (cutB 58 x).2.1 := by
 rcases Ad.cutB_index 58 x with ⟨_, h3, _⟩ | ⟨i, _, _, h3, _, e3⟩
 ·rw [h3] at h; cases h
 ·rw [h3]; exact e3
theorem names_hits {p : Pu} {a t : Bs} (hp : okPu p = true) (ha : Ad.canonB a = true) : hitsB p a t = true ↔ (p.kind, bsT p.what) ∈ namesB a t := by
 unfold okPu at hp
 unfold hitsB namesB
 rw [List.mem_cons, List.mem_append, List.mem_map, List.mem_map]
 by_cases k1 : p.kind = 1
 ·rw [if_pos k1]
  rw [k1, decide_eq_true_eq]
  constructor
  ·intro h; left; rw [h]
  ·rintro (h | ⟨x, _, h⟩ | ⟨x, _, h⟩)
   ·exact (Prod.mk.inj h).2
   ·have := (Prod.mk.inj h).1; omega
   ·have := (Prod.mk.inj h).1; omega
 ·rw [if_neg k1] at hp ⊢
  by_cases k2 : p.kind = 2
  ·rw [if_pos k2] at hp ⊢
   simp only [Bool.and_eq_true, Bool.not_eq_true'] at hp
   rw [under_names hp.1 (by simpa using hp.2) ha, k2]
   constructor
   ·intro h; right; left; exact ⟨_, h, rfl⟩
   ·rintro (h | ⟨x, hx, h⟩ | ⟨x, _, h⟩)
    ·have := (Prod.mk.inj h).1; omega
    ·rw [← (Prod.mk.inj h).2]; exact hx
    ·have := (Prod.mk.inj h).1; omega
  ·rw [if_neg k2] at hp ⊢
   by_cases k3 : p.kind = 3
   ·rw [if_pos k3] at hp
    simp only [Bool.and_eq_true, decide_eq_true_eq] at hp
    obtain ⟨⟨⟨h1, _⟩, h2⟩, h3⟩ := hp
    have e := cut_colon h1
    have n1 : (58 : UInt8) ∉ (cutB 58 (bsT p.what)).1 := Tg.nameB_no h2 (by decide)
    have n2 : (58 : UInt8) ∉ (cutB 58 (bsT p.what)).2.1 := Tg.nameB_no h3 (by decide)
    generalize (cutB 58 (bsT p.what)).1 = x at *
    generalize (cutB 58 (bsT p.what)).2.1 = y at *
    rw [k3, e]
    simp only [Bool.and_eq_true, decide_eq_true_eq, List.contains_iff_mem]
    constructor
    ·rintro ⟨g1, g2⟩
     right; right
     exact ⟨y, g2, by rw [g1]⟩
    ·rintro (h | ⟨z, _, h⟩ | ⟨z, hz, h⟩)
     ·have := (Prod.mk.inj h).1; omega
     ·have := (Prod.mk.inj h).1; omega
     ·have hq : custB a ++ 58 :: z = x ++ 58 :: y := (Prod.mk.inj h).2
      have nc : (58 : UInt8) ∉ custB a := by
       intro hm
       have c1 : (x ++ 58 :: y).count 58 = 1 := by
        rw [List.count_append, List.count_cons_self, List.count_eq_zero_of_not_mem n1, List.count_eq_zero_of_not_mem n2]
       rw [← hq, List.count_append, List.count_cons_self] at c1
       have := List.count_pos_iff.2 hm
       omega
      obtain ⟨g1, g2⟩ := Tg.tail_uniq 58 nc n1 hq
      exact ⟨g1.symm, by rw [← g2]; exact hz⟩
   ·rw [if_neg k3] at hp; cases hp
theorem late_until {l : List Ep} (hl : ∀ e ∈ l, okEp e = true) (k : Int) (x : Bs) (soft : Bool) (lo : Int) : lateB (untilB l k x soft) lo = true ↔ ∃ e ∈ l, untilE e k x soft = true ∧ lo ≤ e.hi := by
 have gen : ∀ (l : List Ep) (o : Option Int), (∀ e ∈ l, okEp e = true) → (∀ u, o = some u → 0 ≤ u) → (lateB (l.foldl (fun o e => if untilE e k x soft = true then some (max (o.getD 0) e.hi) else o) o) lo = true ↔ lateB o lo = true ∨ ∃ e ∈ l, untilE e k x soft = true ∧ lo ≤ e.hi) := by
  intro l
  induction l with
  | nil => intro o _ _; simp
  | cons e t ih =>
   intro o hl ho
   have hok := hl e (by simp)
   have hc : 0 ≤ e.hi := by
    simp only [okEp, Bool.and_eq_true] at hok
    have := epClk_lims hok.1.1.2
    have h1 : 0 ≤ e.lo := this.1
    have h2 : e.lo ≤ e.hi := this.2.1
    omega
   rw [List.foldl_cons]
   by_cases hu : untilE e k x soft = true
   ·rw [if_pos hu, ih _ (fun y hy => hl y (by simp [hy])) (fun u h => by injection h with h; omega)]
    have key : lateB (some (max (o.getD 0) e.hi)) lo = true ↔ lateB o lo = true ∨ lo ≤ e.hi := by
     cases o with
     | none =>
      simp only [lateB, Option.getD_none, decide_eq_true_eq]
      constructor <;> intro h
      ·right; omega
      ·rcases h with h | h
       ·cases h
       ·omega
     | some u => simp only [lateB, Option.getD_some, decide_eq_true_eq]; omega
    rw [key]
    constructor
    ·rintro ((h | h) | ⟨y, hy, h⟩)
     ·exact .inl h
     ·exact .inr ⟨e, by simp, hu, h⟩
     ·exact .inr ⟨y, by simp [hy], h⟩
    ·rintro (h | ⟨y, hy, h1, h2⟩)
     ·exact .inl (.inl h)
     ·rcases List.mem_cons.1 hy with rfl | hy
      ·exact .inl (.inr h2)
      ·exact .inr ⟨y, hy, h1, h2⟩
   ·rw [if_neg hu, ih _ (fun y hy => hl y (by simp [hy])) ho]
    constructor
    ·rintro (h | ⟨y, hy, h⟩)
     ·exact .inl h
     ·exact .inr ⟨y, by simp [hy], h⟩
    ·rintro (h | ⟨y, hy, h1, h2⟩)
     ·exact .inl h
     ·rcases List.mem_cons.1 hy with rfl | hy
      ·exact absurd h1 hu
      ·exact .inr ⟨y, hy, h1, h2⟩
 have := gen l none hl (fun u h => by cases h)
 unfold untilB
 rw [this]
 simp [lateB]
theorem hit_table {l : List Ep} (hl : ∀ e ∈ l, okEp e = true) {a : Bs} (ha : Ad.canonB a = true) (soft : Bool) (lo : Int) (t : Bs) : hitT l soft lo a t = true ↔ ∃ e ∈ l, lo ≤ e.hi ∧ ∃ p ∈ e.pu, p.soft = soft ∧ hitsB p a t = true := by
 unfold hitT
 rw [List.any_eq_true]
 constructor
 ·rintro ⟨n, hn, h⟩
  obtain ⟨e, he, hu, hlo⟩ := (late_until hl n.1 n.2 soft lo).1 h
  unfold untilE at hu
  rw [List.any_eq_true] at hu
  obtain ⟨p, hp, hq⟩ := hu
  simp only [Bool.and_eq_true, decide_eq_true_eq, beq_iff_eq] at hq
  refine ⟨e, he, hlo, p, hp, hq.2, ?_⟩
  have hok := hl e he
  simp only [okEp, Bool.and_eq_true, List.all_eq_true] at hok
  rw [names_hits (hok.2 p hp) ha, hq.1.1, hq.1.2]
  exact hn
 ·rintro ⟨e, he, hlo, p, hp, hs, hh⟩
  have hok := hl e he
  simp only [okEp, Bool.and_eq_true, List.all_eq_true] at hok
  refine ⟨(p.kind, bsT p.what), (names_hits (hok.2 p hp) ha).1 hh, (late_until hl _ _ soft lo).2 ⟨e, he, ?_, hlo⟩⟩
  unfold untilE
  rw [List.any_eq_true]
  exact ⟨p, hp, by simp [hs]⟩
theorem max012 {m v : Int} (hm : m = 0 ∨ m = 1 ∨ m = 2) (hv : v = 0 ∨ v = 1 ∨ v = 2) : ((max m v = 2) ↔ (m = 2 ∨ v = 2)) ∧ (¬ m = 2 → ¬ v = 2 → ((max m v = 1) ↔ (m = 1 ∨ v = 1))) ∧ (max m v = 0 ∨ max m v = 1 ∨ max m v = 2) := by
 rcases hm with rfl | rfl | rfl <;> rcases hv with rfl | rfl | rfl <;> decide
theorem state_max {l : List Ep} (lo : Int) (a t : Bs) : stateB l lo a t = if (∃ e ∈ l, removesB e lo a t = 2) then 2 else if (∃ e ∈ l, removesB e lo a t = 1) then 1 else 0 := by
 have h3 : ∀ e : Ep, removesB e lo a t = 0 ∨ removesB e lo a t = 1 ∨ removesB e lo a t = 2 := by
  intro e
  unfold removesB
  split
  ·exact .inl rfl
  ·split
   ·exact .inr (.inr rfl)
   ·split
    ·exact .inr (.inl rfl)
    ·exact .inl rfl
 have gen : ∀ (l : List Ep) (m : Int), (m = 0 ∨ m = 1 ∨ m = 2) → l.foldl (fun m e => max m (removesB e lo a t)) m = if (m = 2 ∨ ∃ e ∈ l, removesB e lo a t = 2) then 2 else if (m = 1 ∨ ∃ e ∈ l, removesB e lo a t = 1) then 1 else 0 := by
  intro l
  induction l with
  | nil =>
   intro m hm
   simp only [List.foldl_nil, List.not_mem_nil, false_and, exists_false, or_false]
   rcases hm with rfl | rfl | rfl <;> simp
  | cons e t' ih =>
   intro m hm
   have he := h3 e
   rw [List.foldl_cons, ih _ (max012 hm he).2.2]
   have m2 : (max m (removesB e lo a t) = 2) ↔ (m = 2 ∨ removesB e lo a t = 2) := (max012 hm he).1
   have q2 : ((max m (removesB e lo a t) = 2) ∨ ∃ y ∈ t', removesB y lo a t = 2) ↔ (m = 2 ∨ ∃ y ∈ e :: t', removesB y lo a t = 2) := by
    rw [m2]
    simp only [List.mem_cons, exists_eq_or_imp, or_assoc]
   by_cases c2 : (m = 2 ∨ ∃ y ∈ e :: t', removesB y lo a t = 2)
   ·rw [if_pos c2, if_pos (q2.2 c2)]
   ·rw [if_neg c2, if_neg (fun h => c2 (q2.1 h))]
    have n2 : ¬ m = 2 := fun h => c2 (.inl h)
    have n3 : ¬ removesB e lo a t = 2 := fun h => c2 (.inr ⟨e, by simp, h⟩)
    have m1 : (max m (removesB e lo a t) = 1) ↔ (m = 1 ∨ removesB e lo a t = 1) := (max012 hm he).2.1 n2 n3
    have q1 : ((max m (removesB e lo a t) = 1) ∨ ∃ y ∈ t', removesB y lo a t = 1) ↔ (m = 1 ∨ ∃ y ∈ e :: t', removesB y lo a t = 1) := by
     rw [m1]
     simp only [List.mem_cons, exists_eq_or_imp, or_assoc]
    by_cases c1 : (m = 1 ∨ ∃ y ∈ e :: t', removesB y lo a t = 1)
    ·rw [if_pos c1, if_pos (q1.2 c1)]
    ·rw [if_neg c1, if_neg (fun h => c1 (q1.1 h))]
 have := gen l 0 (.inl rfl)
 unfold stateB
 rw [this]
 simp
theorem table_state {l : List Ep} (hl : ∀ e ∈ l, okEp e = true) {a : Bs} (ha : Ad.canonB a = true) (lo : Int) (t : Bs) : tableB l lo a t = stateB l lo a t := by
 have r2 : ∀ e : Ep, removesB e lo a t = 2 ↔ lo ≤ e.hi ∧ ∃ p ∈ e.pu, p.soft = false ∧ hitsB p a t = true := by
  intro e
  unfold removesB
  by_cases h0 : e.hi < lo
  ·rw [if_pos h0]
   constructor
   ·intro h; cases h
   ·rintro ⟨h, _⟩; omega
  ·rw [if_neg h0]
   by_cases h1 : (e.pu.any fun p => hitsB p a t && !p.soft) = true
   ·rw [if_pos h1]
    rw [List.any_eq_true] at h1
    obtain ⟨p, hp, hq⟩ := h1
    simp only [Bool.and_eq_true, Bool.not_eq_true'] at hq
    exact ⟨fun _ => ⟨by omega, p, hp, hq.2, hq.1⟩, fun _ => rfl⟩
   ·rw [if_neg h1]
    constructor
    ·intro h; split at h <;> cases h
    ·rintro ⟨_, p, hp, hs, hh⟩
     exact absurd (List.any_eq_true.2 ⟨p, hp, by simp [hs, hh]⟩) h1
 have r1 : ∀ e : Ep, removesB e lo a t ≠ 2 → (removesB e lo a t = 1 ↔ lo ≤ e.hi ∧ ∃ p ∈ e.pu, p.soft = true ∧ hitsB p a t = true) := by
  intro e hne
  have hno : ¬ (lo ≤ e.hi ∧ ∃ p ∈ e.pu, p.soft = false ∧ hitsB p a t = true) := fun h => hne ((r2 e).2 h)
  unfold removesB at hne ⊢
  by_cases h0 : e.hi < lo
  ·rw [if_pos h0]
   constructor
   ·intro h; cases h
   ·rintro ⟨h, _⟩; omega
  ·rw [if_neg h0] at hne ⊢
   by_cases h1 : (e.pu.any fun p => hitsB p a t && !p.soft) = true
   ·rw [if_pos h1] at hne; exact absurd rfl hne
   ·rw [if_neg h1]
    by_cases h2 : (e.pu.any fun p => hitsB p a t) = true
    ·rw [if_pos h2]
     rw [List.any_eq_true] at h2
     obtain ⟨p, hp, hq⟩ := h2
     refine ⟨fun _ => ⟨by omega, p, hp, ?_, hq⟩, fun _ => rfl⟩
     cases hs : p.soft with
     | true => rfl
     | false => exact absurd ⟨by omega, p, hp, hs, hq⟩ hno
    ·rw [if_neg h2]
     constructor
     ·intro h; cases h
     ·rintro ⟨_, p, hp, hs, hh⟩
      exact absurd (List.any_eq_true.2 ⟨p, hp, hh⟩) h2
 rw [state_max]
 unfold tableB
 have t2 : hitT l false lo a t = true ↔ ∃ e ∈ l, removesB e lo a t = 2 := by
  rw [hit_table hl ha]
  constructor
  ·rintro ⟨e, he, h⟩; exact ⟨e, he, (r2 e).2 h⟩
  ·rintro ⟨e, he, h⟩; exact ⟨e, he, (r2 e).1 h⟩
 by_cases c2 : ∃ e ∈ l, removesB e lo a t = 2
 ·rw [if_pos (t2.2 c2), if_pos c2]
 ·rw [if_neg (fun h => c2 (t2.1 h)), if_neg c2]
  have t1 : hitT l true lo a t = true ↔ ∃ e ∈ l, removesB e lo a t = 1 := by
   rw [hit_table hl ha]
   constructor
   ·rintro ⟨e, he, h⟩; exact ⟨e, he, (r1 e (fun k => c2 ⟨e, he, k⟩)).2 h⟩
   ·rintro ⟨e, he, h⟩; exact ⟨e, he, (r1 e (fun k => c2 ⟨e, he, k⟩)).1 h⟩
  by_cases c1 : ∃ e ∈ l, removesB e lo a t = 1
  ·rw [if_pos (t1.2 c1), if_pos c1]
  ·rw [if_neg (fun h => c1 (t1.1 h)), if_neg c1]
end Go.Proofs.YtpojnhikgjcgmaaGreatDoor

namespace Go.Proofs.YtpojnhikgjcgmaaGreatDoor
open Go.RowKit Go.Shelf
open Go.Proofs
open Ad (Bs)
noncomputable def madeN (k : Ky) (sets : List Ep) : List Ep := sets.foldl (fun out s => if issueE k out s = 0 then out ++ [issueX k out s] else out) []
theorem made_snoc (k : Ky) (sets : List Ep) (s : Ep) : madeN k (sets ++ [s]) = if issueE k (madeN k sets) s = 0 then madeN k sets ++ [issueX k (madeN k sets) s] else madeN k sets := by
 unfold madeN
 rw [List.foldl_append]
 rfl
theorem made_take (k : Ky) (sets : List Ep) (i : Nat) (h : i < sets.length) : madeN k (sets.take (i + 1)) = if issueE k (madeN k (sets.take i)) sets[i] = 0 then madeN k (sets.take i) ++ [issueX k (madeN k (sets.take i)) sets[i]] else madeN k (sets.take i) := by
 rw [List.take_succ_eq_append_getElem h, made_snoc]
def IssuedOk (k : Ky) (l : List Ep) : Prop := ∀ i (h : i < l.length), ∃ s, l[i] = issueX k (l.take i) s ∧ issueE k (l.take i) s = 0
theorem issued_snoc {k : Ky} {l : List Ep} {s : Ep} (h : IssuedOk k l) (hs : issueE k l s = 0) : IssuedOk k (l ++ [issueX k l s]) := by
 intro i hi
 rw [List.length_append, List.length_singleton] at hi
 by_cases e : i < l.length
 ·rw [List.take_append_of_le_length (by omega), List.getElem_append_left e]
  exact h i e
 ·have : i = l.length := by omega
  subst this
  rw [List.take_left, List.getElem_append_right (Nat.le_refl _)]
  exact ⟨s, by simp, hs⟩
theorem made_issued (k : Ky) : ∀ sets : List Ep, IssuedOk k (madeN k sets) := by
 intro sets
 have gen : ∀ (sets out : List Ep), IssuedOk k out → IssuedOk k (sets.foldl (fun out s => if issueE k out s = 0 then out ++ [issueX k out s] else out) out) := by
  intro sets
  induction sets with
  | nil => intro out h; exact h
  | cons s t ih =>
   intro out h
   rw [List.foldl_cons]
   apply ih
   split
   ·next hs => exact issued_snoc h hs
   ·exact h
 exact gen sets [] (fun i h => by simp at h)
theorem made_len (k : Ky) : ∀ sets : List Ep, (madeN k sets).length ≤ sets.length := by
 intro sets
 have gen : ∀ (sets out : List Ep), (sets.foldl (fun out s => if issueE k out s = 0 then out ++ [issueX k out s] else out) out).length ≤ out.length + sets.length := by
  intro sets
  induction sets with
  | nil => intro out; simp
  | cons s t ih =>
   intro out
   rw [List.foldl_cons, List.length_cons]
   split
   ·have := ih (out ++ [issueX k out s])
    simp at this
    omega
   ·have := ih out
    omega
 have h := gen sets []
 rw [List.length_nil, Nat.zero_add] at h
 exact h
theorem issued_follows {k : Ky} {l : List Ep} (h : IssuedOk k l) (i : Nat) (hi : i < l.length) : followsN (l.take i) l[i] = 0 := by
 obtain ⟨s, e, h0⟩ := h i hi
 rw [e]
 exact h0
theorem issued_ok {k : Ky} {l : List Ep} (h : IssuedOk k l) : ∀ e ∈ l, okEp e = true := by
 intro e he
 obtain ⟨i, hi, rfl⟩ := List.getElem_of_mem he
 exact (follows_is (issued_follows h i hi)).1
theorem last_take {l : List Ep} {i : Nat} (hi : i < l.length) : lastLo (l.take (i + 1)) = l[i].lo ∧ lastHi (l.take (i + 1)) = l[i].hi ∧ lastD (l.take (i + 1)) = epName l[i] := by
 rw [List.take_succ_eq_append_getElem hi]
 unfold lastLo lastHi lastD
 rw [List.getLast?_concat]
 exact ⟨rfl, rfl, rfl⟩
theorem issued_hi {k : Ky} {l : List Ep} (h : IssuedOk k l) : ∀ (j i : Nat) (hj : j < l.length) (hij : i ≤ j), (l[i]'(by omega)).hi ≤ l[j].hi := by
 intro j
 induction j with
 | zero =>
  intro i hj hij
  have : i = 0 := by omega
  subst this
  exact Int.le_refl _
 | succ j ih =>
  intro i hj hij
  by_cases e : i = j + 1
  ·subst e; exact Int.le_refl _
  ·have h1 := ih i (by omega) (by omega)
   have h2 := (follows_is (issued_follows h (j + 1) hj)).2.2.2.2
   rw [(last_take (by omega)).2.1] at h2
   omega
theorem made_chain {s : ByteArray} {l : List Ep} (h : IssuedOk (oneKey s) l) (hl : ∀ e ∈ l, e.hi < 1099511627776) : ChainOk [oneKey s] l := by
 intro i hi
 obtain ⟨x, e, h0⟩ := h i hi
 have := issue_append h0
 rw [← e] at this
 rw [this, if_pos (hl _ (List.getElem_mem hi))]
def revokedB (l : List Ep) (d : List Int) : Bool := l.any fun e => e.rv.any fun x => decide (x = d)
end Go.Proofs.YtpojnhikgjcgmaaGreatDoor

namespace Go.Proofs.YtpojnhikgjcgmaaGreatDoor
open Go.RowKit Go.Shelf Go.Maps
open Go.Proofs
open Ad (Bs)
abbrev WK : Type := Int × ByteArray × Bool
def wkL (k : WK) : Lit := whatL k.1 k.2.1 k.2.2
def wkOk (k : WK) : Prop := (Lit.int .i64 k.1).wf = true ∧ k.2.1.size ≤ maxLen
theorem wk_inj (k k' : WK) (h : wkOk k) (h' : wkOk k') (e : wkL k = wkL k') : k = k' := by
 obtain ⟨e1, e2, e3⟩ := what_inj h.1 h.2 h'.1 h'.2 e
 exact Prod.ext e1 (Prod.ext e2 e3)
theorem wk_key (k : WK) (h : wkOk k) : WideAt.IsKeyLit (wkL k) := key_what.key (what_key k.1 k.2.1 k.2.2 h.1 h.2)
def dkOk (a : List Int) : Prop := a.length = 16 ∧ ∀ x ∈ a, (Lit.int .u8 x).wf = true
theorem dk_inj (k k' : List Int) (h : dkOk k) (h' : dkOk k') (e : digL k = digL k') : k = k' := dig_inj h.1 h.2 h'.1 h'.2 e
theorem dk_key (k : List Int) (h : dkOk k) : WideAt.IsKeyLit (digL k) := key_dig.key (dig_key k h.1 h.2)
def untK (l : List Ep) (k : WK) : Option Int := untilB l k.1 (bsT k.2.1) k.2.2
def puKey (p : Pu) : WK := (p.kind, p.what, p.soft)
def hasK (l : List Pu) (k : WK) : Bool := l.any fun p => decide (p.kind = k.1) && decide (bsT p.what = bsT k.2.1) && (p.soft == k.2.2)
def untJ (g : WK → Option Int) (hi : Int) (l : List Pu) (k : WK) : Option Int := if hasK l k = true then some (max ((g k).getD 0) hi) else g k
theorem untJ_all (l : List Ep) (e : Ep) : untJ (untK l) e.hi e.pu = untK (l ++ [e]) := by
 funext k
 unfold untJ untK untilB
 rw [List.foldl_append]
 rfl
theorem bs_inj {a b : ByteArray} (h : bsT a = bsT b) : a = b := by
 cases a; cases b
 simp [bsT] at h
 simpa using h
theorem hasK_self (p : Pu) (k : WK) : (decide (p.kind = k.1) && decide (bsT p.what = bsT k.2.1) && (p.soft == k.2.2)) = true ↔ k = puKey p := by
 simp only [Bool.and_eq_true, decide_eq_true_eq, beq_iff_eq]
 constructor
 ·rintro ⟨⟨h1, h2⟩, h3⟩
  exact (Prod.ext h1 (Prod.ext (bs_inj h2) h3)).symm
 ·rintro rfl
  exact ⟨⟨rfl, rfl⟩, rfl⟩
theorem untJ_step (g : WK → Option Int) (hi : Int) (l : List Pu) (p : Pu) (k : WK) :
  putF (fun k => (untJ g hi l k).map (Lit.int .i64)) (puKey p) (.int .i64 (max ((untJ g hi l (puKey p)).getD 0) hi)) k = (untJ g hi (l ++ [p]) k).map (Lit.int .i64) := by
 unfold putF
 have hs : hasK (l ++ [p]) k = (hasK l k || decide (k = puKey p)) := by
  unfold hasK
  rw [List.any_append, List.any_cons, List.any_nil, Bool.or_false]
  congr 1
  rw [Bool.eq_iff_iff, hasK_self, decide_eq_true_iff]
 by_cases e : k = puKey p
 ·rw [if_pos e]
  have h1 : hasK (l ++ [p]) k = true := by rw [hs]; simp [e]
  unfold untJ
  rw [if_pos h1, ← e]
  show some _ = some _
  congr 2
  by_cases h2 : hasK l k = true
  ·rw [if_pos h2]
   show max (max ((g k).getD 0) hi) hi = _
   omega
  ·rw [if_neg h2]
 ·rw [if_neg e]
  have h1 : hasK (l ++ [p]) k = hasK l k := by rw [hs]; simp [e]
  unfold untJ
  rw [h1]
theorem untJ_at {D : DataW Unit} {g : WK → Option Int} {hi : Int} {l : List Pu} {k : WK} {c : Int} (h : TabF wkL wkOk D (fun k => (untJ g hi l k).map (Lit.int .i64))) (hk : wkOk k) (hc : D.atKey (wkL k) (.lit (.int .i64 0)) = .lit (.int .i64 c)) : c = (untJ g hi l k).getD 0 := by
 rw [h.at' k hk] at hc
 cases hu : untJ g hi l k with
 | none => rw [hu] at hc; simpa using hc.symm
 | some u => rw [hu] at hc; simpa using hc.symm
def revF (l : List Ep) (d : List Int) : Option Lit := if revokedB l d = true then some (.bool true) else none
def revJ (g : List Int → Option Lit) (l : List (List Int)) (d : List Int) : Option Lit := if (l.any fun x => decide (x = d)) = true then some (.bool true) else g d
theorem revJ_all (l : List Ep) (e : Ep) : revJ (revF l) e.rv = revF (l ++ [e]) := by
 funext d
 unfold revJ revF revokedB
 rw [List.any_append, List.any_cons, List.any_nil, Bool.or_false]
 by_cases h : (e.rv.any fun x => decide (x = d)) = true
 ·rw [if_pos h, h, Bool.or_true, if_pos rfl]
 ·rw [if_neg h, Bool.eq_false_iff.2 h, Bool.or_false]
theorem revJ_step (g : List Int → Option Lit) (l : List (List Int)) (x d : List Int) : putF (revJ g l) x (.bool true) d = revJ g (l ++ [x]) d := by
 unfold putF revJ
 rw [List.any_append, List.any_cons, List.any_nil, Bool.or_false]
 by_cases e : d = x
 ·rw [if_pos e]
  subst e
  simp
 ·rw [if_neg e]
  have : decide (x = d) = false := decide_eq_false (fun h => e h.symm)
  rw [this, Bool.or_false]
theorem revF_at {D : DataW Unit} {l : List Ep} {d : List Int} {c : Bool} (h : TabF digL dkOk D (revF l)) (hk : dkOk d) (hc : D.atKey (digL d) (.lit (.bool false)) = .lit (.bool c)) : c = revokedB l d := by
 rw [h.at' d hk] at hc
 unfold revF at hc
 cases hr : revokedB l d with
 | false => rw [hr] at hc; simpa using hc.symm
 | true => rw [hr] at hc; simpa using hc.symm
theorem revF_nil : revF [] = fun _ => none := by funext d; rfl
def lastNum (l : List Ep) : Int := match l.getLast? with
 | some e => e.num
 | none => 0
def TabAt (w : World) (l : List Ep) (v : Value) : Prop :=
 (l = [] ∧ v = .agg #[.map none, .map none, .int .i64 0]) ∨
 ∃ (bu nu br nr : Nat) (Du Dr : DataW Unit), v = .agg #[.map (some bu), .map (some br), .int .i64 (lastNum l)] ∧ bu ≠ br ∧
  w.ownsMap Tryz.prog 118 (plainElem Tryz.prog 3) bu nu Du ∧ w.ownsMap Tryz.prog 23 (plainElem Tryz.prog 4) br nr Dr ∧ nu ≤ 2000 * l.length ∧ nr ≤ 2000 * l.length ∧
  Hid (TabF wkL wkOk Du (fun k => (untK l k).map (Lit.int .i64))) ∧ Hid (TabF digL dkOk Dr (revF l))
theorem ownsMap_block {P : Program} {k : TypeId} {R : Value → Option (DataW Unit × List MemPlace)} {w w' : World} {b n : Nat} {D : DataW Unit} (h : w.ownsMap P k R b n D) (e : w'.heap[b]? = w.heap[b]?) : w'.ownsMap P k R b n D := by
 obtain ⟨es, clock, hb, r⟩ := h
 exact ⟨es, clock, e.trans hb, r⟩
theorem ownsMap_ext {P : Program} {k : TypeId} {R : Value → Option (DataW Unit × List MemPlace)} {w w' : World} {b n : Nat} {D : DataW Unit} (h : w.ownsMap P k R b n D) (hx : Ext w w') : w'.ownsMap P k R b n D := ownsMap_block h (hx.below.block _ h.lt)
theorem TabAt.on {w w' : World} {l : List Ep} {v : Value} (h : TabAt w l v) (hx : Ext w w') : TabAt w' l v := by
 rcases h with h | ⟨bu, nu, br, nr, Du, Dr, h1, h2, h3, h4, h5⟩
 ·exact .inl h
 ·exact .inr ⟨bu, nu, br, nr, Du, Dr, h1, h2, ownsMap_ext h3 hx, ownsMap_ext h4 hx, h5⟩
theorem TabAt.none (w : World) : TabAt w [] (.agg #[.map none, .map none, .int .i64 0]) := .inl ⟨rfl, rfl⟩
abbrev ownsU (W : World) (b n : Nat) (D : DataW Unit) : Prop := W.ownsMap Tryz.prog 118 (plainElem Tryz.prog 3) b n D
abbrev ownsR (W : World) (b n : Nat) (D : DataW Unit) : Prop := W.ownsMap Tryz.prog 23 (plainElem Tryz.prog 4) b n D
theorem tab_parts {w : World} {l : List Ep} {cs : Array Value} (h : TabAt w l (.agg cs)) :
  ∃ mu mr, cs = #[.map mu, .map mr, .int .i64 (lastNum l)] ∧
   ((mu = none ∧ l = []) ∨ ∃ b n D, mu = some b ∧ ownsU w b n D ∧ n ≤ 2000 * l.length ∧ TabF wkL wkOk D (fun k => (untK l k).map (Lit.int .i64))) ∧
   ((mr = none ∧ l = []) ∨ ∃ b n D, mr = some b ∧ ownsR w b n D ∧ n ≤ 2000 * l.length ∧ TabF digL dkOk D (revF l)) := by
 rcases h with ⟨rfl, h⟩ | ⟨bu, nu, br, nr, Du, Dr, h, hne, hu, hr, h1, h2, HU, HR⟩
 ·injection h with h
  exact ⟨none, none, h, .inl ⟨rfl, rfl⟩, .inl ⟨rfl, rfl⟩⟩
 ·injection h with h
  exact ⟨some bu, some br, h, .inr ⟨bu, nu, Du, rfl, hu, h1, HU.out⟩, .inr ⟨br, nr, Dr, rfl, hr, h2, HR.out⟩⟩
theorem copyU_any (l : List Ep) (bd : Nat) (mu : Option Nat) (w : World) (hl : l.length ≤ 100000) (hd : ownsU w bd 0 (.map [])) (hu : (mu = none ∧ l = []) ∨ ∃ b n D, mu = some b ∧ ownsU w b n D ∧ n ≤ 2000 * l.length ∧ TabF wkL wkOk D (fun k => (untK l k).map (Lit.int .i64))) (hne : ∀ b, mu = some b → b ≠ bd) :
  Calls Tryz.prog 75 #[.map (some bd), .map mu] w fun e w' => e = .returned (.tuple #[]) ∧ (∃ n D, ownsU w' bd n D ∧ n ≤ 2000 * l.length ∧ TabF wkL wkOk D (fun k => (untK l k).map (Lit.int .i64))) ∧ w.grownBy w' (some bd) := by
 rcases hu with ⟨rfl, rfl⟩ | ⟨b, n, D, rfl, ho, hn, hT⟩
 ·refine (copyW_nil (some bd) w).mono ?_
  rintro e w' ⟨rfl, rfl⟩
  exact ⟨rfl, ⟨0, .map [], hd.alloc _, Nat.zero_le _, TabF.nil⟩, World.grownBy_alloc w _ _⟩
 ·have hs := ho.size_le
  refine (copyW_any bd b 0 n (.map []) D w hd ho (Ne.symm (hne b rfl)) (by unfold maxLen; omega)).mono ?_
  rintro e w' ⟨rfl, h1, _, h3⟩
  exact ⟨rfl, ⟨_, _, h1, by omega, hT.merge (ho.canon key_what)⟩, h3⟩
theorem copyE_any (l : List Ep) (bd : Nat) (mu : Option Nat) (w : World) (hl : l.length ≤ 100000) (hd : ownsR w bd 0 (.map [])) (hu : (mu = none ∧ l = []) ∨ ∃ b n D, mu = some b ∧ ownsR w b n D ∧ n ≤ 2000 * l.length ∧ TabF digL dkOk D (revF l)) (hne : ∀ b, mu = some b → b ≠ bd) :
  Calls Tryz.prog 76 #[.map (some bd), .map mu] w fun e w' => e = .returned (.tuple #[]) ∧ (∃ n D, ownsR w' bd n D ∧ n ≤ 2000 * l.length ∧ TabF digL dkOk D (revF l)) ∧ w.grownBy w' (some bd) := by
 rcases hu with ⟨rfl, rfl⟩ | ⟨b, n, D, rfl, ho, hn, hT⟩
 ·refine (copyD_nil (some bd) w).mono ?_
  rintro e w' ⟨rfl, rfl⟩
  exact ⟨rfl, ⟨0, .map [], hd.alloc _, Nat.zero_le _, TabF.nil.congr (fun k _ => by rw [revF_nil])⟩, World.grownBy_alloc w _ _⟩
 ·have hs := ho.size_le
  refine (copyD_any bd b 0 n (.map []) D w hd ho (Ne.symm (hne b rfl)) (by unfold maxLen; omega)).mono ?_
  rintro e w' ⟨rfl, h1, _, h3⟩
  exact ⟨rfl, ⟨_, _, h1, by omega, hT.merge (ho.canon key_dig)⟩, h3⟩
def tabC (mu mr : Option Nat) (n : Int) : Array Value := #[.map mu, .map mr, .int .i64 n]
theorem tab_ty : RowTy Tryz.prog 52 3 := ⟨by kernel_rfl, by kernel_rfl⟩
theorem tab_ld (w : World) (b o : Nat) : (rowLoad 52 3 (.pointer (some ⟨b, o, none⟩))).run Tryz.prog w = rowLoadR Tryz.prog w 52 3 b o (rowOf w b o 3) := run_rowLoad tab_ty w b o
theorem tab_st (w : World) (b o : Nat) (cells : Array Value) : (rowStore 52 3 (.pointer (some ⟨b, o, none⟩)) (.agg cells)).run Tryz.prog w = rowStoreR Tryz.prog w 52 3 b o cells (roomOf w b o 3 && fitsRow 3 cells) := run_rowStore tab_ty w b o cells
theorem tab_al (w : World) : (rowAlloc 52).run Tryz.prog w = .ok (.value (.pointer (some ⟨w.heap.size, 0, none⟩))) (w.alloc (.cells (tabC none none 0) 52)) := run_rowAlloc (by kernel_rfl) w
theorem tab_xl (ρ : Operand → Value) (dst : Option Tmp) (x : Operand) (t : TypeId) (pos : String) (after : Array Edge) (guard : Option (Nat × Bool)) : execOp ρ { dst, op := .load 52 x, type := t, pos, after, guard } = rowLoad 52 3 (ρ x) := rfl
theorem tab_xs (ρ : Operand → Value) (dst : Option Tmp) (x y : Operand) (t : TypeId) (pos : String) (after : Array Edge) (guard : Option (Nat × Bool)) : execOp ρ { dst, op := .store 52 x y, type := t, pos, after, guard } = rowStore 52 3 (ρ x) (ρ y) := rfl
theorem tab_xa (ρ : Operand → Value) (dst : Option Tmp) (t : TypeId) (pos : String) (after : Array Edge) (guard : Option (Nat × Bool)) : execOp ρ { dst, op := .alloc 52, type := t, pos, after, guard } = rowAlloc 52 := rfl
attribute [go_sem ↓] tab_xl tab_xs tab_xa
attribute [go_sem] tab_ld tab_st tab_al
theorem tab_fits (mu mr : Option Nat) (n : Int) : fitsRow 3 (tabC mu mr n) = true := by kernel_rfl
def tabB3 (x y z : Value) : Sem Next := do pure (.value (← Instr.build 52 #[(0, x), (1, y), (2, z)]))
theorem tabB3_x (ρ : Operand → Value) (dst : Option Tmp) (x y z : Operand) (t : TypeId) (pos : String) (after : Array Edge) (guard : Option (Nat × Bool)) : execOp ρ { dst, op := .build 52 #[(0, x), (1, y), (2, z)], type := t, pos, after, guard } = tabB3 (ρ x) (ρ y) (ρ z) := by kernel_rfl
theorem tabB3_run (mu mr : Option Nat) (n : Int) (W : World) : (tabB3 (.map mu) (.map mr) (.int .i64 n)).run Tryz.prog W = .ok (.value (.agg (tabC mu mr n))) W := by kernel_rfl
def whaC (k : Int) (t : ByteArray) (s : Bool) : Array Value := #[.int .i64 k, .string t, .bool s]
theorem wha_ty : RowTy Tryz.prog 118 3 := ⟨by kernel_rfl, by kernel_rfl⟩
theorem wha_ld (w : World) (b o : Nat) : (rowLoad 118 3 (.pointer (some ⟨b, o, none⟩))).run Tryz.prog w = rowLoadR Tryz.prog w 118 3 b o (rowOf w b o 3) := run_rowLoad wha_ty w b o
theorem wha_st (w : World) (b o : Nat) (cells : Array Value) : (rowStore 118 3 (.pointer (some ⟨b, o, none⟩)) (.agg cells)).run Tryz.prog w = rowStoreR Tryz.prog w 118 3 b o cells (roomOf w b o 3 && fitsRow 3 cells) := run_rowStore wha_ty w b o cells
theorem wha_al (w : World) : (rowAlloc 118).run Tryz.prog w = .ok (.value (.pointer (some ⟨w.heap.size, 0, none⟩))) (w.alloc (.cells (whaC 0 ByteArray.empty false) 118)) := run_rowAlloc (by kernel_rfl) w
theorem wha_xl (ρ : Operand → Value) (dst : Option Tmp) (x : Operand) (t : TypeId) (pos : String) (after : Array Edge) (guard : Option (Nat × Bool)) : execOp ρ { dst, op := .load 118 x, type := t, pos, after, guard } = rowLoad 118 3 (ρ x) := rfl
theorem wha_xs (ρ : Operand → Value) (dst : Option Tmp) (x y : Operand) (t : TypeId) (pos : String) (after : Array Edge) (guard : Option (Nat × Bool)) : execOp ρ { dst, op := .store 118 x y, type := t, pos, after, guard } = rowStore 118 3 (ρ x) (ρ y) := rfl
theorem wha_xa (ρ : Operand → Value) (dst : Option Tmp) (t : TypeId) (pos : String) (after : Array Edge) (guard : Option (Nat × Bool)) : execOp ρ { dst, op := .alloc 118, type := t, pos, after, guard } = rowAlloc 118 := rfl
attribute [go_sem ↓] wha_xl wha_xs wha_xa
attribute [go_sem] wha_ld wha_st wha_al
theorem wha_fits (k : Int) (t : ByteArray) (s : Bool) : fitsRow 3 (whaC k t s) = true := by kernel_rfl
def wzB3 (x y z : Value) : Sem Next := do pure (.value (← Instr.build 118 #[(0, x), (1, y), (2, z)]))
theorem wzB3_x (ρ : Operand → Value) (dst : Option Tmp) (x y z : Operand) (t : TypeId) (pos : String) (after : Array Edge) (guard : Option (Nat × Bool)) : execOp ρ { dst, op := .build 118 #[(0, x), (1, y), (2, z)], type := t, pos, after, guard } = wzB3 (ρ x) (ρ y) (ρ z) := by kernel_rfl
theorem wzB3_run (k : Int) (t : ByteArray) (s : Bool) (W : World) : (wzB3 (.int .i64 k) (.string t) (.bool s)).run Tryz.prog W = .ok (.value (.agg (whaC k t s))) W := by kernel_rfl
def KeyPu (e : Ep) : Prop := ∀ p ∈ e.pu, wkOk (puKey p)
theorem ownsMap_butS {P : Program} {k : TypeId} {R : Value → Option (DataW Unit × List MemPlace)} {w w' : World} {b n : Nat} {D : DataW Unit} {S : Nat → Prop} (h : w.ownsMap P k R b n D) (hx : ButS S w w') (hn : ¬ S b) : w'.ownsMap P k R b n D := ownsMap_block h (hx.block _ h.lt hn)
theorem tab_size (mu mr : Option Nat) (n : Int) : (tabC mu mr n).size = 3 := rfl
theorem tab_g0 (mu mr : Option Nat) (n : Int) : (tabC mu mr n)[0]? = some (.map mu) := rfl
theorem tab_g1 (mu mr : Option Nat) (n : Int) : (tabC mu mr n)[1]? = some (.map mr) := rfl
theorem wha_size (k : Int) (t : ByteArray) (s : Bool) : (whaC k t s).size = 3 := rfl
theorem owns_made {P : Program} {k : TypeId} {R : Value → Option (DataW Unit × List MemPlace)} (W : World) (b : Nat) (hb : b = W.heap.size) : (W.alloc (.map #[] 0)).ownsMap P k R b 0 (.map []) := by subst hb; exact World.ownsMap_made W P k R
theorem wf_i64 {n : Int} (h : i64 n) : (Lit.int .i64 n).wf = true := by
 unfold i64 at h
 simp [Lit.wf, IntKind.min, IntKind.max, IntKind.signed, IntKind.bits]
 omega
theorem i64_max {a b : Int} (h : (Lit.int .i64 a).wf = true) (k : i64 b) : (Lit.int .i64 (max a b)).wf = true := by
 refine wf_i64 ?_
 have h1 : i64 a := by simp [Lit.wf, IntKind.min, IntKind.max, IntKind.signed, IntKind.bits] at h; unfold i64; constructor <;> omega
 unfold i64 at *
 omega
theorem dgC_dig {a : List Int} (h : a.length = 16) : Value.agg (dgC a) = digC a := by rw [dgC_cells h]; rfl
theorem lastNum_snoc (l : List Ep) (e : Ep) : lastNum (l ++ [e]) = e.num := by unfold lastNum; rw [List.getLast?_concat]
theorem zeroIntX (w : World) : (zeroValue 3).run Tryz.prog w = .ok (.int .i64 0) w := by kernel_rfl
section
attribute [local go_sem ↓] tabB3_x wzB3_x
attribute [local go_sem] tabB3_run wzB3_run tab_fits tab_size wha_fits wha_size
theorem add_any (l : List Ep) (e : Ep) (cs : Array Value) (w : World) (hT : TabAt w l (.agg cs)) (hl : l.length ≤ 100) (ha : EpAt w e) (hpl : e.pu.length ≤ 1000) (hrl : e.rv.length ≤ 1000) (hhi : i64 e.hi) (hk : KeyPu e) (hrv : ∀ d ∈ e.rv, dkOk d) :
  Calls Tryz.prog 29 #[.agg cs, .agg (epC e)] w fun r w' => (∃ cs', r = .returned (.agg cs') ∧ TabAt w' (l ++ [e]) (.agg cs')) ∧ Ext w w' := by
 obtain ⟨mu, mr, hcs, hu, hr⟩ := tab_parts hT
 have hcs2 : cs = tabC mu mr (lastNum l) := hcs
 subst hcs2
 have HUo := lh hu
 have HRo := lh hr
 have HA := lh ha.pu
 have HAr := lh ha.rv
 have HK := lh hk
 have HRv := lh hrv
 have hfe := ep_fits e
 have hft := tab_fits mu mr (lastNum l)
 have hmm := @run_makeMap Tryz.prog
 clear hT hcs hu hr ha hk hrv
 go_enter Tryz.func29, Tryz.ntmps29
 go_upto_region 2 with (fail)
 refine wp_world (fun W => Ext w W ∧ RowAt W w.heap.size (tabC mu mr (lastNum l)) ∧ RowAt W (w.heap.size + 1) (epC e) ∧ RowAt W (w.heap.size + 1 + 1) (tabC none none 0) ∧ ownsU W (w.heap.size + 1 + 1 + 1) 0 (.map []) ∧ ownsR W (w.heap.size + 1 + 1 + 1 + 1) 0 (.map []) ∧ RowAt W (w.heap.size + 1 + 1 + 1 + 1 + 1) (tabC (some (w.heap.size + 1 + 1 + 1)) (some (w.heap.size + 1 + 1 + 1 + 1)) e.num)) ⟨(by (with_reducible repeat first|exact eR _|apply eD|apply eN|apply eA|apply eO|apply eS|apply eC);all_goals first|omega|simp <;> omega), ?_, ?_, ?_, ?_, ?_, ?_⟩ ?_
 ·exact RowAt.others ((((((RowAt.new _ _ _).alloc _).alloc _).alloc _).alloc _).alloc _) (by omega) _ _
 ·exact RowAt.others (((((RowAt.newAt (by simp)).alloc _).alloc _).alloc _).alloc _) (by omega) _ _
 ·exact RowAt.others ((((RowAt.newAt (by simp)).alloc _).alloc _).alloc _) (by omega) _ _
 ·exact ownsMap_block (((owns_made _ _ (by simp)).alloc _).alloc _) (heap_sets_other _ _ _ _ _ (by omega))
 ·exact ownsMap_block ((owns_made _ _ (by simp)).alloc _) (heap_sets_other _ _ _ _ _ (by omega))
 ·exact RowAt.store (RowAt.newAt (by simp)) rfl
 obtain ⟨B, hB⟩ : ∃ B, w.heap.size = B := ⟨_, rfl⟩
 rw [hB]
 rintro W1 ⟨x1, u0, u1, u2, o3, o4, u5⟩
 have HX1 := lh x1
 have HU1 := lh u1
 have HU2 := lh u2
 have HU5 := lh u5
 have HO4 := lh o4
 have HC2 := lh (copyU_any l (B + 1 + 1 + 1) mu W1 (by omega) o3 (by
  rcases HUo.out with h | ⟨b, n, D, h1, h2, h3⟩
  ·exact .inl h
  ·exact .inr ⟨b, n, D, h1, ownsMap_ext h2 x1, h3⟩) (fun b hb => by
  rcases HUo.out with ⟨h, _⟩ | ⟨b', n, D, h1, h2, _⟩
  ·rw [h] at hb; cases hb
  ·rw [h1] at hb; injection hb with hb; subst hb; have := h2.lt; omega))
 have q00 : W1.cell? ⟨B, 0, none⟩ = some (.map mu) := (u0.cell 0).trans (tab_g0 _ _ _)
 have q50 : W1.cell? ⟨B + 1 + 1 + 1 + 1 + 1, 0, none⟩ = some (.map (some (B + 1 + 1 + 1))) := (u5.cell 0).trans (tab_g0 _ _ _)
 have HU0 := lh u0
 clear x1 u0 u1 u2 o3 o4 u5 HUo
 go_wp2_with (go_at_call 75; refine (show Hid _ from ?_).out)
 refine lh ?_
 refine HC2.out.mono ?_
 rintro r w2 ⟨rfl, ⟨n2, D2, ho2, hn2, hT2⟩, hg2⟩
 have hb2 : ButS (fun k => k = B + 1 + 1 + 1) W1 w2 := ButS.of_grownBy hg2 (fun k e => by injection e with e; exact e.symm)
 have HT2 := lh hT2
 have HO2 := lh ho2
 have HB2 := lh hb2
 have HC3 := lh (copyE_any l (B + 1 + 1 + 1 + 1) mr w2 (by omega) (ownsMap_butS HO4.out hb2 (by omega)) (by
  rcases HRo.out with h | ⟨b, n, D, h1, h2, h3⟩
  ·exact .inl h
  ·exact .inr ⟨b, n, D, h1, ownsMap_butS (ownsMap_ext h2 HX1.out) hb2 (by have := h2.lt; omega), h3⟩) (fun b hb => by
  rcases HRo.out with ⟨h, _⟩ | ⟨b', n, D, h1, h2, _⟩
  ·rw [h] at hb; cases hb
  ·rw [h1] at hb; injection hb with hb; subst hb; have := h2.lt; omega))
 have q01 : w2.cell? ⟨B, 1, none⟩ = some (.map mr) := ((hb2.row HU0.out (by omega)).cell 1).trans (tab_g1 _ _ _)
 have q51 : w2.cell? ⟨B + 1 + 1 + 1 + 1 + 1, 1, none⟩ = some (.map (some (B + 1 + 1 + 1 + 1))) := ((hb2.row HU5.out (by omega)).cell 1).trans (tab_g1 _ _ _)
 clear q00 q50 ho2 hT2 hg2 hb2 HC2 HRo
 go_wp2_with (go_at_call 76; refine (show Hid _ from ?_).out)
 refine lh ?_
 refine HC3.out.mono ?_
 rintro r w3 ⟨rfl, ⟨n3, D3, ho3, hn3, hT3⟩, hg3⟩
 have hb3 : ButS (fun k => k = B + 1 + 1 + 1 + 1) w2 w3 := ButS.of_grownBy hg3 (fun k e => by injection e with e; exact e.symm)
 have hb13 : ButS (fun k => k = B + 1 + 1 + 1 ∨ k = B + 1 + 1 + 1 + 1) W1 w3 := (HB2.out.mono (fun k _ e => .inl e)).trans (hb3.mono (fun k _ e => .inr e))
 have HT3 := lh hT3
 have HO3 := lh ho3
 have HO23 : Hid (ownsU w3 (B + 1 + 1 + 1) n2 D2) := lh (ownsMap_butS HO2.out hb3 (by omega))
 have HR1 := lh (hb13.row HU1.out (by omega))
 have HR2 := lh (hb13.row HU2.out (by omega))
 have HR5 := lh (hb13.row HU5.out (by omega))
 have HE3 : Hid (Ext w w3) := lh ((HX1.out.below |> fun _ => ((ButS.of_ext HX1.out).trans hb13).toExt (fun k hk e => by omega)))
 have q19 : w3.cell? ⟨B + 1, 19, none⟩ = some (.slice e.PA e.pu.length e.pc) := (HR1.out.cell 19).trans (ep_g19 e)
 have hs3 := HE3.out.size
 clear q01 q51 ho3 hT3 hg3 hb3 hb13 HC3 HO2 HB2 HX1 HU0 HU1 HU2 HU5 HO4
 have hl5 := HR5.out.lt
 go_wp2
 go_loopw [29] (fun i wr => ∃ (k n : Nat) (D : DataW Unit), i = .int .i64 k ∧ k ≤ e.pu.length ∧ n ≤ 2000 * l.length + k ∧ Hid (ButS (fun k => k = B + 1 + 1 + 1) w3 wr) ∧ Hid (ownsU wr (B + 1 + 1 + 1) n D) ∧ Hid (TabF wkL wkOk D (fun x => (untJ (untK l) e.hi (e.pu.take k) x).map (Lit.int .i64)))) (fun i _ => e.pu.length - (intOf i).toNat)
 case atStart => exact ⟨0, n2, D2, rfl, Nat.zero_le _, by omega, lh (ButS.refl _ _), HO23, lh HT2.out⟩
 case round =>
  obtain ⟨k, n, D, rfl, hk, hn, HB, HO, HT⟩ := hrel
  have hsz := HB.out.size
  have HEr : Hid (Ext w wr) := lh (((ButS.of_ext HE3.out).trans HB.out).toExt (fun k hk e => by omega))
  by_cases hlt : k < e.pu.length
  ·obtain ⟨b, off, hA, hb, hrow⟩ := reads_row puE (HA.out.ext HEr.out (Nat.le_refl _)) k hlt
   have kr : rowOf wr b (off + k * 3) 3 = some (puC e.pu[k]) := hrow
   have hb2 : b < wr.heap.size := by omega
   have hfp := pu_fits e.pu[k]
   have hkp := HK.out _ (List.getElem_mem hlt)
   have HStep := lh (fun x => untJ_step (untK l) e.hi (e.pu.take k) e.pu[k] x)
   rw [← List.take_succ_eq_append_getElem hlt] at HStep
   clear hrow
   generalize e.pu[k] = p at *
   go_upto_region 7 with (fail)
   refine wp_world (fun W => Ext wr W ∧ RowAt W wr.heap.size (puC p)) ⟨(by (with_reducible repeat first|exact eR _|apply eD|apply eN|apply eA|apply eO|apply eS|apply eC);all_goals first|omega|simp <;> omega), RowAt.store (RowAt.new _ _ _) rfl⟩ ?_
   obtain ⟨g, hg⟩ : ∃ g, wr.heap.size = g := ⟨_, rfl⟩
   rw [hg]
   rintro W5 ⟨x5, u7⟩
   have HX5 := lh x5
   have hs5 := x5.size
   have hl7 := u7.lt
   have p0 : W5.cell? ⟨g, 0, none⟩ = some (.int .i64 p.kind) := (u7.cell 0).trans (pu_g0 p)
   have p1 : W5.cell? ⟨g, 1, none⟩ = some (.string p.what) := (u7.cell 1).trans (pu_g1 p)
   have p2 : W5.cell? ⟨g, 2, none⟩ = some (.bool p.soft) := (u7.cell 2).trans (pu_g2 p)
   clear x5 u7 kr hA hg
   go_upto_region 8 with (fail)
   refine wp_world (fun W => Ext wr W ∧ RowAt W W5.heap.size (whaC p.kind p.what p.soft)) ⟨(by (with_reducible repeat first|exact HX5.out|exact eR _|apply eD|apply eN|apply eA|apply eO|apply eS|apply eC);all_goals first|omega|simp <;> omega), RowAt.store (RowAt.new _ _ _) rfl⟩ ?_
   obtain ⟨g8, hg8⟩ : ∃ g8, W5.heap.size = g8 := ⟨_, rfl⟩
   rw [hg8]
   rintro W6 ⟨x6, u8⟩
   have HX6 := lh x6
   have hs6 := x6.size
   have hl8 := u8.lt
   have k8 : rowOf W6 g8 0 3 = some (whaC p.kind p.what p.soft) := u8.all rfl (by omega)
   have HO6 : Hid (ownsU W6 (B + 1 + 1 + 1) n D) := lh (ownsMap_ext HO.out x6)
   have q5 : W6.cell? ⟨B + 1 + 1 + 1 + 1 + 1, 0, none⟩ = some (.map (some (B + 1 + 1 + 1))) := (((HB.out.row HR5.out (by omega)).ext x6).cell 0).trans (tab_g0 _ _ _)
   have q18 : W6.cell? ⟨B + 1, 18, none⟩ = some (.int .i64 e.hi) := (((HB.out.row HR1.out (by omega)).ext x6).cell 18).trans (ep_g18 e)
   obtain ⟨c0, _, hat0, hwc⟩ := HO6.out.lookup_int key_what Tryz.underlying49 Tryz.underlying3 (zeroIntX W6) (what_key p.kind p.what p.soft hkp.1 hkp.2)
   have HL6 : Hid (∀ W, Ext W6 W → (Instr.lookup 49 (.map (some (B + 1 + 1 + 1))) (.agg (whaC p.kind p.what p.soft)) false).run Tryz.prog W = .ok (.int .i64 c0) W) := lh (fun W hx => by
    obtain ⟨c, h1, h2, _⟩ := (ownsMap_ext HO6.out hx).lookup_int key_what Tryz.underlying49 Tryz.underlying3 (zeroIntX W) (what_key p.kind p.what p.soft hkp.1 hkp.2)
    rw [hat0] at h2
    have : c0 = c := (Lit.int.inj (DataW.lit.inj h2)).2
    rw [this]
    exact h1)
   have HC0 : Hid (c0 = (untJ (untK l) e.hi (e.pu.take k) (puKey p)).getD 0) := lh (untJ_at HT.out hkp hat0)
   have hwm : (Lit.int .i64 (max c0 e.hi)).wf = true := i64_max hwc hhi
   clear x6 u8 p0 p1 p2 hat0 hwc hg8 HX5
   obtain ⟨m, hm⟩ : ∃ m, max c0 e.hi = m := ⟨_, rfl⟩
   have HM : Hid (max c0 e.hi = m) := lh hm
   rw [hm] at hwm
   clear hm
   have HXI : Hid (Ext W6 W6) := lh (eR _)
   refine wp_region_soft 11 (softsL [.eq (.pointer (some ⟨B + 1 + 1 + 1 + 1 + 1, 0, none⟩)), .eq (.map (some (B + 1 + 1 + 1))), .eq (.agg (whaC p.kind p.what p.soft)), .eq (.pointer (some ⟨B + 1 + 1 + 1 + 1 + 1, 0, none⟩)), .eq (.map (some (B + 1 + 1 + 1))), .eq (.agg (whaC p.kind p.what p.soft)), .eq (.int .i64 c0), .eq (.pointer (some ⟨B + 1, 17, none⟩)), .eq (.pointer (some ⟨B + 1, 18, none⟩)), .eq (.int .i64 e.hi), .eq (.int .i64 m)]) (by kernel_rfl) (by kernel_rfl) (lt_cons ?_ (lt_cons ?_ (lt_cons ?_ (lt_cons ?_ (lt_cons ?_ (lt_cons ?_ (lt_cons ?_ (lt_cons ?_ (lt_cons ?_ (lt_cons ?_ (lt_cons ?_ (lt_none)))))))))))) ?_
   any_goals (refine sop rfl fun xs W HW hsW HD Q' HQ => ?_; simp only [fillAt, dstOf, lc0, lcs, obs, Act.put, lsa, lsz, lss, nz, Nat.reduceAdd] at HQ ⊢)
   ·
    go_wp2
    exact HQ.out _ _ (eR _) rfl
   ·
    have hd0 : xs 0 = .pointer (some ⟨B + 1 + 1 + 1 + 1 + 1, 0, none⟩) := (HD.out 0 (dk (by kernel_rfl)))
    generalize xs 0 = x0 at hd0 HQ ⊢; subst hd0
    have hc : W.cell? ⟨B + 1 + 1 + 1 + 1 + 1, 0, none⟩ = some (.map (some (B + 1 + 1 + 1))) := (HW.out.cell (p := ⟨B + 1 + 1 + 1 + 1 + 1, 0, none⟩) (by show B + 1 + 1 + 1 + 1 + 1 < _; omega)).trans q5
    go_wp2
    exact HQ.out _ _ (eR _) rfl
   ·
    have hc := (row_extW HW.out (b := g8) (by omega) 0 3).trans k8
    go_wp2
    exact HQ.out _ _ (eR _) rfl
   ·
    go_wp2
    exact HQ.out _ _ (eR _) rfl
   ·
    have hd3 : xs 3 = .pointer (some ⟨B + 1 + 1 + 1 + 1 + 1, 0, none⟩) := (HD.out 3 (dk (by kernel_rfl)))
    generalize xs 3 = x3 at hd3 HQ ⊢; subst hd3
    have hc : W.cell? ⟨B + 1 + 1 + 1 + 1 + 1, 0, none⟩ = some (.map (some (B + 1 + 1 + 1))) := (HW.out.cell (p := ⟨B + 1 + 1 + 1 + 1 + 1, 0, none⟩) (by show B + 1 + 1 + 1 + 1 + 1 < _; omega)).trans q5
    go_wp2
    exact HQ.out _ _ (eR _) rfl
   ·
    have hc := (row_extW HW.out (b := g8) (by omega) 0 3).trans k8
    go_wp2
    exact HQ.out _ _ (eR _) rfl
   ·
    have hd4 : xs 4 = .map (some (B + 1 + 1 + 1)) := (HD.out 4 (dk (by kernel_rfl)))
    generalize xs 4 = x4 at hd4 HQ ⊢; subst hd4
    have hd5 : xs 5 = .agg (whaC p.kind p.what p.soft) := (HD.out 5 (dk (by kernel_rfl)))
    generalize xs 5 = x5 at hd5 HQ ⊢; subst hd5
    have hlk := HL6.out W HW.out
    go_wp2
    exact HQ.out _ _ (eR _) rfl
   ·
    go_wp2
    exact HQ.out _ _ (eR _) rfl
   ·
    have hd7 : xs 7 = .pointer (some ⟨B + 1, 17, none⟩) := (HD.out 7 (dk (by kernel_rfl)))
    generalize xs 7 = x7 at hd7 HQ ⊢; subst hd7
    go_wp2
    exact HQ.out _ _ (eR _) rfl
   ·
    have hd8 : xs 8 = .pointer (some ⟨B + 1, 18, none⟩) := (HD.out 8 (dk (by kernel_rfl)))
    generalize xs 8 = x8 at hd8 HQ ⊢; subst hd8
    have hc : W.cell? ⟨B + 1, 18, none⟩ = some (.int .i64 e.hi) := (HW.out.cell (p := ⟨B + 1, 18, none⟩) (by show B + 1 < _; omega)).trans q18
    go_wp2
    exact HQ.out _ _ (eR _) rfl
   ·
    have hd6 : xs 6 = .int .i64 c0 := (HD.out 6 (dk (by kernel_rfl)))
    generalize xs 6 = x6 at hd6 HQ ⊢; subst hd6
    have hd9 : xs 9 = .int .i64 e.hi := (HD.out 9 (dk (by kernel_rfl)))
    generalize xs 9 = x9 at hd9 HQ ⊢; subst hd9
    go_wp2
    exact HQ.out _ _ (eR _) (by show Value.int .i64 _ = Value.int .i64 m; rw [← HM.out])
   intro xs W7 hW hS
   have h1 : xs 1 = .map (some (B + 1 + 1 + 1)) := hS 1 (by omega)
   have h2 : xs 2 = .agg (whaC p.kind p.what p.soft) := hS 2 (by omega)
   have h10 : xs 10 = .int .i64 m := hS 10 (by omega)
   simp only [fillAt, dstOf, lc0, lcs, obs, Act.put, lsa, lsz, lss, nz, Nat.reduceAdd, List.drop_succ_cons, List.drop_zero, List.drop_nil]
   generalize xs 1 = x1 at *; subst h1
   generalize xs 2 = x2 at *; subst h2
   generalize xs 10 = x10 at *; subst h10
   have HW7 := lh (HXI.out.trans hW)
   have HWW7 := lh hW
   clear hS hW q5 q18 k8
   have HO7 : Hid (ownsU W7 (B + 1 + 1 + 1) n D) := lh (ownsMap_ext HO6.out HWW7.out)
   go_wp2_with (first
    | (at_mapUpdate; refine wpList_mapUpdate_own _ rfl _ _ _ 49 rfl 118 3 key_what Tryz.underlying49 (plainElem Tryz.prog 3) (B + 1 + 1 + 1) n D rfl HO7.out (by unfold maxLen; omega) (.agg (whaC p.kind p.what p.soft)) (.int .i64 m) (wkL (puKey p)) rfl rfl (what_key p.kind p.what p.soft hkp.1 hkp.2) (.lit (.int .i64 m)) [] (plainElem_int Tryz.underlying3 hwm) ?_; intro w9 ho9 hg9; go_frame)
    | go_in)
   go_roundw
   case rel =>
    refine ⟨k + 1, n + 1, _, by go_num, by omega, by omega, lh ?_, lh ho9, lh ?_⟩
    ·exact (HB.out.trans (ButS.of_ext (HX6.out.trans HWW7.out))).trans (ButS.of_grownBy hg9 (fun j e => by injection e with e; exact e.symm))
    ·refine (HT.out.put wk_inj wk_key hkp (.int .i64 m)).congr (fun x _ => ?_)
     rw [← HM.out, HC0.out]
     exact HStep.out x
   case measure => simp [intOf]; omega
  ·have HTe : Hid (TabF wkL wkOk D (fun x => (untK (l ++ [e]) x).map (Lit.int .i64))) := lh (by
    have h := HT.out
    rw [List.take_of_length_le (by omega), untJ_all] at h
    exact h)
   have q20 : wr.cell? ⟨B + 1, 20, none⟩ = some (.slice e.RA e.rv.length e.rc) := ((HB.out.row HR1.out (by omega)).cell 20).trans (ep_g20 e)
   have HO3r : Hid (ownsR wr (B + 1 + 1 + 1 + 1) n3 D3) := lh (ownsMap_butS HO3.out HB.out (by omega))
   have HRr2 := lh (HB.out.row HR2.out (by omega))
   have HRr5 := lh (HB.out.row HR5.out (by omega))
   have hl5r := HRr5.out.lt
   clear HT HK q19 HO3 HR2 HR5 HR1
   go_wp2
   generalize hwA : wr = wA at *
   clear hwA
   go_loopw [55] (fun i ws => ∃ (k m : Nat) (F : DataW Unit), i = .int .i64 k ∧ k ≤ e.rv.length ∧ m ≤ 2000 * l.length + k ∧ Hid (ButS (fun k => k = B + 1 + 1 + 1 + 1) wA ws) ∧ Hid (ownsR ws (B + 1 + 1 + 1 + 1) m F) ∧ Hid (TabF digL dkOk F (revJ (revF l) (e.rv.take k)))) (fun i _ => e.rv.length - (intOf i).toNat)
   case atStart => exact ⟨0, n3, D3, rfl, Nat.zero_le _, by omega, lh (ButS.refl _ _), HO3r, lh HT3.out⟩
   case round =>
    obtain ⟨k', m, F, rfl, hk', hm, HBs, HOs, HTs⟩ := hrel
    have hsz2 := HBs.out.size
    have HEs : Hid (Ext w wr) := lh (((ButS.of_ext HEr.out).trans HBs.out).toExt (fun k hk e => by omega))
    by_cases hlt : k' < e.rv.length
    ·obtain ⟨b, off, hA, hb, hrow⟩ := reads_row dgE (HAr.out.ext HEs.out (Nat.le_refl _)) k' hlt
     have kr : rowOf wr b (off + k' * 16) 16 = some (dgC e.rv[k']) := hrow.trans (by simp [dgL])
     have hb2 : b < wr.heap.size := by omega
     have hdk := HRv.out _ (List.getElem_mem hlt)
     have HStep := lh (fun x => revJ_step (revF l) (e.rv.take k') e.rv[k'] x)
     rw [← List.take_succ_eq_append_getElem hlt] at HStep
     clear hrow
     generalize e.rv[k'] = d at *
     have hfd : fitsRow 16 (dgC d) = true := by simp [fitsRow, dgC, Value.oneCell']
     have hkey : keyOf Tryz.prog 23 (.agg (dgC d)) = some (digL d) := by rw [dgC_dig hdk.1]; exact dig_key d hdk.1 hdk.2
     go_upto_region 13 with (fail)
     refine wp_world (fun W => Ext wr W ∧ RowAt W wr.heap.size (dgC d)) ⟨(by (with_reducible repeat first|exact eR _|apply eD|apply eN|apply eA|apply eO|apply eS|apply eC);all_goals first|omega|simp <;> omega), RowAt.store (RowAt.new _ _ _) rfl⟩ ?_
     obtain ⟨g, hg⟩ : ∃ g, wr.heap.size = g := ⟨_, rfl⟩
     rw [hg]
     rintro W5 ⟨x5, u7⟩
     have HX5 := lh x5
     have hs5 := x5.size
     have k10 : rowOf W5 g 0 16 = some (dgC d) := u7.all rfl (by omega)
     have HO5 : Hid (ownsR W5 (B + 1 + 1 + 1 + 1) m F) := lh (ownsMap_ext HOs.out x5)
     have q51 : W5.cell? ⟨B + 1 + 1 + 1 + 1 + 1, 1, none⟩ = some (.map (some (B + 1 + 1 + 1 + 1))) := (((HBs.out.row HRr5.out (by omega)).ext x5).cell 1).trans (tab_g1 _ _ _)
     clear x5 u7 kr hA hg
     go_wp2_with (first
      | (at_mapUpdate; refine wpList_mapUpdate_own _ rfl _ _ _ 50 rfl 23 4 key_dig Tryz.underlying50 (plainElem Tryz.prog 4) (B + 1 + 1 + 1 + 1) m F rfl HO5.out (by unfold maxLen; omega) (.agg (dgC d)) (.bool true) (digL d) rfl rfl hkey (.lit (.bool true)) [] (plainElem_bool Tryz.underlying4 true) ?_; intro w9 ho9 hg9; go_frame)
      | go_in)
     go_roundw
     case rel =>
      refine ⟨k' + 1, m + 1, _, by go_num, by omega, by omega, lh ?_, lh ho9, lh ?_⟩
      ·exact (HBs.out.trans (ButS.of_ext HX5.out)).trans (ButS.of_grownBy hg9 (fun j e => by injection e with e; exact e.symm))
      ·exact (HTs.out.put dk_inj dk_key hdk (.bool true)).congr (fun x _ => HStep.out x)
     case measure => simp [intOf]; omega
    ·have HTf : Hid (TabF digL dkOk F (revF (l ++ [e]))) := lh (by
      have h := HTs.out
      rw [List.take_of_length_le (by omega), revJ_all] at h
      exact h)
     have HRs2 := lh (HBs.out.row HRr2.out (by omega))
     have k5 : rowOf wr (B + 1 + 1 + 1 + 1 + 1) 0 3 = some (tabC (some (B + 1 + 1 + 1)) (some (B + 1 + 1 + 1 + 1)) e.num) := (HBs.out.row HRr5.out (by omega)).all rfl (by omega)
     have m2 : roomOf wr (B + 1 + 1) 0 3 = true := by rw [HRs2.out.room]; rfl
     have HOu : Hid (ownsU wr (B + 1 + 1 + 1) n D) := lh (ownsMap_butS HO.out HBs.out (by omega))
     clear q20 HBs HTs
     go_wp2
     refine post_row tab_ty Tryz.results29 rfl rfl (RowAt.stored (n := 3) HRs2.out rfl rfl (by omega)) ⟨⟨_, rfl, .inr ⟨B + 1 + 1 + 1, n, B + 1 + 1 + 1 + 1, m, D, F, by rw [lastNum_snoc]; rfl, by omega, ownsMap_block HOu.out (heap_sets_other _ _ _ _ _ (by omega)), ownsMap_block HOs.out (heap_sets_other _ _ _ _ _ (by omega)), by rw [List.length_append, List.length_singleton]; omega, by rw [List.length_append, List.length_singleton]; omega, HTe, HTf⟩⟩, (by (with_reducible repeat first|exact HEs.out|exact eR _|apply eD|apply eN|apply eA|apply eO|apply eS|apply eC);all_goals first|omega|simp <;> omega)⟩
end
end Go.Proofs.YtpojnhikgjcgmaaGreatDoor