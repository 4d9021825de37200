
import Derived.WalkKit
import Derived.WalkSpells
import Derived.WalkLawsBesides
import Derived.Deep.QuietTactic
import Derived.BigQuiet
import Derived.Shelf.SlGeneric
import Derived.Shelf.SlIter.Nil
import Derived.Shelf.SortM.Plain
import Derived.Shelf.SortM.SortNone
import Derived.Ground.GgzProg
import Derived.Ground.SlgmProg
import Derived.RangeFuncNested
import Derived.RangeFuncBound
import Derived.RangeFuncCalls
import Derived.RangeFuncLeaves
import Derived.Shelf.Abstract
import Derived.Shelf.RegionOpen
import Derived.OwnWalkIn
import Derived.TacticsInMore
import Derived.LoopNIn
import Derived.LoopIn
import Derived.Maps.OwnIn
import Derived.StringKeys
import Derived.Test.YtpfhmcdcmepfdaaGreatDoorRCi
import Derived.Test.YtpfhmcdcmepfdaaGreatDoorRGd
set_option maxRecDepth 100000
set_option maxHeartbeats 64000000
set_option linter.unusedVariables false
set_option linter.unusedSimpArgs false
namespace Go.Proofs
open Go.Shelf
def Tryz.keysM_ren : Go.Shelf.Ren := ⟨fun | 7 => 203 | 10 => 229 | n => n, fun | 23 => 277 | 26 => 9 | 3 => 9 | 28 => 243 | 0 => 0 | 27 => 242 | 33 => 167 | 4 => 4 | n => n, fun | n => n⟩
theorem Tryz.keysM : Go.Proofs.SlLaysZ.n7 Tryz.prog Tryz.keysM_ren := {
 mixed := by kernel_rfl
 f7 := ⟨Tryz.f203.name, by decide, Tryz.func203.trans (congrArg some (by kernel_rfl))⟩
 f10 := ⟨Tryz.f229.name, by decide, Tryz.func229.trans (congrArg some (by kernel_rfl))⟩
 t0 := Tryz.underlying0
 a0 := Tryz.isAgg0
 z0 := Tryz.sizeOf0
 v0 := Tryz.zeroValue0
 t4 := Tryz.underlying4
 a4 := Tryz.isAgg4
 z4 := Tryz.sizeOf4
 v4 := Tryz.zeroValue4
 t23 := Tryz.underlying277
 a23 := Tryz.isAgg277
 z23 := Tryz.sizeOf277
 v23 := Tryz.zeroValue277
 t26 := Tryz.underlying9
 a26 := Tryz.isAgg9
 z26 := Tryz.sizeOf9
 v26 := Tryz.zeroValue9
 t27 := Tryz.underlying242
 a27 := Tryz.isAgg242
 z27 := Tryz.sizeOf242
 v27 := Tryz.zeroValue242
 t28 := Tryz.underlying243
 a28 := Tryz.isAgg243
 z28 := Tryz.sizeOf243
 v28 := Tryz.zeroValue243
 t33 := Tryz.underlying167
 a33 := Tryz.isAgg167
 z33 := Tryz.sizeOf167
 v33 := Tryz.zeroValue167 }
def Tryz.sortedM_ren : Go.Shelf.Ren := ⟨fun | 6 => 199 | 8 => 223 | 9 => 224 | 11 => 240 | 13 => 242 | 12 => 241 | 23 => 258 | 24 => 259 | 14 => 249 | 15 => 250 | 16 => 251 | 17 => 252 | 18 => 253 | 19 => 254 | 20 => 255 | 21 => 256 | 22 => 257 | 25 => 260 | 26 => 261 | 27 => 262 | 28 => 263 | 29 => 264 | 30 => 265 | 31 => 266 | n => n, fun | 26 => 9 | 28 => 243 | 24 => 34 | 0 => 0 | 3 => 3 | 37 => 260 | 48 => 195 | 50 => 198 | 4 => 4 | 40 => 315 | 39 => 314 | 45 => 233 | 5 => 5 | 9 => 9 | 51 => 326 | 55 => 330 | 57 => 332 | 58 => 333 | 33 => 167 | n => n, fun | n => n⟩
theorem Tryz.sortedM : Go.Proofs.SlLaysZ.n6 Tryz.prog Tryz.sortedM_ren := {
 mixed := by kernel_rfl
 f6 := ⟨Tryz.f199.name, by decide, Tryz.func199.trans (congrArg some (by kernel_rfl))⟩
 f8 := ⟨Tryz.f223.name, by decide, Tryz.func223.trans (congrArg some (by kernel_rfl))⟩
 f11 := ⟨Tryz.f240.name, by decide, Tryz.func240.trans (congrArg some (by kernel_rfl))⟩
 t0 := Tryz.underlying0
 a0 := Tryz.isAgg0
 z0 := Tryz.sizeOf0
 v0 := Tryz.zeroValue0
 t24 := Tryz.underlying34
 a24 := Tryz.isAgg34
 z24 := Tryz.sizeOf34
 v24 := Tryz.zeroValue34
 t26 := Tryz.underlying9
 a26 := Tryz.isAgg9
 z26 := Tryz.sizeOf9
 v26 := Tryz.zeroValue9
 t28 := Tryz.underlying243
 a28 := Tryz.isAgg243
 z28 := Tryz.sizeOf243
 v28 := Tryz.zeroValue243
 i26 := by kernel_rfl }
def Tryz.sortM_ren : Go.Shelf.Ren := ⟨fun | 6 => 224 | 8 => 242 | 9 => 241 | 19 => 258 | 20 => 259 | 21 => 249 | 22 => 250 | 23 => 251 | 24 => 252 | 25 => 253 | 26 => 254 | 27 => 255 | 28 => 256 | 29 => 257 | 36 => 260 | 31 => 261 | 32 => 262 | 37 => 263 | 38 => 264 | 39 => 265 | 41 => 266 | n => n, fun | 27 => 34 | 29 => 9 | 3 => 3 | 32 => 260 | 26 => 34 | 0 => 0 | 44 => 195 | 46 => 198 | 4 => 4 | 36 => 315 | 35 => 314 | 41 => 233 | 5 => 5 | 9 => 9 | 53 => 326 | 57 => 330 | 63 => 332 | 64 => 333 | n => n, fun | n => n⟩
theorem Tryz.sortM : Go.Proofs.SlLaysM.n6 Tryz.prog Tryz.sortM_ren := {
 mixed := by kernel_rfl
 f6 := ⟨Tryz.f224.name, by decide, Tryz.func224.trans (congrArg some (by kernel_rfl))⟩
 f8 := Tryz.func242.trans (congrArg some (by kernel_rfl))
 f9 := ⟨Tryz.f241.name, by decide, Tryz.func241.trans (congrArg some (by kernel_rfl))⟩
 f19 := Tryz.func258.trans (congrArg some (by kernel_rfl))
 f20 := Tryz.func259.trans (congrArg some (by kernel_rfl))
 f21 := ⟨Tryz.f249.name, by decide, Tryz.func249.trans (congrArg some (by kernel_rfl))⟩
 f22 := ⟨Tryz.f250.name, by decide, Tryz.func250.trans (congrArg some (by kernel_rfl))⟩
 f23 := ⟨Tryz.f251.name, by decide, Tryz.func251.trans (congrArg some (by kernel_rfl))⟩
 f24 := ⟨Tryz.f252.name, by decide, Tryz.func252.trans (congrArg some (by kernel_rfl))⟩
 f25 := ⟨Tryz.f253.name, by decide, Tryz.func253.trans (congrArg some (by kernel_rfl))⟩
 f26 := ⟨Tryz.f254.name, by decide, Tryz.func254.trans (congrArg some (by kernel_rfl))⟩
 f27 := ⟨Tryz.f255.name, by decide, Tryz.func255.trans (congrArg some (by kernel_rfl))⟩
 f28 := ⟨Tryz.f256.name, by decide, Tryz.func256.trans (congrArg some (by kernel_rfl))⟩
 f29 := ⟨Tryz.f257.name, by decide, Tryz.func257.trans (congrArg some (by kernel_rfl))⟩
 f31 := Tryz.func261.trans (congrArg some (by kernel_rfl))
 f32 := Tryz.func262.trans (congrArg some (by kernel_rfl))
 f36 := ⟨Tryz.f260.name, by decide, Tryz.func260.trans (congrArg some (by kernel_rfl))⟩
 f37 := ⟨Tryz.f263.name, by decide, Tryz.func263.trans (congrArg some (by kernel_rfl))⟩
 f38 := ⟨Tryz.f264.name, by decide, Tryz.func264.trans (congrArg some (by kernel_rfl))⟩
 f39 := ⟨Tryz.f265.name, by decide, Tryz.func265.trans (congrArg some (by kernel_rfl))⟩
 f41 := ⟨Tryz.f266.name, by decide, Tryz.func266.trans (congrArg some (by kernel_rfl))⟩
 t0 := Tryz.underlying0
 a0 := Tryz.isAgg0
 z0 := Tryz.sizeOf0
 v0 := Tryz.zeroValue0
 t3 := Tryz.underlying3
 a3 := Tryz.isAgg3
 z3 := Tryz.sizeOf3
 v3 := Tryz.zeroValue3
 t4 := Tryz.underlying4
 a4 := Tryz.isAgg4
 z4 := Tryz.sizeOf4
 v4 := Tryz.zeroValue4
 t5 := Tryz.underlying5
 a5 := Tryz.isAgg5
 z5 := Tryz.sizeOf5
 v5 := Tryz.zeroValue5
 t9 := Tryz.underlying9
 a9 := Tryz.isAgg9
 z9 := Tryz.sizeOf9
 v9 := Tryz.zeroValue9
 t26 := Tryz.underlying34
 a26 := Tryz.isAgg34
 z26 := Tryz.sizeOf34
 v26 := Tryz.zeroValue34
 t27 := Tryz.underlying34
 a27 := Tryz.isAgg34
 z27 := Tryz.sizeOf34
 v27 := Tryz.zeroValue34
 t29 := Tryz.underlying9
 a29 := Tryz.isAgg9
 z29 := Tryz.sizeOf9
 v29 := Tryz.zeroValue9
 t32 := Tryz.underlying260
 a32 := Tryz.isAgg260
 z32 := Tryz.sizeOf260
 v32 := Tryz.zeroValue260
 t35 := Tryz.underlying314
 a35 := Tryz.isAgg314
 z35 := Tryz.sizeOf314
 v35 := Tryz.zeroValue314
 t36 := Tryz.underlying315
 a36 := Tryz.isAgg315
 z36 := Tryz.sizeOf315
 v36 := Tryz.zeroValue315
 t41 := Tryz.underlying233
 a41 := Tryz.isAgg233
 z41 := Tryz.sizeOf233
 v41 := Tryz.zeroValue233
 t44 := Tryz.underlying195
 a44 := Tryz.isAgg195
 z44 := Tryz.sizeOf195
 v44 := Tryz.zeroValue195
 t46 := Tryz.underlying198
 a46 := Tryz.isAgg198
 z46 := Tryz.sizeOf198
 v46 := Tryz.zeroValue198
 t53 := Tryz.underlying326
 a53 := Tryz.isAgg326
 z53 := Tryz.sizeOf326
 v53 := Tryz.zeroValue326
 t57 := Tryz.underlying330
 a57 := Tryz.isAgg330
 z57 := Tryz.sizeOf330
 v57 := Tryz.zeroValue330
 t63 := Tryz.underlying332
 a63 := Tryz.isAgg332
 z63 := Tryz.sizeOf332
 v63 := Tryz.zeroValue332
 t64 := Tryz.underlying333
 a64 := Tryz.isAgg333
 z64 := Tryz.sizeOf333
 v64 := Tryz.zeroValue333 }
end Go.Proofs

namespace Go.Proofs
open Go.RowKit Go.Maps Go.Sort Go.Shelf
-- maps.Keys[map[string]string,string,string] (function 203; its iterator 229) · slices.Sorted[string] (199) · slices.Sort[[]string,string] (224) · the map's type 277, the keys' 9
theorem Tryz.sortsM (m : Nat) : AnyZ.SortsIn Tryz.prog Tryz.sortedM_ren Fence.wide m :=
 ⟨fun blk off cap ss W hH hblk hsz => callsIn_wide.2 (AnyM.slices_Sort_string Tryz.sortM blk off cap ss W hH hblk hsz),
  fun p cap W => callsIn_wide.2 (AnyM.slices_Sort_string_none Tryz.sortM p cap W)⟩
theorem Tryz.mapsKeys (mb : Option Nat) (W : World) : CallsIn Fence.wide 5 Tryz.prog 203 #[.map mb] W fun e w' => e = .returned (.func (.func 229) #[] #[.pointer (some ⟨W.heap.size, 0, none⟩)]) ∧ w' = W.alloc (.cells #[.map mb] 277) :=
 AnyZ.keys_in Tryz.keysM Fence.wide 5 trivial rfl mb W
theorem Tryz.sortedKeys {H : Type} (b nn : Nat) (D0 : DataW H) (R : Value → Option (DataW H × List MemPlace)) (w : World) (hown : w.ownsMap Tryz.prog 9 R b nn D0) (hmax : Maps.size D0 ≤ maxLen) (hbytes : Maps.size D0 * 16 ≤ 140737488355328) :
  CallsIn Fence.wide 5 Tryz.prog 199 #[.func (.func 229) #[] #[.pointer (some ⟨w.heap.size, 0, none⟩)]] (w.alloc (.cells #[.map (some b)] 277)) fun e w' => ∃ (v : Value) (ss : List (List UInt8)), e = .returned v ∧ ss.Perm (strKeys D0) ∧
   w'.ownsRow (w.alloc (.cells #[.map (some b)] 277)).heap.size 9 1 v ss.length ((ss.mergeSort (fun x y => decide (x ≤ y))).map encStr) ∧ (v = .slice none 0 0 ↔ ss = []) ∧ Below (w.alloc (.cells #[.map (some b)] 277)).heap.size (w.alloc (.cells #[.map (some b)] 277)) w' := by
 have hbl := hown.lt
 have hseq : SeqGives Fence.wide 2 Tryz.prog 229 #[.pointer (some ⟨w.heap.size, 0, none⟩)] encStr (fun ss => ss.Perm (strKeys D0)) (Maps.size D0) (w.alloc (.cells #[.map (some b)] 277)) :=
  AnyZ.keys_gives (ρ := Tryz.keysM_ren) { Tryz.keysM with } Fence.wide _ trivial rfl (by omega) w.heap.size b nn D0 _ (by simp) (by simp) (by
   obtain ⟨es, clock, hb, Ft, hs, hD⟩ := hown
   exact ⟨es, clock, (Below.heap_alloc _ _ b hbl).trans hb, Ft, hs, hD⟩)
 exact AnyZ.sorted_in Tryz.sortedM Fence.wide 5 trivial trivial trivial trivial rfl (by omega) (Tryz.sortsM _) (enters_of Tryz.func224 (by kernel_rfl) rfl) 229 #[.pointer (some ⟨w.heap.size, 0, none⟩)] trivial (enters_of Tryz.func229 (by kernel_rfl) rfl) _ _ hmax hbytes _ hseq
theorem Tryz.sortedKeysNil (w : World) :
  CallsIn Fence.wide 5 Tryz.prog 199 #[.func (.func 229) #[] #[.pointer (some ⟨w.heap.size, 0, none⟩)]] (w.alloc (.cells #[.map none] 277)) fun e w' => ∃ (v : Value) (ss : List (List UInt8)), e = .returned v ∧ ss = [] ∧
   w'.ownsRow (w.alloc (.cells #[.map none] 277)).heap.size 9 1 v ss.length ((ss.mergeSort (fun x y => decide (x ≤ y))).map encStr) ∧ (v = .slice none 0 0 ↔ ss = []) ∧ Below (w.alloc (.cells #[.map none] 277)).heap.size (w.alloc (.cells #[.map none] 277)) w' := by
 have hseq : SeqGives Fence.wide 2 Tryz.prog 229 #[.pointer (some ⟨w.heap.size, 0, none⟩)] encStr (fun ss : List (List UInt8) => ss = []) 0 (w.alloc (.cells #[.map none] 277)) :=
  AnyZ.keys_gives_nil (ρ := Tryz.keysM_ren) { Tryz.keysM with } Fence.wide _ trivial rfl w.heap.size _ (by simp) (by simp)
 exact AnyZ.sorted_in Tryz.sortedM Fence.wide 5 trivial trivial trivial trivial rfl (by omega) (Tryz.sortsM _) (enters_of Tryz.func224 (by kernel_rfl) rfl) 229 #[.pointer (some ⟨w.heap.size, 0, none⟩)] trivial (enters_of Tryz.func229 (by kernel_rfl) rfl) _ 0 (Nat.zero_le _) (by omega) _ hseq
end Go.Proofs

namespace Go.Proofs.YtpfhmcdcmepfdaaGreatDoor
open Go.RowKit Go.Shelf Go.Maps
open Go.Proofs
open Go.Proofs.YtpfhmcdcmepfdaaGreatDoor.Ad (Pr AscP)
theorem strK : Keyed Tryz.prog 9 := string_keyed Tryz.underlying9
theorem ownsMap_same {P : Program} {k : TypeId} {R : Value → Option (DataW Unit × List MemPlace)} {w w' : World} {b n : Nat} {D : DataW Unit} (h : w.ownsMap P k R b n D) (e : w'.heap[b]? = w.heap[b]?) : w'.ownsMap P k R b n D := by
 obtain ⟨es, clock, hb, r⟩ := h
 exact ⟨es, clock, e.trans hb, r⟩
theorem bs_mk (x : ByteArray) : (⟨(bsT x).toArray⟩ : ByteArray) = x := by cases x; simp [bsT]
theorem piece_le (c : UInt8) : ∀ s : List UInt8, ∀ p ∈ Ad.pieces c s, p.length ≤ s.length
 | [], p, hp => by simp [Ad.pieces] at hp; rw [hp]; simp
 | x :: r, p, hp => by
  have ih := piece_le c r
  unfold Ad.pieces at hp
  split at hp
  ·rcases List.mem_cons.1 hp with e | e
   ·rw [e]; simp
   ·have := ih p e; simp only [List.length_cons]; omega
  ·split at hp
   ·rw [List.mem_singleton] at hp; rw [hp]; simp
   ·rename_i q l hq
    rcases List.mem_cons.1 hp with e | e
    ·rw [e]
     have := ih q (by rw [hq]; simp)
     simp only [List.length_cons]; omega
    ·have := ih p (by rw [hq]; exact List.mem_cons_of_mem _ e)
     simp only [List.length_cons]; omega
theorem zeroStrC (w : World) : (zeroValue 9).run Tryz.prog w = .ok (.string ByteArray.empty) w := by kernel_rfl
def keyB (p : Pr) : ByteArray := ⟨p.1.toArray⟩
theorem name_64 {p : Pr} (h : Ad.goodP p = true) : (keyB p).size ≤ 64 := by
 simp only [Ad.goodP, Bool.and_eq_true] at h
 have h1 := h.1
 simp only [Tg.nameB, Tg.wordB, Bool.and_eq_true, decide_eq_true_eq] at h1
 have h2 : (keyB p).size = p.1.length := by simp [keyB, ByteArray.size]
 omega
theorem keys_flat : ∀ L : List Pr, L.map (Go.Proofs.encStr ∘ fun x => x.1) = L.flatMap (fun a => encStr (keyB a))
 | [] => rfl
 | p :: l => by rw [List.map_cons, List.flatMap_cons, keys_flat l]; rfl
theorem keys_owned {base : Nat} {w : World} {v : Value} {ss : List (List UInt8)} {L : List Pr} (hs : ss.mergeSort (fun x y => decide (x ≤ y)) = L.map (·.1)) (h : w.ownsRow base 9 1 v ss.length ((ss.mergeSort (fun x y => decide (x ≤ y))).map Go.Proofs.encStr)) :
  ∃ A c, v = .slice A L.length c ∧ OwnsStr base w A c (L.map keyB) := by
 have hl : ss.length = L.length := by
  have := congrArg List.length hs
  rwa [List.length_mergeSort, List.length_map] at this
 have e : (ss.mergeSort (fun x y => decide (x ≤ y))).map Go.Proofs.encStr = (L.map keyB).flatMap encStr := by
  rw [hs, List.map_map, List.flatMap_map]
  exact keys_flat L
 rw [e, hl] at h
 have hl2 : (L.map keyB).length = L.length := List.length_map _
 obtain ⟨h1, h2⟩ := h
 rcases h2 with ⟨rfl, h3⟩ | ⟨g, cap, cur, rfl, h3⟩
 ·exact ⟨none, 0, by rw [h3], by unfold OwnsStr Owns World.ownsRow; rw [hl2]; exact ⟨h1, .inl ⟨by rw [h3], h3⟩⟩⟩
 ·exact ⟨_, cap, rfl, by unfold OwnsStr Owns World.ownsRow; rw [hl2]; exact ⟨h1, .inr ⟨g, cap, cur, rfl, h3⟩⟩⟩
section
attribute [local go_sem] Oper.semAt_some
abbrev ownsP (W : World) (bm n : Nat) (D : DataW Unit) : Prop := W.ownsMap Tryz.prog 9 (plainElem Tryz.prog 9) bm n D
def PrJ (b4 b2 b3 bm rc : Nat) (ps : List (List UInt8)) (rdy : Obj) (k : Nat) (W : World) : Prop :=
 ∃ (L : List Pr) (D : DataW Unit), Hid (Ad.qAll (ps.take k) = some L) ∧ Hid (MapIs D L) ∧ ownsP W bm k D ∧ Boxed W b4 277 (.map (some bm)) ∧ Boxed W b2 210 (.slice none 0 0) ∧ Boxed W b3 4 (.bool false) ∧ W.heap[rc]? = some rdy
theorem q_take {ps : List (List UInt8)} {k : Nat} (h : k < ps.length) {out : List Pr} (ho : Ad.qAll (ps.take k) = some out) : Ad.qAll (ps.take (k + 1)) = Ad.qIn out ps[k] := by
 rw [List.take_succ_eq_append_getElem h, Ad.q_snoc, ho]
 rfl
theorem q_stop {ps : List (List UInt8)} {k : Nat} (h : Ad.qAll (ps.take k) = none) : Ad.qAll ps = none := by
 have e : Ad.qAll ps = (ps.drop k).foldl Ad.qStep (Ad.qAll (ps.take k)) := by
  conv => lhs; rw [← List.take_append_drop k ps]
  unfold Ad.qAll
  rw [List.foldl_append]
 rw [e, h]
 exact Ad.q_none _
def PrSt (b2 b3 rc : Nat) (ps : List (List UInt8)) (rdy : Obj) (W : World) : Prop :=
 Ad.qAll ps = none ∧ Boxed W b2 210 (.slice none 0 0) ∧ Boxed W b3 4 (.bool false) ∧ W.heap[rc]? = some (doneOf .ret rdy)
theorem pairs_some (s : ByteArray) (w : World) (h0 : bsT s ≠ []) (hs : s.size ≤ 4096) :
  Calls Tryz.prog 175 #[.string s] w fun e w' => PrsU (Ad.quN (bsT s)) w.heap.size e w' ∧ Ext w w' := by
 have hs0 : (s.toList == []) = false := by rw [Lib.toList_data]; simpa [bsT] using h0
 have hs1 : s.toList.isEmpty = false := by rw [Lib.toList_data]; simpa [bsT] using h0
 have HQN : Hid (Ad.quN (bsT s) = Ad.qAll (Ad.pieces 38 (bsT s))) := lh (by unfold Ad.quN; rw [if_neg h0])
 have HSS := lh (fun W => splitSeq_any s 38 W)
 have hmm := @run_makeMap Tryz.prog
 clear h0
 refine (callsIn_wide (n := 6)).1 ?_
 refine callsIn_of_wp_marks Tryz.func175 rfl trivial ?_ rfl
 simp only [Tryz.ntmps175, List.size_toArray, List.length_cons, List.length_nil, Nat.reduceAdd, Nat.reduceSub, Array.replicate_succ, Array.replicate_zero, List.push_toArray, List.append_toArray, List.nil_append, List.cons_append]
 gi_wp2_with (refine ⟨trivial, ?_⟩; gi_at_call 172; refine (callsIn_wide.2 (HSS.out _)).mono ?_; rintro e w' ⟨rfl, rfl⟩)
 obtain ⟨W0, hW0⟩ : ∃ W0, (((((((w.alloc (.cells #[.slice none 0 0] 210)).alloc (.cells #[.bool false] 4)).alloc (.map #[] 0)).alloc (.cells #[.map (some (w.heap.size + 1 + 1))] 277)).alloc (.cells #[.string s] 9)).alloc (.cells #[.string ⟨#[38]⟩] 9)).alloc (.cells #[.int .i64 0] 3)) = W0 := ⟨_, rfl⟩
 have b1 : Boxed W0 w.heap.size 210 (.slice none 0 0) := by rw [← hW0]; exact ((((((Boxed.new w 210 _).alloc _).alloc _).alloc _).alloc _).alloc _).alloc _
 have b2 : Boxed W0 (w.heap.size + 1) 4 (.bool false) := by
  rw [← hW0]
  have := Boxed.new (w.alloc (.cells #[.slice none 0 0] 210)) 4 (.bool false); rw [World.size_alloc] at this; exact ((((this.alloc _).alloc _).alloc _).alloc _).alloc _
 have bmp : ownsP W0 (w.heap.size + 1 + 1) 0 (.map []) := by
  rw [← hW0]
  have := World.ownsMap_made (H := Unit) ((w.alloc (.cells #[.slice none 0 0] 210)).alloc (.cells #[.bool false] 4)) Tryz.prog 9 (plainElem Tryz.prog 9); rw [World.size_alloc, World.size_alloc] at this; exact (((this.alloc _).alloc _).alloc _).alloc _
 have b4 : Boxed W0 (w.heap.size + 1 + 1 + 1) 277 (.map (some (w.heap.size + 1 + 1))) := by
  rw [← hW0]
  have := Boxed.new (((w.alloc (.cells #[.slice none 0 0] 210)).alloc (.cells #[.bool false] 4)).alloc (.map #[] 0)) 277 (.map (some (w.heap.size + 1 + 1))); rw [World.size_alloc, World.size_alloc, World.size_alloc] at this; exact ((this.alloc _).alloc _).alloc _
 have bsx : Boxed W0 (w.heap.size + 1 + 1 + 1 + 1) 9 (.string s) := by
  rw [← hW0]
  have := Boxed.new ((((w.alloc (.cells #[.slice none 0 0] 210)).alloc (.cells #[.bool false] 4)).alloc (.map #[] 0)).alloc (.cells #[.map (some (w.heap.size + 1 + 1))] 277)) 9 (.string s); rw [World.size_alloc, World.size_alloc, World.size_alloc, World.size_alloc] at this; exact (this.alloc _).alloc _
 have bsep : Boxed W0 (w.heap.size + 1 + 1 + 1 + 1 + 1) 9 (.string ⟨#[38]⟩) := by
  rw [← hW0]
  have := Boxed.new (((((w.alloc (.cells #[.slice none 0 0] 210)).alloc (.cells #[.bool false] 4)).alloc (.map #[] 0)).alloc (.cells #[.map (some (w.heap.size + 1 + 1))] 277)).alloc (.cells #[.string s] 9)) 9 (.string ⟨#[38]⟩); rw [World.size_alloc, World.size_alloc, World.size_alloc, World.size_alloc, World.size_alloc] at this; exact this.alloc _
 have bsv : Boxed W0 (w.heap.size + 1 + 1 + 1 + 1 + 1 + 1) 3 (.int .i64 0) := by
  rw [← hW0]
  have := Boxed.new ((((((w.alloc (.cells #[.slice none 0 0] 210)).alloc (.cells #[.bool false] 4)).alloc (.map #[] 0)).alloc (.cells #[.map (some (w.heap.size + 1 + 1))] 277)).alloc (.cells #[.string s] 9)).alloc (.cells #[.string ⟨#[38]⟩] 9)) 3 (.int .i64 0); rw [World.size_alloc, World.size_alloc, World.size_alloc, World.size_alloc, World.size_alloc, World.size_alloc] at this; exact this
 have bs0 : W0.heap.size = w.heap.size + 7 := by rw [← hW0]; simp
 have bx : Ext w W0 := by rw [← hW0]; exact (((((((eR _).alloc _).alloc _).alloc _).alloc _).alloc _).alloc _).alloc _
 rw [hW0]
 clear hW0
 have hbs1 := Nat.le_of_eq bs0
 have hbs2 := Nat.le_of_eq bs0.symm
 clear bs0
 refine rf_enter2 rfl (by omega) (gf := 227) (lb := #[.pointer (some ⟨w.heap.size + 1 + 1 + 1 + 1 + 1, 0, none⟩), .pointer (some ⟨w.heap.size + 1 + 1 + 1 + 1, 0, none⟩), .pointer (some ⟨w.heap.size + 1 + 1 + 1 + 1 + 1 + 1, 0, none⟩)]) rfl trivial (enters_of Tryz.func227 (by kernel_rfl) rfl) ?_
 intro fn WL rdy hfn hrdy hE hEs hl0 hD0
 have hEa := Nat.le_of_eq hEs
 have hEb := Nat.le_of_eq hEs.symm
 clear hEs
 have hM0 : ownsP WL (w.heap.size + 1 + 1) 0 (.map []) := ownsMap_same bmp (hE.below.block _ (by omega))
 refine CallsIn.mono (splitseq1_in 38 (6 - 1) (by omega) (W0.heap.size + 1) (w.heap.size + 1 + 1 + 1 + 1) (w.heap.size + 1 + 1 + 1 + 1 + 1) (w.heap.size + 1 + 1 + 1 + 1 + 1 + 1) s WL (by omega) (Boxed.ext bsep hE) (Boxed.ext bsx hE) (Boxed.ext bsv hE) ⟨by omega, by omega⟩
  (fun k => (w.heap.size ≤ k ∧ k ≠ W0.heap.size ∧ k ≠ w.heap.size + 4 ∧ k ≠ w.heap.size + 5 ∧ k ≠ w.heap.size + 6)) ⟨by omega, by omega, by omega⟩
  (PrJ (w.heap.size + 1 + 1 + 1) w.heap.size (w.heap.size + 1) (w.heap.size + 1 + 1) (W0.heap.size + 1) (Ad.pieces 38 (bsT s)) rdy)
  (PrSt w.heap.size (w.heap.size + 1) (W0.heap.size + 1) (Ad.pieces 38 (bsT s)) rdy)
  ⟨[], .map [], lh rfl, lh MapIs.nil, hM0, Boxed.ext b4 hE, Boxed.ext b1 hE, Boxed.ext b2 hE, hl0⟩
  (fun k W1 W2 ⟨L', D', h1, h2, h4, h3, h5, h6, h7⟩ hx => ⟨L', D', h1, h2, ownsMap_same h4 (hx.block _ h4.lt (by omega)), hx.boxed h3 (by omega), hx.boxed h5 (by omega), hx.boxed h6 (by omega), (hx.block _ (Array.getElem?_eq_some_iff.1 h7).1 (by omega)).trans h7⟩) ?hY) ?post
 case hY =>
  rintro k hk x W1 hx ⟨L', D', HL, HMI, hM1, hbo, hb2, hb3, hrec⟩ hBS
  have hsz1 := hBS.size
  have hlt := (Array.getElem?_eq_some_iff.1 hrec).1
  have HSt : Hid (Ad.qAll ((Ad.pieces 38 (bsT s)).take (k + 1)) = Ad.qIn L' (bsT x)) := lh (by rw [q_take hk HL.out, hx])
  have HStop : Hid (Ad.qIn L' (bsT x) = none → Ad.qAll (Ad.pieces 38 (bsT s)) = none) := lh (fun h => q_stop (HSt.out.trans h))
  have hxs : x.size ≤ 4096 := by
   have h1 := piece_le 38 (bsT s) _ (List.getElem_mem hk)
   rw [← hx, bsT_size, bsT_size] at h1
   omega
  have hA : AscP L' := (Ad.qAll_ok _ [] L' HL.out (by simp [AscP]) (by simp)).1
  have HA := lh hA
  have HRdy := lh hrdy
  rw [hrdy] at hrec
  clear hrdy hx HL hA
  refine rf_round hrec hfn rfl ?_
  have HREC := lh hrec
  clear hrec
  gi_wp2
  refine ⟨(Array.getElem?_eq_some_iff.1 HREC.out).2, ?_⟩
  intro W2 hbt hs2 hr2
  have hs2a : W2.heap.size ≤ W1.heap.size := Nat.le_of_eq hs2
  have hs2b : W1.heap.size ≤ W2.heap.size := Nat.le_of_eq hs2.symm
  have hm2 : ownsP W2 (w.heap.size + 1 + 1) k D' := ownsMap_same hM1 (hbt.block _ hM1.lt (fun e => by injection e; omega))
  have hbp2 : Boxed W2 (w.heap.size + 1 + 1 + 1) 277 (.map (some (w.heap.size + 1 + 1))) := boxed_but hbo hbt (by omega)
  have hq2 : Boxed W2 w.heap.size 210 (.slice none 0 0) := boxed_but hb2 hbt (by omega)
  have hq3 : Boxed W2 (w.heap.size + 1) 4 (.bool false) := boxed_but hb3 hbt (by omega)
  have c3 := hbp2.cell
  have c4 := hq2.cell
  have c4f := hq2.frozen
  have c5 := hq3.cell
  have c5f := hq3.frozen
  have HBt := lh hbt
  have HR2 := lh hr2
  have HM2 := lh hm2
  have HP2 := lh hbp2
  have HQ2 := lh hq2
  have HQ3 := lh hq3
  clear hbt hr2 hs2 hM1 hbo hb2 hb3 hm2 hbp2 hq2 hq3
  gi_wp2_with (refine ⟨trivial, ?_⟩; gi_at_call 154; refine (show Hid _ from ?_).out)
  refine lh ?_
  refine (CallsIn.inRound _ (callsIn_wide.2 (scut_any x 61 _ (by omega)))).mono ?_
  rintro e w' ⟨⟨a, b, f, rfl, hc, has, hbs⟩, hxl⟩
  obtain ⟨xm, rfl⟩ := hxl.asLater
  clear hxl
  have HC := lh hc
  have HNm := lh (fun W => name_any a W)
  have HWd := lh (fun W => word_any b W)
  have HPo : Hid (Ad.pairOf (bsT x) = if f = true ∧ Tg.nameB (bsT a) = true ∧ Tg.wordB (bsT b) = true then some (bsT a, bsT b) else none) := lh (by unfold Ad.pairOf; rw [← hc])
  clear hc
  cases f with
  | false =>
   have HFl := lh (HStop.out (by unfold Ad.qIn; rw [HPo.out]; rfl))
   clear HStop HSt HPo HNm HWd HC
   gi_wp2_with (refine ⟨trivial, ?_⟩)
   refine ⟨?_, ?_⟩
   ·refine (Below.heap_setCell _ _ _ _ (by show _ ≠ w.heap.size + 1; omega)).trans ((Below.heap_setCell _ _ _ _ (by show _ ≠ w.heap.size; omega)).trans ?_)
    exact ((ext_later W2 xm).below.block _ (by omega)).trans HR2.out
   intro W4 hb4 hr4
   refine ⟨.inr ⟨rfl, HFl.out, ?_, ?_, by rw [HRdy.out]; exact hr4⟩, ?_⟩
   ·exact boxed_but (((Boxed.ext HQ2.out (ext_later W2 xm)).set _).other (by omega) _) hb4 (by omega)
   ·exact boxed_but ((((Boxed.ext HQ3.out (ext_later W2 xm)).other (by omega) _)).set _) hb4 (by omega)
   ·refine (ButS.of_but HBt.out (.inr ⟨by omega, by omega, by omega, by omega, by omega⟩)).trans ((ButS.of_ext (ext_later W2 xm)).trans ?_)
    exact (((ButS.refl _ (later W2 xm)).setCell (p := ⟨w.heap.size, 0, none⟩) (.inl ⟨by show w.heap.size ≤ w.heap.size; omega, by show w.heap.size ≠ _; omega, by show w.heap.size ≠ _; omega, by show w.heap.size ≠ _; omega, by show w.heap.size ≠ _; omega⟩) _).setCell (p := ⟨w.heap.size + 1, 0, none⟩) (.inl ⟨by show _ ≤ w.heap.size + 1; omega, by show w.heap.size + 1 ≠ _; omega, by show w.heap.size + 1 ≠ _; omega, by show w.heap.size + 1 ≠ _; omega, by show w.heap.size + 1 ≠ _; omega⟩) _).trans (ButS.of_but hb4 (.inr ⟨by omega, by omega, by omega, by omega, by omega⟩))
  | true =>
   cases hn : Tg.nameB (bsT a) with
   | false =>
    have hn' : Tg.nameB a.data.toList = false := hn
    rw [hn'] at HNm
    have HFl := lh (HStop.out (by unfold Ad.qIn; rw [HPo.out, hn]; rfl))
    clear HStop HSt HPo HWd HC hn hn'
    gi_wp2_with (refine ⟨trivial, ?_⟩; try (first
     | (gi_at_call 176; refine (CallsIn.inRound _ (callsIn_wide.2 (HNm.out _))).mono ?_; rintro e w' ⟨rfl, hxl⟩; obtain ⟨xn, rfl⟩ := hxl.asLater; clear hxl)
     | (gi_at_call 179; refine (CallsIn.inRound _ (callsIn_wide.2 (HWd.out _))).mono ?_; rintro e w' ⟨rfl, hxl⟩; obtain ⟨xo, rfl⟩ := hxl.asLater; clear hxl)))
    refine ⟨?_, ?_⟩
    ·refine (Below.heap_setCell _ _ _ _ (by show _ ≠ w.heap.size + 1; omega)).trans ((Below.heap_setCell _ _ _ _ (by show _ ≠ w.heap.size; omega)).trans ?_)
     exact ((ext_later W2 (xm.comp xn)).below.block _ (by omega)).trans HR2.out
    intro W4 hb4 hr4
    refine ⟨.inr ⟨rfl, HFl.out, ?_, ?_, by rw [HRdy.out]; exact hr4⟩, ?_⟩
    ·exact boxed_but (((Boxed.ext HQ2.out (ext_later W2 (xm.comp xn))).set _).other (by omega) _) hb4 (by omega)
    ·exact boxed_but ((((Boxed.ext HQ3.out (ext_later W2 (xm.comp xn))).other (by omega) _)).set _) hb4 (by omega)
    ·refine (ButS.of_but HBt.out (.inr ⟨by omega, by omega, by omega, by omega, by omega⟩)).trans ((ButS.of_ext (ext_later W2 (xm.comp xn))).trans ?_)
     exact (((ButS.refl _ (later W2 (xm.comp xn))).setCell (p := ⟨w.heap.size, 0, none⟩) (.inl ⟨by show w.heap.size ≤ w.heap.size; omega, by show w.heap.size ≠ _; omega, by show w.heap.size ≠ _; omega, by show w.heap.size ≠ _; omega, by show w.heap.size ≠ _; omega⟩) _).setCell (p := ⟨w.heap.size + 1, 0, none⟩) (.inl ⟨by show _ ≤ w.heap.size + 1; omega, by show w.heap.size + 1 ≠ _; omega, by show w.heap.size + 1 ≠ _; omega, by show w.heap.size + 1 ≠ _; omega, by show w.heap.size + 1 ≠ _; omega⟩) _).trans (ButS.of_but hb4 (.inr ⟨by omega, by omega, by omega, by omega, by omega⟩))
   | true =>
    have hn' : Tg.nameB a.data.toList = true := hn
    rw [hn'] at HNm
    cases hwd : Tg.wordB (bsT b) with
    | false =>
     have hw' : Tg.wordB b.data.toList = false := hwd
     rw [hw'] at HWd
     have HFl := lh (HStop.out (by unfold Ad.qIn; rw [HPo.out, hwd]; simp))
     clear HStop HSt HPo HC hn hn' hwd hw'
     gi_wp2_with (refine ⟨trivial, ?_⟩; try (first
      | (gi_at_call 176; refine (CallsIn.inRound _ (callsIn_wide.2 (HNm.out _))).mono ?_; rintro e w' ⟨rfl, hxl⟩; obtain ⟨xn, rfl⟩ := hxl.asLater; clear hxl)
      | (gi_at_call 179; refine (CallsIn.inRound _ (callsIn_wide.2 (HWd.out _))).mono ?_; rintro e w' ⟨rfl, hxl⟩; obtain ⟨xo, rfl⟩ := hxl.asLater; clear hxl)))
     refine ⟨?_, ?_⟩
     ·refine (Below.heap_setCell _ _ _ _ (by show _ ≠ w.heap.size + 1; omega)).trans ((Below.heap_setCell _ _ _ _ (by show _ ≠ w.heap.size; omega)).trans ?_)
      exact ((ext_later W2 ((xm.comp xn).comp xo)).below.block _ (by omega)).trans HR2.out
     intro W4 hb4 hr4
     refine ⟨.inr ⟨rfl, HFl.out, ?_, ?_, by rw [HRdy.out]; exact hr4⟩, ?_⟩
     ·exact boxed_but (((Boxed.ext HQ2.out (ext_later W2 ((xm.comp xn).comp xo))).set _).other (by omega) _) hb4 (by omega)
     ·exact boxed_but ((((Boxed.ext HQ3.out (ext_later W2 ((xm.comp xn).comp xo))).other (by omega) _)).set _) hb4 (by omega)
     ·refine (ButS.of_but HBt.out (.inr ⟨by omega, by omega, by omega, by omega, by omega⟩)).trans ((ButS.of_ext (ext_later W2 ((xm.comp xn).comp xo))).trans ?_)
      exact (((ButS.refl _ (later W2 ((xm.comp xn).comp xo))).setCell (p := ⟨w.heap.size, 0, none⟩) (.inl ⟨by show w.heap.size ≤ w.heap.size; omega, by show w.heap.size ≠ _; omega, by show w.heap.size ≠ _; omega, by show w.heap.size ≠ _; omega, by show w.heap.size ≠ _; omega⟩) _).setCell (p := ⟨w.heap.size + 1, 0, none⟩) (.inl ⟨by show _ ≤ w.heap.size + 1; omega, by show w.heap.size + 1 ≠ _; omega, by show w.heap.size + 1 ≠ _; omega, by show w.heap.size + 1 ≠ _; omega, by show w.heap.size + 1 ≠ _; omega⟩) _).trans (ButS.of_but hb4 (.inr ⟨by omega, by omega, by omega, by omega, by omega⟩))
    | true =>
     have hw' : Tg.wordB b.data.toList = true := hwd
     rw [hw'] at HWd
     have HN : Hid (Ad.qAll ((Ad.pieces 38 (bsT s)).take (k + 1)) = some (Ad.putP (bsT a, bsT b) L')) := lh (by rw [HSt.out]; unfold Ad.qIn; rw [HPo.out, if_pos ⟨rfl, hn, hwd⟩]; rfl)
     clear HStop HSt HPo HC hn hn' hwd hw'
     gi_wp2_with (first
      | (refine ⟨trivial, ?_⟩; try (first
       | (gi_at_call 176; refine (CallsIn.inRound _ (callsIn_wide.2 (HNm.out _))).mono ?_; rintro e w' ⟨rfl, hxl⟩; obtain ⟨xn, rfl⟩ := hxl.asLater; clear hxl)
       | (gi_at_call 179; refine (CallsIn.inRound _ (callsIn_wide.2 (HWd.out _))).mono ?_; rintro e w' ⟨rfl, hxl⟩; obtain ⟨xo, rfl⟩ := hxl.asLater; clear hxl)))
      | (gi_at_mapUpdate; refine (show Hid _ from ?_).out))
     refine lh ?_
     have HM3 : Hid (ownsP (later W2 ((xm.comp xn).comp xo)) (w.heap.size + 1 + 1) k D') := lh (ownsMap_same HM2.out ((ext_later W2 _).below.block _ HM2.out.lt))
     have hkl := Ad.pieces_len 38 (bsT s)
     rw [bsT_size] at hkl
     refine wpListIn_mapUpdate_own _ rfl _ _ _ 277 rfl 9 9 strK Tryz.underlying277 _ (w.heap.size + 1 + 1) k D' rfl HM3.out (by unfold maxLen; omega) (.string a) (.string b) (.string (bsT a)) rfl rfl (Go.WideMaps.keyOf_string_mk Tryz.underlying9 (by unfold maxLen; omega)) (.lit (.string (bsT b))) [] (plainElem_string Tryz.underlying9 (by unfold maxLen; omega)) ?_
     intro w3 hown3 hgrow3
     have HG3 := lh hgrow3
     have HO3 := lh hown3
     clear hown3 hgrow3 hkl
     gi_wp2
     refine ⟨(HG3.out.block _ (by rw [later_size]; omega) (fun e => by injection e; omega)).trans (((ext_later W2 _).below.block _ (by omega)).trans HR2.out), ?_⟩
     intro W4 hb4 hr4
     have hs3 := HG3.out.size
     rw [later_size] at hs3
     have hq2 : Boxed w3 w.heap.size 210 (.slice none 0 0) := (HG3.out.block _ (by rw [later_size]; omega) (fun e => by injection e; omega)).trans (Boxed.ext HQ2.out (ext_later W2 _))
     have hq3 : Boxed w3 (w.heap.size + 1) 4 (.bool false) := (HG3.out.block _ (by rw [later_size]; omega) (fun e => by injection e; omega)).trans (Boxed.ext HQ3.out (ext_later W2 _))
     have hp2 : Boxed w3 (w.heap.size + 1 + 1 + 1) 277 (.map (some (w.heap.size + 1 + 1))) := (HG3.out.block _ (by rw [later_size]; omega) (fun e => by injection e; omega)).trans (Boxed.ext HP2.out (ext_later W2 _))
     refine ⟨.inl ⟨rfl, _, _, HN, lh (HMI.out.put HA.out (bsT a, bsT b)), ownsMap_same HO3.out (hb4.block _ HO3.out.lt (fun e => by injection e; omega)), boxed_but hp2 hb4 (by omega), boxed_but hq2 hb4 (by omega), boxed_but hq3 hb4 (by omega), by rw [HRdy.out]; exact hr4⟩, ?_⟩
     refine (ButS.of_but HBt.out (.inr ⟨by omega, by omega, by omega, by omega, by omega⟩)).trans ((ButS.of_ext (ext_later W2 ((xm.comp xn).comp xo))).trans ?_)
     exact (ButS.of_grownBy HG3.out (fun k e => by injection e; subst_vars; exact ⟨by omega, by omega, by omega, by omega, by omega⟩)).trans (ButS.of_but hb4 (.inr ⟨by omega, by omega, by omega, by omega, by omega⟩))
 case post =>
  rintro e W' ⟨⟨v', rfl⟩, hJS, hB⟩
  have HOut : ButS (fun k => w.heap.size ≤ k) w W' := (ButS.of_ext (bx.trans hE)).trans (hB.mono (fun k _ e => by omega))
  have HO1 := lh HOut
  have hszB := hB.size
  have hD1 : W'.heap[W0.heap.size]? = some (.deferred (some [])) := (hB.block _ (by omega) (by omega)).trans hD0
  refine ⟨⟨_, rfl⟩, ?_⟩
  rcases hJS with ⟨L', D', HL, HMI, hM1, hbo, hb2, hb3, hrec⟩ | ⟨hno, hb2, hb3, hrec⟩
  ·refine .inl ⟨hrec, ?_⟩
   intro W'' hBut
   have HK : Hid (W''.heap[W0.heap.size]? = some (.deferred (some []))) := lh ((hBut.block _ (by omega) (fun e => by injection e; omega)).trans hD1)
   have hq4 := boxed_but hbo hBut (by omega)
   have hc := hq4.cell
   have HQ2 := lh (boxed_but hb2 hBut (by omega))
   have HQ3 := lh (boxed_but hb3 hBut (by omega))
   have HM2 : Hid (ownsP W'' (w.heap.size + 1 + 1) (Ad.pieces 38 (bsT s)).length D') := lh (ownsMap_same hM1 (hBut.block _ hM1.lt (fun e => by injection e; omega)))
   have HBu : Hid (ButS (fun k => w.heap.size ≤ k) w W'') := lh (HO1.out.trans (ButS.of_but hBut (.inr (by omega))))
   have HR : Hid (Ad.qAll (Ad.pieces 38 (bsT s)) = some L') := lh (by rw [← HL.out, List.take_of_length_le (Nat.le_refl _)])
   have HA : Hid (AscP L') := lh (Ad.qAll_ok _ [] L' HR.out (by simp [AscP]) (by simp)).1
   have hkl := Ad.pieces_len 38 (bsT s)
   rw [bsT_size] at hkl
   have hLl : L'.length ≤ (Ad.pieces 38 (bsT s)).length := by have := (Ad.qAll_ok _ [] L' HR.out (by simp [AscP]) (by simp)).2.2; simpa using this
   have hmz : Maps.size D' = L'.length := HMI.out.size HA.out HM2.out strK Tryz.underlying9
   have hsz2 := hBut.size
   clear hbo hb2 hb3 hrec hBut HL hD1 hD0 hB HOut hl0 b1 b2 b4 bmp bsx bsep bsv HO1 hM1 hM0
   gi_wp2_with (refine ⟨trivial, ?_⟩; first
    | (gi_at_call 203; refine (Tryz.mapsKeys _ _).mono ?_; rintro e w' ⟨rfl, rfl⟩)
    | (gi_at_call 199; refine (show Hid _ from ?_).out))
   refine lh ?_
   refine (Tryz.sortedKeys (w.heap.size + 1 + 1) _ D' _ W'' HM2.out (by rw [hmz]; unfold maxLen; omega) (by rw [hmz]; omega)).mono ?_
   rintro e w5 ⟨v, ss, rfl, hperm, hrow, _, hb5⟩
   obtain ⟨A5, c5, rfl, hks⟩ := keys_owned (L := L') (HMI.out.keys HA.out HM2.out strK Tryz.underlying9 hperm) hrow
   have HKs := lh hks
   have hx5 : Ext W'' w5 := ((Ext.refl W'').alloc _).trans hb5
   have hs5 := hx5.size
   have HX5 := lh hx5
   have HM5 : Hid (ownsP w5 (w.heap.size + 1 + 1) (Ad.pieces 38 (bsT s)).length D') := lh (ownsMap_same HM2.out (hx5.below.block _ HM2.out.lt))
   have HQ4 := lh (Boxed.ext hq4 hx5)
   have hsm : w.heap.size + 1 + 1 + 1 < w5.heap.size := HQ4.out.lt
   clear hperm hrow hb5 hks hx5 hq4 hc
   gi_wp2
   gi_loopw [43, 9] (fun i v wr => ∃ (j : Nat) (A' : Option Addr) (c' : Nat) (out : List PrB), j ≤ L'.length ∧ i = .int .i64 j ∧ v = .slice A' out.length c' ∧ out.length = j ∧ Hid (out.map prB = L'.take j) ∧ Hid (OwnsPr w5.heap.size wr A' c' out) ∧ Hid (Ext w5 wr)) (fun i _ _ => L'.length - (intOf i).toNat)
   case atStart => exact ⟨0, none, 0, [], Nat.zero_le _, rfl, rfl, rfl, lh rfl, lh (Owns.nil _ _ _ _ _), lh (eR _)⟩
   case round =>
    obtain ⟨j, A', c', out, hj, rfl, rfl, hoj, HOu, HOw, HX⟩ := hrel
    have hsr := HX.out.size
    by_cases hlt : j < L'.length
    ·obtain ⟨b, off, rfl, hb, d1⟩ := ReadsStr.cell ((HKs.out.reads sE).ext HX.out (Nat.le_refl _)) j (by rw [List.length_map]; exact hlt)
     rw [List.getElem_map] at d1
     have hmr : ownsP wr (w.heap.size + 1 + 1) (Ad.pieces 38 (bsT s)).length D' := ownsMap_same HM5.out (HX.out.below.block _ HM5.out.lt)
     have hkb : (keyB L'[j]).size ≤ 64 := by
      have hg := (Ad.qAll_ok _ [] L' HR.out (by simp [AscP]) (by simp)).2.1 _ (List.getElem_mem hlt)
      exact name_64 hg
     obtain ⟨v, ps, hrun, hv⟩ := hmr.lookup (z := .string ByteArray.empty) (zd := .lit (.string [])) (zp := []) strK Tryz.underlying277 (zeroStrC wr) (plainElem_string Tryz.underlying9 (by decide)) (Go.WideMaps.keyOf_string_mk Tryz.underlying9 (s := keyB L'[j]) (by unfold maxLen; omega))
     obtain ⟨vs, rfl, hvs, hvl⟩ := plainElem_string_inv Tryz.underlying9 hv
     have HN : Hid (prB (keyB L'[j], vs) = L'[j]) := lh (by
      have h1 := HMI.out.val _ (List.getElem_mem hlt) (.lit (.string []))
      have h2 := congrArg Prod.fst hvs
      rw [show (keyB L'[j]).data.toList = (L'[j]).1 from by simp [keyB], h1] at h2
      have h3 : (L'[j]).2 = vs.data.toList := by injection h2 with h2; injection h2
      exact Prod.ext (by simp [prB, keyB, bsT]) h3.symm)
     have HN2 : Hid ((out ++ [(keyB L'[j], vs)]).map prB = L'.take (j + 1)) := lh (by rw [List.map_append, HOu.out, List.take_succ_eq_append_getElem hlt, List.map_cons, HN.out]; rfl)
     have c4 := (HQ4.out.cell)
     have c4r : wr.cell? ⟨w.heap.size + 1 + 1 + 1, 0, none⟩ = some (.map (some (w.heap.size + 1 + 1))) := (HX.out.cell (p := ⟨w.heap.size + 1 + 1 + 1, 0, none⟩) (by exact hsm)).trans c4
     generalize keyB L'[j] = kb at *
     clear hv hvs hmr HN c4
     gi_wp2_with (gi_at_builtin; refine app_fromIn prT prE rfl _ _ rfl w5.heap.size _ _ out rfl (HOw.out.alloc _) _ 1 _ [(kb, vs)] rfl rfl (new_cellsAt rfl _ _) (by omega) (by omega) (by simp; omega) ?_; intro A3 c3' l3 w3 HL3 HO3 hB hl1 hl2 hG; have HO3' := lh HO3; have HB3 := lh hB; have hsz3 := hB.size; clear HO3 hB hG)
     go_roundw
     case rel => exact ⟨j + 1, A3, c3', l3, by omega, by go_num, rfl, by (try simp at hl1); omega, lh (by rw [HL3.out]; exact HN2.out), HO3', lh ((HX.out.alloc _).grown HB3.out (Nat.le_refl _))⟩
     case measure => simp [intOf]; omega
    ·have e : j = L'.length := by omega
     subst e
     rw [List.take_of_length_le (Nat.le_refl _)] at HOu
     have hq2 : Boxed wr w.heap.size 210 (.slice none 0 0) := Boxed.ext HQ2.out (HX5.out.trans HX.out)
     have hq3 : Boxed wr (w.heap.size + 1) 4 (.bool false) := Boxed.ext HQ3.out (HX5.out.trans HX.out)
     have k2 := hq2.cell
     have k2f := hq2.frozen
     have k3 := hq3.cell
     have k3f := hq3.frozen
     have HQ2r := lh hq2
     have HQ3r := lh hq3
     have HKr : Hid (wr.heap[W0.heap.size]? = some (.deferred (some []))) := lh (((HX5.out.trans HX.out).below.block _ (Array.getElem?_eq_some_iff.1 HK.out).1).trans HK.out)
     have HBr : Hid (ButS (fun k => w.heap.size ≤ k) w wr) := lh (HBu.out.trans (ButS.of_ext (HX5.out.trans HX.out)))
     clear hq2 hq3
     gi_wp2
     have hK2 : ((wr.setCell ⟨w.heap.size, 0, none⟩ (.slice A' L'.length c')).setCell ⟨w.heap.size + 1, 0, none⟩ (.bool true)).heap[W0.heap.size]? = some (.deferred (some [])) := (Below.heap_setCell _ _ _ _ (by show _ ≠ w.heap.size + 1; omega)).trans ((Below.heap_setCell _ _ _ _ (by show _ ≠ w.heap.size; omega)).trans HKr.out)
     refine ⟨by simp, .inl ⟨_, _, rfl, run_takeDeferred hK2, ?_⟩⟩
     have hgb := grownBy_putObj' ((wr.setCell ⟨w.heap.size, 0, none⟩ (.slice A' L'.length c')).setCell ⟨w.heap.size + 1, 0, none⟩ (.bool true)) W0.heap.size (.deferred none)
     refine ⟨.tuple #[.slice A' L'.length c', .bool true], results_two Tryz.results175 ⟨_, rfl, load_prs (boxed_but ((HQ2r.out.set _).other (by omega) _) hgb (by omega))⟩ ⟨_, rfl, load_bool (boxed_but ((HQ3r.out.other (by omega) _).set _) hgb (by omega))⟩, ?_, ?_⟩
     ·rw [HQN.out, HR.out]
      exact ⟨A', c', out, true, by rw [hoj], rfl, HOu.out, (((HOw.out.other (p := ⟨w.heap.size, 0, none⟩) (by show w.heap.size < _; omega) _).other (p := ⟨w.heap.size + 1, 0, none⟩) (by show w.heap.size + 1 < _; omega) _).but hgb (by omega)).lower (by omega)⟩
     ·have h1 : ButS (fun k => w.heap.size ≤ k) w ((wr.setCell ⟨w.heap.size, 0, none⟩ (.slice A' L'.length c')).setCell ⟨w.heap.size + 1, 0, none⟩ (.bool true)) := (HBr.out.setCell (p := ⟨w.heap.size, 0, none⟩) (.inr (Nat.le_refl _)) _).setCell (p := ⟨w.heap.size + 1, 0, none⟩) (.inr (by show _ ≤ w.heap.size + 1; omega)) _
      exact (h1.trans (ButS.of_but hgb (.inr (by omega)))).toExt (fun k hk => by omega)
  ·refine .inr ⟨_, hrec, ?_⟩
   intro W'' hBut
   have HK : Hid (W''.heap[W0.heap.size]? = some (.deferred (some []))) := lh ((hBut.block _ (by omega) (fun e => by injection e; omega)).trans hD1)
   have hq2 := boxed_but hb2 hBut (by omega)
   have hq3 := boxed_but hb3 hBut (by omega)
   have k2 := hq2.cell
   have k3 := hq3.cell
   have HQ2 := lh hq2
   have HQ3 := lh hq3
   have HBu : Hid (ButS (fun k => w.heap.size ≤ k) w W'') := lh (HO1.out.trans (ButS.of_but hBut (.inr (by omega))))
   have HR := lh hno
   clear hb2 hb3 hrec hBut hno hq2 hq3 hD1 hD0 hB HOut hl0 b1 b2 b4 bmp bsx bsep bsv HO1 hM0
   gi_wp2
   refine ⟨by simp, .inl ⟨_, _, rfl, run_takeDeferred HK.out, ?_⟩⟩
   have hgb := grownBy_putObj' W'' W0.heap.size (.deferred none)
   refine ⟨.tuple #[.slice none 0 0, .bool false], results_two Tryz.results175 ⟨_, rfl, load_prs (boxed_but HQ2.out hgb (by omega))⟩ ⟨_, rfl, load_bool (boxed_but HQ3.out hgb (by omega))⟩, ?_, ?_⟩
   ·rw [HQN.out, HR.out]
    exact ⟨none, 0, [], false, rfl, rfl, rfl, Owns.nil _ _ _ _ _⟩
   ·exact (HBu.out.trans (ButS.of_but hgb (.inr (by omega)))).toExt (fun k hk => by omega)
end
end Go.Proofs.YtpfhmcdcmepfdaaGreatDoor

namespace Go.Proofs.YtpfhmcdcmepfdaaGreatDoor
open Go.RowKit Go.Shelf
open Go.Proofs
theorem pairs_any (s : ByteArray) (w : World) (hs : s.size ≤ 4096) : Calls Tryz.prog 175 #[.string s] w fun e w' => PrsU (Ad.quN (bsT s)) w.heap.size e w' ∧ Ext w w' := by
 by_cases h : bsT s = []
 ·exact pairs_none s w h
 ·exact pairs_some s w h hs
theorem canon_all (s : ByteArray) (w : World) (hs : s.size ≤ 900000) :
  Calls Tryz.prog 108 #[.string s] w fun e w' => e = .returned (.tuple #[.string ⟨(Ad.canonT (bsT s)).toArray⟩, .int .i64 (Ad.canonE (bsT s))]) ∧ Ext w w' :=
 canon_any s w hs (fun q W _ hq _ => pairs_any q W hq)
attribute [local go_sem] strConv
end Go.Proofs.YtpfhmcdcmepfdaaGreatDoor

namespace Go.Proofs.YtpfhmcdcmepfdaaGreatDoor
open Go.RowKit Go.Shelf
open Go.Proofs
theorem rd_ty : RowTy Tryz.prog 254 4 := ⟨by kernel_rfl, by kernel_rfl⟩
theorem rd_ld (w : World) (b o : Nat) : (rowLoad 254 4 (.pointer (some ⟨b, o, none⟩))).run Tryz.prog w = rowLoadR Tryz.prog w 254 4 b o (rowOf w b o 4) := run_rowLoad rd_ty w b o
theorem rd_st (w : World) (b o : Nat) (cells : Array Value) : (rowStore 254 4 (.pointer (some ⟨b, o, none⟩)) (.agg cells)).run Tryz.prog w = rowStoreR Tryz.prog w 254 4 b o cells (roomOf w b o 4 && fitsRow 4 cells) := run_rowStore rd_ty w b o cells
theorem rd_al (w : World) : (rowAlloc 254).run Tryz.prog w = .ok (.value (.pointer (some ⟨w.heap.size, 0, none⟩))) (w.alloc (.cells (#[.string ByteArray.empty, .slice none 0 0, .slice none 0 0, .int .i64 0]) 254)) := run_rowAlloc (by kernel_rfl) w
theorem rd_xl (ρ : Operand → Value) (dst : Option Tmp) (x : Operand) (t : TypeId) (pos : String) (after : Array Edge) (guard : Option (Nat × Bool)) : execOp ρ { dst, op := .load 254 x, type := t, pos, after, guard } = rowLoad 254 4 (ρ x) := rfl
theorem rd_xs (ρ : Operand → Value) (dst : Option Tmp) (x y : Operand) (t : TypeId) (pos : String) (after : Array Edge) (guard : Option (Nat × Bool)) : execOp ρ { dst, op := .store 254 x y, type := t, pos, after, guard } = rowStore 254 4 (ρ x) (ρ y) := rfl
theorem rd_xa (ρ : Operand → Value) (dst : Option Tmp) (t : TypeId) (pos : String) (after : Array Edge) (guard : Option (Nat × Bool)) : execOp ρ { dst, op := .alloc 254, type := t, pos, after, guard } = rowAlloc 254 := rfl
attribute [go_sem ↓] rd_xl rd_xs rd_xa
attribute [go_sem] rd_ld rd_st rd_al
theorem rd_fits (cu : ByteArray) (A : Option Addr) (n c : Nat) (A2 : Option Addr) (n2 c2 : Nat) (E : Int) : fitsRow 4 #[.string cu, .slice A n c, .slice A2 n2 c2, .int .i64 E] = true := by kernel_rfl
attribute [local go_sem] rd_fits
end Go.Proofs.YtpfhmcdcmepfdaaGreatDoor

namespace Go.Proofs.YtpfhmcdcmepfdaaGreatDoor
open Go.RowKit Go.Shelf
open Go.Proofs
attribute [local go_sem] rd_fits
end Go.Proofs.YtpfhmcdcmepfdaaGreatDoor

namespace Go.Proofs.YtpfhmcdcmepfdaaGreatDoor
open Go.RowKit Go.Shelf
open Go.Proofs
def okPu (p : Pu) : Bool :=
 if p.kind = 1 then Ad.canonB (bsT p.what)
 else if p.kind = 2 then Ad.canonB (bsT p.what) && !((bsT p.what).contains 63)
 else if p.kind = 3 then (Ad.cutB 58 (bsT p.what)).2.2 && decide ((p.what.size : Int) ≤ 4096) && Tg.nameB (Ad.cutB 58 (bsT p.what)).1 && Tg.nameB (Ad.cutB 58 (bsT p.what)).2.1
 else false
def okEp (e : Ep) : Bool := decide (e.num ≥ 1) && decide (e.num ≤ 1099511627776) && okClk ⟨e.lo, e.hi⟩ && decide (max (e.pu.length : Int) (e.rv.length : Int) ≤ 1000) && e.pu.all okPu
theorem ecanon_any (s : ByteArray) (w : World) (hs : s.size ≤ 900000) :
  Calls Tryz.prog 152 #[.string s] w fun e w' => e = .returned (.bool (Ad.canonB (bsT s))) ∧ Ext w w' := by
 have HC := lh (fun W => canon_all s W hs)
 have HB : Hid (Ad.canonB (bsT s) = (decide (Ad.canonE (bsT s) = 0) && decide (Ad.canonT (bsT s) = bsT s))) := lh rfl
 obtain ⟨T, hT⟩ : ∃ T, Ad.canonT (bsT s) = T := ⟨_, rfl⟩
 rw [hT] at HC HB
 clear hT
 obtain ⟨t, ht⟩ : ∃ t, (⟨T.toArray⟩ : ByteArray) = t := ⟨_, rfl⟩
 have hbt : bsT t = T := by rw [← ht]; rfl
 have HW := lh (eq_walk t s)
 rw [hbt] at HW
 rw [ht] at HC
 generalize Ad.canonB (bsT s) = R at *
 generalize Ad.canonE (bsT s) = E at *
 generalize decide (T = bsT s) = D at *
 clear ht hbt
 by_cases h : E = 0
 ·subst h
  go_enter Tryz.func152, Tryz.ntmps152
  go_wp2_with (go_at_call 108; refine (HC.out _).mono ?_; rintro e w' ⟨rfl, hxl⟩; obtain ⟨xl, rfl⟩ := hxl.asLater; clear hxl)
  go_ret
  exact ⟨ret_bool (by rw [HB.out, HW.out]; simp), (by (with_reducible repeat first|exact eR _|apply eD|apply eN|apply eA|apply eO|apply eS|apply eC);all_goals first|omega|simp <;> omega)⟩
 ·have e0 : (E == 0) = false := by simpa using h
  have HR : Hid (R = false) := lh (by rw [HB.out]; simp [h])
  clear HB h
  go_enter Tryz.func152, Tryz.ntmps152
  go_wp2_with (go_at_call 108; refine (HC.out _).mono ?_; rintro e w' ⟨rfl, hxl⟩; obtain ⟨xl, rfl⟩ := hxl.asLater; clear hxl)
  go_ret
  exact ⟨ret_bool HR.out.symm, (by (with_reducible repeat first|exact eR _|apply eD|apply eN|apply eA|apply eO|apply eS|apply eC);all_goals first|omega|simp <;> omega)⟩
theorem set_one (s : ByteArray) : setBs [s] = [bsT s] := by
 have h1 := setBs_len [s]
 have h2 := (setBs_mem [s] (bsT s)).2 (by simp)
 generalize setBs [s] = l at *
 match l, h1, h2 with
 | [x], _, h2 => simp at h2; rw [h2]
theorem tag_one (s : ByteArray) : tagN [s] = (if Tg.nameB (bsT s) then 0 else 1) := by
 unfold tagN
 cases h : Tg.nameB (bsT s) with
 | true =>
  have hb : badB [s] = false := by simp [badB, h]
  have := tagTx_len [s] hb
  rw [hb, if_neg (by decide), if_neg (by simp at this; omega), if_pos rfl]
 | false =>
  have hb : badB [s] = true := by simp [badB, h]
  rw [hb, if_pos rfl, if_neg (by decide)]
theorem tagS_one (s : ByteArray) (h : Tg.nameB (bsT s) = true) : tagS [s] = bsT s := by
 unfold tagS
 rw [tag_one, if_pos h, if_pos rfl]
 unfold tagTx
 rw [set_one, Lib.join_one]
theorem enamed_any (s : ByteArray) (w : World) :
  Calls Tryz.prog 155 #[.string s] w fun e w' => e = .returned (.bool (Tg.nameB (bsT s))) ∧ Ext w w' := by
 have HT : Hid (∀ (b : Nat) (W : World) (t : TypeId), b = W.heap.size → Calls Tryz.prog 169 #[.slice (some ⟨b, 0, none⟩) 1 1] (W.alloc (.cells #[.string s] t)) fun e w' => e = .returned (.tuple #[.string ⟨(tagS [s]).toArray⟩, .int .i64 (tagN [s])]) ∧ Ext (W.alloc (.cells #[.string s] t)) w') := lh (fun b W t hb => by
  subst hb
  exact ptags_any _ 1 [s] _ (by simp) (by simp) (reads_fresh sE [s] W _ t rfl))
 cases h : Tg.nameB (bsT s) with
 | true =>
  rw [tag_one, tagS_one s h, if_pos h, bs_mk] at HT
  clear h
  go_enter Tryz.func155, Tryz.ntmps155
  go_wp2_with (go_at_call 169; refine (HT.out _ _ _ rfl).mono ?_; rintro e w' ⟨rfl, hxl⟩; obtain ⟨xl, rfl⟩ := hxl.asLater; clear hxl)
  go_ret
  exact ⟨ret_bool (by simp), (by (with_reducible repeat first|exact eR _|apply eD|apply eN|apply eA|apply eO|apply eS|apply eC);all_goals first|omega|simp <;> omega)⟩
 | false =>
  rw [tag_one, if_neg (by rw [h]; decide)] at HT
  generalize (⟨(tagS [s]).toArray⟩ : ByteArray) = T at *
  clear h
  go_enter Tryz.func155, Tryz.ntmps155
  go_wp2_with (go_at_call 169; refine (HT.out _ _ _ rfl).mono ?_; rintro e w' ⟨rfl, hxl⟩; obtain ⟨xl, rfl⟩ := hxl.asLater; clear hxl)
  go_ret
  exact ⟨rfl, (by (with_reducible repeat first|exact eR _|apply eD|apply eN|apply eA|apply eO|apply eS|apply eC);all_goals first|omega|simp <;> omega)⟩
theorem eright_any (p : Pu) (w : World) (hw : p.what.size ≤ 900000) :
  Calls Tryz.prog 116 #[.agg (puC p)] w fun e w' => e = .returned (.bool (okPu p)) ∧ Ext w w' := by
 have HC := lh (fun W => ecanon_any p.what W hw)
 have HK := lh (fun W => contains_one p.what 63 W)
 have HT := lh (fun W => scut_any p.what 58 W hw)
 have HN := lh enamed_any
 have hft := pu_fits p
 by_cases k1 : p.kind = 1
 ·have HO : Hid (okPu p = Ad.canonB (bsT p.what)) := lh (by rw [okPu, if_pos k1])
  have d1 : (p.kind == 1) = true := by simpa using k1
  generalize okPu p = R at *
  generalize Ad.canonB (bsT p.what) = C at *
  clear k1 hw
  go_enter Tryz.func116, Tryz.ntmps116
  go_wp2_with (go_at_call 152; refine (HC.out _).mono ?_; rintro e w' ⟨rfl, hxl⟩; obtain ⟨xl, rfl⟩ := hxl.asLater; clear hxl)
  go_ret
  exact ⟨ret_bool HO.out.symm, (by (with_reducible repeat first|exact eR _|apply eD|apply eN|apply eA|apply eO|apply eS|apply eC);all_goals first|omega|simp <;> omega)⟩
 have d1 : (p.kind == 1) = false := by simpa using k1
 by_cases k2 : p.kind = 2
 ·have HO : Hid (okPu p = (Ad.canonB (bsT p.what) && !((bsT p.what).contains 63))) := lh (by rw [okPu, if_neg k1, if_pos k2])
  have d2 : (p.kind == 2) = true := by simpa using k2
  replace HK : Hid (∀ W, Calls Tryz.prog 153 #[.string p.what, .string ⟨#[63]⟩] W fun e w' => e = .returned (.bool ((bsT p.what).contains 63)) ∧ w' = W) := HK
  generalize okPu p = R at *
  generalize (bsT p.what).contains 63 = K at *
  generalize Ad.canonB (bsT p.what) = C at *
  clear k1 k2 hw
  cases C
  all_goals
   go_enter Tryz.func116, Tryz.ntmps116
   go_wp2_with (first
    | (go_at_call 152; refine (HC.out _).mono ?_; rintro e w' ⟨rfl, hxl⟩; obtain ⟨xl, rfl⟩ := hxl.asLater; clear hxl)
    | (go_at_call 153; refine (HK.out _).mono ?_; rintro e w' ⟨rfl, rfl⟩))
   go_ret
   exact ⟨ret_bool (by rw [HO.out]; simp), (by (with_reducible repeat first|exact eR _|apply eD|apply eN|apply eA|apply eO|apply eS|apply eC);all_goals first|omega|simp <;> omega)⟩
 have d2 : (p.kind == 2) = false := by simpa using k2
 by_cases k3 : p.kind = 3
 ·have d3 : (p.kind == 3) = true := by simpa using k3
  have HO : Hid (okPu p = ((Ad.cutB 58 (bsT p.what)).2.2 && decide ((p.what.size : Int) ≤ 4096) && Tg.nameB (Ad.cutB 58 (bsT p.what)).1 && Tg.nameB (Ad.cutB 58 (bsT p.what)).2.1)) := lh (by rw [okPu, if_neg k1, if_neg k2, if_pos k3])
  generalize okPu p = R at *
  clear k1 k2 k3 HC HK
  go_enter Tryz.func116, Tryz.ntmps116
  go_upto_region 8 with (go_at_call 154; refine (HT.out _).mono ?_; rintro e w' ⟨⟨a, b, f, rfl, h1, h2, h3⟩, hxl⟩; have HA := lh h1; clear h1; obtain ⟨xl, rfl⟩ := hxl.asLater; clear hxl)
  have HA' : Hid (R = (f && decide ((p.what.size : Int) ≤ 4096) && Tg.nameB (bsT a) && Tg.nameB (bsT b))) := lh (by rw [HO.out, ← HA.out])
  have hsz : p.what.size < 9223372036854775808 := by omega
  clear HO HA HT hw
  by_cases hf : f = true
  ·subst hf
   by_cases hl : (p.what.size : Int) ≤ 4096
   ·have dl : decide ((p.what.size : Int) ≤ 4096) = true := by simpa using hl
    rw [dl] at HA'
    cases ea : Tg.nameB (bsT a)
    all_goals
     rw [ea] at HA'
     have EA := lh ea
     clear ea
     go_wp2_with (go_at_call 155; refine (HN.out _ _).mono ?_; rintro e w' ⟨rfl, hxl⟩; (first | rw [EA.out] | skip); obtain ⟨xm, rfl⟩ := hxl.asLater; clear hxl)
     go_ret
     exact ⟨ret_bool (by rw [HA'.out]; simp), (by (with_reducible repeat first|exact eR _|apply eD|apply eN|apply eA|apply eO|apply eS|apply eC);all_goals first|omega|simp <;> omega)⟩
   ·have dl : decide ((p.what.size : Int) ≤ 4096) = false := by simpa using hl
    have HR : Hid (R = false) := lh (by rw [HA'.out, dl]; simp)
    clear HA'
    go_wp2
    go_ret
    exact ⟨ret_bool HR.out.symm, (by (with_reducible repeat first|exact eR _|apply eD|apply eN|apply eA|apply eO|apply eS|apply eC);all_goals first|omega|simp <;> omega)⟩
  ·have hf' : f = false := by simpa using hf
   subst hf'
   have HR : Hid (R = false) := lh (by rw [HA'.out]; simp)
   clear HA' hf
   go_wp2
   go_ret
   exact ⟨ret_bool HR.out.symm, (by (with_reducible repeat first|exact eR _|apply eD|apply eN|apply eA|apply eO|apply eS|apply eC);all_goals first|omega|simp <;> omega)⟩
 have d3 : (p.kind == 3) = false := by simpa using k3
 have HO : Hid (okPu p = false) := lh (by rw [okPu, if_neg k1, if_neg k2, if_neg k3])
 rw [HO.out]
 clear k1 k2 k3 hw HC HK HT HN
 go_enter Tryz.func116, Tryz.ntmps116
 go_wp2
 go_ret
 exact ⟨rfl, (by (with_reducible repeat first|exact eR _|apply eD|apply eN|apply eA|apply eO|apply eS|apply eC);all_goals first|omega|simp <;> omega)⟩
theorem evalid1_any (p : Pu) (w : World) (hw : p.what.size ≤ 900000) :
  Calls Tryz.prog 115 #[.agg (puC p)] w fun e w' => e = .returned (.bool (!okPu p)) ∧ Ext w w' := by
 have H := lh (fun W => eright_any p W hw)
 have hft := pu_fits p
 generalize okPu p = R at *
 clear hw
 go_enter Tryz.func115, Tryz.ntmps115
 go_wp2_with (go_at_call 116; refine (H.out _).mono ?_; rintro e w' ⟨rfl, hxl⟩; obtain ⟨xl, rfl⟩ := hxl.asLater; clear hxl)
 go_ret
 exact ⟨rfl, (by (with_reducible repeat first|exact eR _|apply eD|apply eN|apply eA|apply eO|apply eS|apply eC);all_goals first|omega|simp <;> omega)⟩
theorem pidx_any (A : Option Addr) (c : Nat) (ls : List Pu) (w : World) (hlen : ls.length ≤ 140737488355328) (hr : Reads 3 puL w w.heap.size A ls) (hw : ∀ p ∈ ls, (p.what.size ≤ 900000)) :
  Calls Tryz.prog 151 #[.slice A ls.length c, .func (.func 115) #[] #[]] w fun e w' => ∃ i : Int, e = .returned (.int .i64 i) ∧ (ls.any (fun p => !okPu p) = true → 0 ≤ i) ∧ (ls.any (fun p => !okPu p) = false → i = -1) ∧ Ext w w' := by
 have HR := lh hr
 have HT := lh (fun (k : Nat) (h : k < ls.length) (W : World) => evalid1_any ls[k] W (hw _ (List.getElem_mem h)))
 clear hr hw
 go_enter Tryz.func151, Tryz.ntmps151
 go_wp2
 go_loopw [8] (fun i wr => ∃ k : Nat, k ≤ ls.length ∧ i = .int .i64 k ∧ Ext w wr ∧ Hid ((ls.take k).any (fun p => !okPu p) = false)) (fun i _ => ls.length - (intOf i).toNat)
 case atStart => exact ⟨0, Nat.zero_le _, rfl, eR _, lh rfl⟩
 case round =>
  obtain ⟨k, hk, rfl, hx, HJ⟩ := hrel
  have HX := lh hx
  have hsz := hx.size
  by_cases hlt : k < ls.length
  ·obtain ⟨b, off, rfl, hb, c1⟩ := reads_row puE (HR.out.on hx) k hlt
   have HT1 := lh (HT.out k hlt)
   have HN : Hid ((fun p => !okPu p) ls[k] = false → (ls.take (k + 1)).any (fun p => !okPu p) = false) := lh (fun h => by rw [List.take_succ_eq_append_getElem hlt, List.any_append, HJ.out]; simpa using h)
   have HM : Hid ((fun p => !okPu p) ls[k] = true → ls.any (fun p => !okPu p) = true) := lh (fun h => by
    rw [List.any_eq_true]; exact ⟨ls[k], List.getElem_mem hlt, h⟩)
   change Hid (∀ W, Calls Tryz.prog 115 #[.agg ((puL ls[k]).toArray)] W fun e w' => e = .returned (.bool ((fun p => !okPu p) ls[k])) ∧ Ext W w') at HT1
   generalize (fun p => !okPu p) ls[k] = pk at *
   generalize (puL ls[k]).toArray = s at *
   clear hx
   cases pk with
   | false =>
    have HN2 := lh (HN.out rfl)
    clear HN HM
    go_wp2_with (go_at_call 115; refine (HT1.out _).mono ?_; rintro e w' ⟨rfl, hxl⟩; obtain ⟨xl, rfl⟩ := hxl.asLater; clear hxl)
    go_roundw
    case rel => exact ⟨k + 1, by omega, by go_num, (by (with_reducible repeat first|exact HX.out|exact eR _|apply eD|apply eN|apply eA|apply eO|apply eS|apply eC);all_goals first|omega|simp <;> omega), HN2⟩
    case measure => simp [intOf]; omega
   | true =>
    have HM2 := lh (HM.out rfl)
    clear HN HM
    go_wp2_with (go_at_call 115; refine (HT1.out _).mono ?_; rintro e w' ⟨rfl, hxl⟩; obtain ⟨xl, rfl⟩ := hxl.asLater; clear hxl)
    go_ret
    exact ⟨k, rfl, fun _ => by omega, fun h => (by rw [HM2.out] at h; cases h), (by (with_reducible repeat first|exact HX.out|exact eR _|apply eD|apply eN|apply eA|apply eO|apply eS|apply eC);all_goals first|omega|simp <;> omega)⟩
  ·have HQ : Hid (ls.any (fun p => !okPu p) = false) := lh (by have h := HJ.out; rwa [List.take_of_length_le (by omega)] at h)
   go_wp2
   go_ret
   exact ⟨-1, rfl, fun h => (by rw [HQ.out] at h; cases h), fun _ => rfl, HX.out⟩
theorem pcont_any (A : Option Addr) (c : Nat) (ls : List Pu) (w : World) (hlen : ls.length ≤ 140737488355328) (hr : Reads 3 puL w w.heap.size A ls) (hw : ∀ p ∈ ls, (p.what.size ≤ 900000)) :
  Calls Tryz.prog 114 #[.slice A ls.length c, .func (.func 115) #[] #[]] w fun e w' => e = .returned (.bool (ls.any (fun p => !okPu p))) ∧ Ext w w' := by
 have H := lh (pidx_any A c ls w hlen hr hw)
 clear hr hw
 generalize ls.any (fun p => !okPu p) = R at *
 cases R with
 | true =>
  go_enter Tryz.func114, Tryz.ntmps114
  go_wp2_with (go_at_call 151; refine H.out.mono ?_; rintro e w' ⟨i, rfl, h1, h2, hxl⟩; have h3 := h1 rfl; clear h1 h2; obtain ⟨xl, rfl⟩ := hxl.asLater; clear hxl)
  go_ret
  exact ⟨ret_bool (by first | (simp; done) | (simp; omega)), (by (with_reducible repeat first|exact eR _|apply eD|apply eN|apply eA|apply eO|apply eS|apply eC);all_goals first|omega|simp <;> omega)⟩
 | false =>
  go_enter Tryz.func114, Tryz.ntmps114
  go_wp2_with (go_at_call 151; refine H.out.mono ?_; rintro e w' ⟨i, rfl, h1, h2, hxl⟩; obtain rfl := h2 rfl; clear h1 h2; obtain ⟨xl, rfl⟩ := hxl.asLater; clear hxl)
  go_ret
  exact ⟨rfl, (by (with_reducible repeat first|exact eR _|apply eD|apply eN|apply eA|apply eO|apply eS|apply eC);all_goals first|omega|simp <;> omega)⟩
theorem evalid_any (e : Ep) (w : World) (ha : EpAt w e) (hl : e.pu.length ≤ 100000) (hr : e.rv.length ≤ 9223372036854775807) (hw : ∀ p ∈ e.pu, p.what.size ≤ 900000) :
  Calls Tryz.prog 57 #[.agg (epC e)] w fun e' w' => e' = .returned (.bool (okEp e)) ∧ Ext w w' := by
 have HC := lh (fun (W : World) (hx : Ext w W) => pcont_any e.PA e.pc e.pu W (by omega) (ha.pu.on hx) hw)
 have HV : Hid (∀ W : World, Calls Tryz.prog 49 #[.agg #[.int .i64 e.lo, .int .i64 e.hi]] W fun e' w' => e' = .returned (.bool (okClk ⟨e.lo, e.hi⟩)) ∧ Ext W w') := lh (fun W => cvalid_any ⟨e.lo, e.hi⟩ W)
 have HO : Hid (okEp e = (decide (e.num ≥ 1) && decide (e.num ≤ 1099511627776) && okClk ⟨e.lo, e.hi⟩ && decide (max (e.pu.length : Int) (e.rv.length : Int) ≤ 1000) && e.pu.all okPu)) := lh rfl
 have HA : Hid ((e.pu.any fun p => !okPu p) = !(e.pu.all okPu)) := lh (by simp [List.all_eq_not_any_not])
 rw [HA.out] at HC
 have hft := ep_fits e
 generalize okEp e = R at *
 generalize okClk ⟨e.lo, e.hi⟩ = C at *
 generalize e.pu.all okPu = P at *
 clear ha hw HA
 go_enter Tryz.func57, Tryz.ntmps57
 cases C
 all_goals
  go_wp2_with (first
   | (go_at_call 49; refine (HV.out _).mono ?_; rintro e w' ⟨rfl, hxl⟩; obtain ⟨xm, rfl⟩ := hxl.asLater; clear hxl)
   | (go_at_call 114; refine (HC.out _ (by (with_reducible repeat first|exact eR _|apply eD|apply eN|apply eA|apply eO|apply eS|apply eC);all_goals first|omega|simp <;> omega)).mono ?_; rintro e w' ⟨rfl, hxl⟩; obtain ⟨xn, rfl⟩ := hxl.asLater; clear hxl))
 all_goals
  go_ret
  exact ⟨ret_bool (by have h := HO.out; clear HO; subst h; first | rfl | (simp [*]; done) | (simp [*]; omega) | omega), (by (with_reducible repeat first|exact eR _|apply eD|apply eN|apply eA|apply eO|apply eS|apply eC);all_goals first|omega|simp <;> omega)⟩
theorem rct_ty : RowTy Tryz.prog 193 3 := ⟨by kernel_rfl, by kernel_rfl⟩
theorem rct_ld (w : World) (b o : Nat) : (rowLoad 193 3 (.pointer (some ⟨b, o, none⟩))).run Tryz.prog w = rowLoadR Tryz.prog w 193 3 b o (rowOf w b o 3) := run_rowLoad rct_ty w b o
theorem rct_st (w : World) (b o : Nat) (cells : Array Value) : (rowStore 193 3 (.pointer (some ⟨b, o, none⟩)) (.agg cells)).run Tryz.prog w = rowStoreR Tryz.prog w 193 3 b o cells (roomOf w b o 3 && fitsRow 3 cells) := run_rowStore rct_ty w b o cells
theorem rct_xl (ρ : Operand → Value) (dst : Option Tmp) (x : Operand) (t : TypeId) (pos : String) (after : Array Edge) (guard : Option (Nat × Bool)) : execOp ρ { dst, op := .load 193 x, type := t, pos, after, guard } = rowLoad 193 3 (ρ x) := rfl
theorem rct_xs (ρ : Operand → Value) (dst : Option Tmp) (x y : Operand) (t : TypeId) (pos : String) (after : Array Edge) (guard : Option (Nat × Bool)) : execOp ρ { dst, op := .store 193 x y, type := t, pos, after, guard } = rowStore 193 3 (ρ x) (ρ y) := rfl
theorem rct_xa (ρ : Operand → Value) (dst : Option Tmp) (t : TypeId) (pos : String) (after : Array Edge) (guard : Option (Nat × Bool)) : execOp ρ { dst, op := .alloc 193, type := t, pos, after, guard } = rowAlloc 193 := rfl
attribute [go_sem ↓] rct_xl rct_xs rct_xa
attribute [go_sem] rct_ld rct_st
def rcB3 (x y z : Value) : Sem Next := do pure (.value (← Instr.build 193 #[(0, x), (1, y), (2, z)]))
theorem rcB3_x (ρ : Operand → Value) (dst : Option Tmp) (x y z : Operand) (t : TypeId) (pos : String) (after : Array Edge) (guard : Option (Nat × Bool)) : execOp ρ { dst, op := .build 193 #[(0, x), (1, y), (2, z)], type := t, pos, after, guard } = rcB3 (ρ x) (ρ y) (ρ z) := by kernel_rfl
def rcB1 (x : Value) : Sem Next := do pure (.value (← Instr.build 193 #[(0, x)]))
theorem rcB1_x (ρ : Operand → Value) (dst : Option Tmp) (x : Operand) (t : TypeId) (pos : String) (after : Array Edge) (guard : Option (Nat × Bool)) : execOp ρ { dst, op := .build 193 #[(0, x)], type := t, pos, after, guard } = rcB1 (ρ x) := by kernel_rfl
attribute [go_sem ↓] rcB3_x rcB1_x
def cfB5 (a b c d e : Value) : Sem Next := do pure (.value (← Instr.build 51 #[(0, a), (1, b), (2, c), (3, d), (4, e)]))
theorem cfB5_x (ρ : Operand → Value) (dst : Option Tmp) (a b c d e : Operand) (t : TypeId) (pos : String) (after : Array Edge) (guard : Option (Nat × Bool)) : execOp ρ { dst, op := .build 51 #[(0, a), (1, b), (2, c), (3, d), (4, e)], type := t, pos, after, guard } = cfB5 (ρ a) (ρ b) (ρ c) (ρ d) (ρ e) := by kernel_rfl
attribute [go_sem ↓] cfB5_x
theorem cfB5_run (n m lo hi s : Int) (d : List Int) (W : World) : (cfB5 (.int .i64 n) (.int .i64 m) (.agg (dgC d)) (.agg #[.int .i64 lo, .int .i64 hi]) (.int .i64 s)).run Tryz.prog W = .ok (.value (.agg (cfC ⟨n, m, d, lo, hi, s, zeros32 16⟩))) W := by kernel_rfl
def cfB0 : Sem Next := do pure (.value (← Instr.build 51 #[]))
theorem cfB0_x (ρ : Operand → Value) (dst : Option Tmp) (t : TypeId) (pos : String) (after : Array Edge) (guard : Option (Nat × Bool)) : execOp ρ { dst, op := .build 51 #[], type := t, pos, after, guard } = cfB0 := by kernel_rfl
attribute [go_sem ↓] cfB0_x
theorem cfB0_run (W : World) : cfB0.run Tryz.prog W = .ok (.value (.agg (cfC noCf))) W := by kernel_rfl
attribute [go_sem] cfB5_run cfB0_run
theorem cf_seal_set (s : Cf) (D : List Int) : laidOver (cfC s) 21 (dgC D).toList = cfC { s with sl := D } := by kernel_rfl
theorem cf_loaded {w : World} {b : Nat} {x : Cf} (h : rowOf w b 0 37 = some (cfC x)) : (loadVar 51 ⟨b, 0, none⟩).run Tryz.prog w = .ok (.agg (cfC x)) w := run_loadVar_row cf_ty h
def cfOf (k : Ky) (n : Int) (e : Ep) (at_ : Clk) : Cf := ⟨n, e.num, epName e, at_.lo, at_.hi, k.serial, zeros32 16⟩
noncomputable def cfSeal (k : Ky) (c : Cf) : Cf := { c with sl := makeN k 320 (cfParts c) }
def confirmB (k : Ky) (n : Int) (e : Ep) (at_ : Clk) : Bool := siteB n && okKy k && decide (k.party = 1000 + n) && okEp e && okClk at_
noncomputable def confirmN (k : Ky) (n : Int) (e : Ep) (at_ : Clk) : Cf × Int := if confirmB k n e at_ = true then (cfSeal k (cfOf k n e at_), 0) else (noCf, 1)
theorem zeros_ok : DgOk (zeros32 16) := ⟨rfl, by intro x hx; simp [zeros32] at hx; subst hx; omega⟩
theorem okEp_num {e : Ep} (h : okEp e = true) : 1 ≤ e.num ∧ e.num ≤ 1099511627776 := by
 simp only [okEp, Bool.and_eq_true, decide_eq_true_eq] at h
 exact ⟨h.1.1.1.1, h.1.1.1.2⟩
theorem okClk_lims {k : Clk} (h : okClk k = true) : 0 ≤ k.lo ∧ k.lo ≤ k.hi ∧ k.hi ≤ 1099511627776 := by
 simp only [okClk, Bool.and_eq_true, decide_eq_true_eq] at h
 omega
theorem cfOf_ok {k : Ky} {n : Int} {e : Ep} {at_ : Clk} (h : confirmB k n e at_ = true) : CfOk (cfOf k n e at_) := by
 simp only [confirmB, Bool.and_eq_true, decide_eq_true_eq] at h
 obtain ⟨⟨⟨⟨h1, h2⟩, h3⟩, h4⟩, h5⟩ := h
 have g1 := siteB_is.1 h1
 have g2 := okKy_lims h2
 have g4 := okEp_num h4
 have g5 := okClk_lims h5
 refine ⟨⟨epName_len e, epName_byt e⟩, zeros_ok, ?_⟩
 intro x hx
 simp only [cfInts, cfOf, List.mem_cons, List.not_mem_nil, or_false] at hx
 unfold i64
 rcases hx with rfl | rfl | rfl | rfl | rfl <;> omega
theorem confirm_lens {k : Ky} {n : Int} {e : Ep} {at_ : Clk} (h : confirmB k n e at_ = true) : lens ([k.secret] ++ cfParts (cfOf k n e at_) ++ [k.secret]) < 8796093022208 := by
 have h1 := cfParts_lens (cfOf_ok h)
 simp only [confirmB, Bool.and_eq_true, decide_eq_true_eq] at h
 have g2 := okKy_lims h.1.1.1.2
 exact lens_key (by omega) (by omega)
theorem aconfirm_any (k : Ky) (n : Int) (e : Ep) (p : Clk) (w : World) (hks : k.secret.size < 9223372036854775808) (hok : EpOk e) (hs : EpShort e) (ha : EpAt w e) (hk : KonstP w) :
  Calls Tryz.prog 17 #[.agg (kyC k), .int .i64 n, .agg (epC e), .agg (clkC p)] w fun r w' => r = .returned (.tuple #[.agg (cfC (confirmN k n e p).1), .int .i64 (confirmN k n e p).2]) ∧ Ext w w' := by
 have HS := lh (fun W => asite_any n W)
 have HKv := lh (fun W => kvalid_any k W hks)
 have HEv := lh (fun (W : World) (hx : Ext w W) => evalid_any e W (ha.on hx) (by have := hs.pu; omega) hok.rvl (fun p hp => by have := hs.what p hp; omega))
 have HCv := lh (fun W : World => cvalid_any p W)
 have HNm := lh (fun (W : World) (hx : Ext w W) => ename_any e W hok hs (ha.on hx) (RowAt.ext hk hx))
 have HPt := lh (fun (h : confirmB k n e p = true) W => cparts_any (cfOf k n e p) W (cfOf_ok h))
 have HMk := lh (fun (h : confirmB k n e p = true) (A : Option Addr) (c : Nat) (W : World) (h1 : ReadsStr W W.heap.size A (cfParts (cfOf k n e p))) (h2 : A = none → c = 0) (hx : Ext w W) => smake_any k 320 A c (cfParts (cfOf k n e p)) W h1 h2 (confirm_lens h) (RowAt.ext hk hx))
 have HO : Hid (confirmN k n e p = if confirmB k n e p = true then (cfSeal k (cfOf k n e p), 0) else (noCf, 1)) := lh rfl
 have HB : Hid (confirmB k n e p = (siteB n && okKy k && decide (k.party = 1000 + n) && okEp e && okClk p)) := lh rfl
 have hfk := ky_fits k
 have hfe := ep_fits e
 have hf0 := cf_fits noCf
 have HNo : Hid (confirmB k n e p = false → confirmN k n e p = (noCf, 1)) := lh (fun h => by rw [HO.out, h]; simp)
 clear hks hok hs ha hk
 cases bs : siteB n with
 | false =>
  have HR := lh (HNo.out (by rw [HB.out, bs]; simp))
  rw [bs] at HS
  generalize confirmN k n e p = R at *
  clear HPt HMk HO HB HNo HNm
  obtain ⟨p0, p1⟩ := p
  go_enter Tryz.func17, Tryz.ntmps17
  go_upto_region 2 with (first
   | (go_at_call 56; refine (HS.out _).mono ?_; rintro e w' ⟨rfl, hxl⟩; obtain ⟨xm, rfl⟩ := hxl.asLater; clear hxl)
   | (go_at_call 48; refine (HKv.out _).mono ?_; rintro e w' ⟨rfl, hxl⟩; obtain ⟨xn, rfl⟩ := hxl.asLater; clear hxl)
   | (go_at_call 57; refine (HEv.out _ (by (with_reducible repeat first|exact eR _|apply eD|apply eN|apply eA|apply eO|apply eS|apply eC);all_goals first|omega|simp <;> omega)).mono ?_; rintro e w' ⟨rfl, hxl⟩; obtain ⟨xo, rfl⟩ := hxl.asLater; clear hxl)
   | (go_at_call 49; refine (HCv.out _).mono ?_; rintro e w' ⟨rfl, hxl⟩; obtain ⟨xp, rfl⟩ := hxl.asLater; clear hxl))
  refine wp_world (fun W => Ext w W ∧ RowAt W (w.heap.size + 1 + 1 + 1) (cfC noCf)) ⟨(by (with_reducible repeat first|exact eR _|apply eD|apply eN|apply eA|apply eO|apply eS|apply eC);all_goals first|omega|simp <;> omega), (RowAt.newAt (by simp)).later _⟩ ?_
  rintro W1 ⟨x1, uR⟩
  have HX1 := lh x1
  have HUR := lh uR
  have hlr := uR.lt
  have hrm : roomOf W1 (w.heap.size + 1 + 1 + 1) 0 37 = true := by rw [uR.room]; rfl
  clear x1 uR
  go_wp2
  rw [HR.out]
  refine post_two (v1 := .agg (cfC noCf)) (v2 := .int .i64 1) Tryz.results17 rfl ⟨_, rfl, cf_loaded ((HUR.out.store (ds := cfC noCf) rfl).all rfl (by omega))⟩ rfl ⟨rfl, (by (with_reducible repeat first|exact HX1.out|exact eR _|apply eD|apply eN|apply eA|apply eO|apply eS|apply eC);all_goals first|omega|simp <;> omega)⟩
 | true =>
  obtain ⟨n0, n1⟩ := siteB_is.1 bs
  cases bk : okKy k with
  | false =>
   have HR := lh (HNo.out (by rw [HB.out, bk]; simp))
   rw [bs] at HS
   rw [bk] at HKv
   generalize confirmN k n e p = R at *
   clear HPt HMk HO HB HNo HNm
   obtain ⟨p0, p1⟩ := p
   go_enter Tryz.func17, Tryz.ntmps17
   go_upto_region 2 with (first
    | (go_at_call 56; refine (HS.out _).mono ?_; rintro e w' ⟨rfl, hxl⟩; obtain ⟨xm, rfl⟩ := hxl.asLater; clear hxl)
    | (go_at_call 48; refine (HKv.out _).mono ?_; rintro e w' ⟨rfl, hxl⟩; obtain ⟨xn, rfl⟩ := hxl.asLater; clear hxl)
    | (go_at_call 57; refine (HEv.out _ (by (with_reducible repeat first|exact eR _|apply eD|apply eN|apply eA|apply eO|apply eS|apply eC);all_goals first|omega|simp <;> omega)).mono ?_; rintro e w' ⟨rfl, hxl⟩; obtain ⟨xo, rfl⟩ := hxl.asLater; clear hxl)
    | (go_at_call 49; refine (HCv.out _).mono ?_; rintro e w' ⟨rfl, hxl⟩; obtain ⟨xp, rfl⟩ := hxl.asLater; clear hxl))
   refine wp_world (fun W => Ext w W ∧ RowAt W (w.heap.size + 1 + 1 + 1) (cfC noCf)) ⟨(by (with_reducible repeat first|exact eR _|apply eD|apply eN|apply eA|apply eO|apply eS|apply eC);all_goals first|omega|simp <;> omega), (RowAt.newAt (by simp)).later _⟩ ?_
   rintro W1 ⟨x1, uR⟩
   have HX1 := lh x1
   have HUR := lh uR
   have hlr := uR.lt
   have hrm : roomOf W1 (w.heap.size + 1 + 1 + 1) 0 37 = true := by rw [uR.room]; rfl
   clear x1 uR
   go_wp2
   rw [HR.out]
   refine post_two (v1 := .agg (cfC noCf)) (v2 := .int .i64 1) Tryz.results17 rfl ⟨_, rfl, cf_loaded ((HUR.out.store (ds := cfC noCf) rfl).all rfl (by omega))⟩ rfl ⟨rfl, (by (with_reducible repeat first|exact HX1.out|exact eR _|apply eD|apply eN|apply eA|apply eO|apply eS|apply eC);all_goals first|omega|simp <;> omega)⟩
  | true =>
   by_cases bp : k.party = 1000 + n
   ·have e0 : (k.party != 1000 + n) = false := by simpa using bp
    cases be : okEp e with
    | false =>
     have HR := lh (HNo.out (by rw [HB.out, be]; simp))
     rw [bs] at HS
     rw [bk] at HKv
     rw [be] at HEv
     clear bp
     generalize confirmN k n e p = R at *
     clear HPt HMk HO HB HNo HNm
     obtain ⟨p0, p1⟩ := p
     go_enter Tryz.func17, Tryz.ntmps17
     go_upto_region 2 with (first
      | (go_at_call 56; refine (HS.out _).mono ?_; rintro e w' ⟨rfl, hxl⟩; obtain ⟨xm, rfl⟩ := hxl.asLater; clear hxl)
      | (go_at_call 48; refine (HKv.out _).mono ?_; rintro e w' ⟨rfl, hxl⟩; obtain ⟨xn, rfl⟩ := hxl.asLater; clear hxl)
      | (go_at_call 57; refine (HEv.out _ (by (with_reducible repeat first|exact eR _|apply eD|apply eN|apply eA|apply eO|apply eS|apply eC);all_goals first|omega|simp <;> omega)).mono ?_; rintro e w' ⟨rfl, hxl⟩; obtain ⟨xo, rfl⟩ := hxl.asLater; clear hxl)
      | (go_at_call 49; refine (HCv.out _).mono ?_; rintro e w' ⟨rfl, hxl⟩; obtain ⟨xp, rfl⟩ := hxl.asLater; clear hxl))
     refine wp_world (fun W => Ext w W ∧ RowAt W (w.heap.size + 1 + 1 + 1) (cfC noCf)) ⟨(by (with_reducible repeat first|exact eR _|apply eD|apply eN|apply eA|apply eO|apply eS|apply eC);all_goals first|omega|simp <;> omega), (RowAt.newAt (by simp)).later _⟩ ?_
     rintro W1 ⟨x1, uR⟩
     have HX1 := lh x1
     have HUR := lh uR
     have hlr := uR.lt
     have hrm : roomOf W1 (w.heap.size + 1 + 1 + 1) 0 37 = true := by rw [uR.room]; rfl
     clear x1 uR
     go_wp2
     rw [HR.out]
     refine post_two (v1 := .agg (cfC noCf)) (v2 := .int .i64 1) Tryz.results17 rfl ⟨_, rfl, cf_loaded ((HUR.out.store (ds := cfC noCf) rfl).all rfl (by omega))⟩ rfl ⟨rfl, (by (with_reducible repeat first|exact HX1.out|exact eR _|apply eD|apply eN|apply eA|apply eO|apply eS|apply eC);all_goals first|omega|simp <;> omega)⟩
    | true =>
     cases bc : okClk p with
     | false =>
      have HR := lh (HNo.out (by rw [HB.out, bc]; simp))
      rw [bs] at HS
      rw [bk] at HKv
      rw [be] at HEv
      rw [bc] at HCv
      clear bp
      generalize confirmN k n e p = R at *
      clear HPt HMk HO HB HNo HNm
      obtain ⟨p0, p1⟩ := p
      go_enter Tryz.func17, Tryz.ntmps17
      go_upto_region 2 with (first
       | (go_at_call 56; refine (HS.out _).mono ?_; rintro e w' ⟨rfl, hxl⟩; obtain ⟨xm, rfl⟩ := hxl.asLater; clear hxl)
       | (go_at_call 48; refine (HKv.out _).mono ?_; rintro e w' ⟨rfl, hxl⟩; obtain ⟨xn, rfl⟩ := hxl.asLater; clear hxl)
       | (go_at_call 57; refine (HEv.out _ (by (with_reducible repeat first|exact eR _|apply eD|apply eN|apply eA|apply eO|apply eS|apply eC);all_goals first|omega|simp <;> omega)).mono ?_; rintro e w' ⟨rfl, hxl⟩; obtain ⟨xo, rfl⟩ := hxl.asLater; clear hxl)
       | (go_at_call 49; refine (HCv.out _).mono ?_; rintro e w' ⟨rfl, hxl⟩; obtain ⟨xp, rfl⟩ := hxl.asLater; clear hxl))
      refine wp_world (fun W => Ext w W ∧ RowAt W (w.heap.size + 1 + 1 + 1) (cfC noCf)) ⟨(by (with_reducible repeat first|exact eR _|apply eD|apply eN|apply eA|apply eO|apply eS|apply eC);all_goals first|omega|simp <;> omega), (RowAt.newAt (by simp)).later _⟩ ?_
      rintro W1 ⟨x1, uR⟩
      have HX1 := lh x1
      have HUR := lh uR
      have hlr := uR.lt
      have hrm : roomOf W1 (w.heap.size + 1 + 1 + 1) 0 37 = true := by rw [uR.room]; rfl
      clear x1 uR
      go_wp2
      rw [HR.out]
      refine post_two (v1 := .agg (cfC noCf)) (v2 := .int .i64 1) Tryz.results17 rfl ⟨_, rfl, cf_loaded ((HUR.out.store (ds := cfC noCf) rfl).all rfl (by omega))⟩ rfl ⟨rfl, (by (with_reducible repeat first|exact HX1.out|exact eR _|apply eD|apply eN|apply eA|apply eO|apply eS|apply eC);all_goals first|omega|simp <;> omega)⟩
     | true =>
      have hB1 : confirmB k n e p = true := by rw [HB.out, bs, bk, be, bc, decide_eq_true bp]; rfl
      have HR := lh (show confirmN k n e p = (cfSeal k (cfOf k n e p), 0) by rw [HO.out, if_pos hB1])
      have HPt' := lh (HPt.out hB1)
      have HMk' := lh (HMk.out hB1)
      have HSl : Hid (cfSeal k (cfOf k n e p) = { cfOf k n e p with sl := makeN k 320 (cfParts (cfOf k n e p)) }) := lh rfl
      have HC0 : Hid (cfOf k n e p = ⟨n, e.num, epName e, p.lo, p.hi, k.serial, zeros32 16⟩) := lh rfl
      rw [bs] at HS
      rw [bk] at HKv
      rw [be] at HEv
      rw [bc] at HCv
      generalize cfOf k n e p = c at *
      generalize makeN k 320 (cfParts c) = D at *
      generalize cfSeal k c = cs at *
      generalize confirmN k n e p = R at *
      have hfd : fitsRow 16 (dgC (epName e)) = true := by simp [fitsRow, dgC, Value.oneCell']
      have hfD : fitsRow 16 (dgC D) = true := by simp [fitsRow, dgC, Value.oneCell']
      generalize epName e = N at *
      clear HPt HMk HO HB HNo bs bk bp be bc hB1
      obtain ⟨p0, p1⟩ := p
      go_enter Tryz.func17, Tryz.ntmps17
      go_upto_region 3 with (first
       | (go_at_call 56; refine (HS.out _).mono ?_; rintro e w' ⟨rfl, hxl⟩; obtain ⟨xm, rfl⟩ := hxl.asLater; clear hxl)
       | (go_at_call 48; refine (HKv.out _).mono ?_; rintro e w' ⟨rfl, hxl⟩; obtain ⟨xn, rfl⟩ := hxl.asLater; clear hxl)
       | (go_at_call 57; refine (HEv.out _ (by (with_reducible repeat first|exact eR _|apply eD|apply eN|apply eA|apply eO|apply eS|apply eC);all_goals first|omega|simp <;> omega)).mono ?_; rintro e w' ⟨rfl, hxl⟩; obtain ⟨xo, rfl⟩ := hxl.asLater; clear hxl)
       | (go_at_call 49; refine (HCv.out _).mono ?_; rintro e w' ⟨rfl, hxl⟩; obtain ⟨xp, rfl⟩ := hxl.asLater; clear hxl))
      refine wp_world (fun W => Ext w W ∧ RowAt W w.heap.size (kyC k) ∧ RowAt W (w.heap.size + 1) (epC e) ∧ RowAt W (w.heap.size + 1 + 1) #[.int .i64 p0, .int .i64 p1] ∧ RowAt W (w.heap.size + 1 + 1 + 1) (cfC noCf)) ⟨(by (with_reducible repeat first|exact eR _|apply eD|apply eN|apply eA|apply eO|apply eS|apply eC);all_goals first|omega|simp <;> omega), ?_, ?_, ?_, ?_⟩ ?_
      ·exact ((((RowAt.new _ _ _).alloc _).alloc _).alloc _).later _
      ·exact (((RowAt.newAt (by simp)).alloc _).alloc _).later _
      ·exact ((RowAt.newAt (by simp)).alloc _).later _
      ·exact (RowAt.newAt (by simp)).later _
      obtain ⟨B, hB⟩ : ∃ B, w.heap.size = B := ⟨_, rfl⟩
      rw [hB]
      rintro W1 ⟨x1, uB, uE, uP, uR⟩
      have HX1 := lh x1
      have HUB := lh uB
      have HUR := lh uR
      have hlu := uR.lt
      have qE_0 : W1.cell? ⟨B+1, 0, none⟩ = some (.int .i64 e.num) := (uE.cell 0).trans (ep_g0 e)
      have kE_0_38 : rowOf W1 (B+1) 0 38 = some (epC e) := uE.all rfl (by omega)
      have qP_0 : W1.cell? ⟨B+1+1, 0, none⟩ = some (.int .i64 p0) := uP.cell 0
      have qP_1 : W1.cell? ⟨B+1+1, 1, none⟩ = some (.int .i64 p1) := uP.cell 1
      have qB_1 : W1.cell? ⟨B, 1, none⟩ = some (.int .i64 k.serial) := (uB.cell 1).trans (ky_g1 k)
      clear x1 uB uE uP uR
      have hfc := cf_fits ⟨n, e.num, N, p0, p1, k.serial, zeros32 16⟩
      refine wp_region_rowN 11 (by kernel_rfl) 9 10 (fun i => ([.int .i64 n, .pointer (some ⟨B+1, 0, none⟩), .int .i64 e.num, .agg (epC e), .agg (dgC N), .agg #[.int .i64 p0, .int .i64 p1], .pointer (some ⟨B, 1, none⟩), .int .i64 k.serial, .agg (cfC ⟨n, e.num, N, p0, p1, k.serial, zeros32 16⟩), undef, undef] : List Value).getD i undef) (cfC ⟨n, e.num, N, p0, p1, k.serial, zeros32 16⟩) (by kernel_rfl) (by kernel_rfl) (by decide) (dk (by kernel_rfl)) (dk (by kernel_rfl)) (dk (by kernel_rfl)) (lt_cons ?_ (lt_cons ?_ (lt_cons ?_ (lt_cons ?_ (lt_cons ?_ (lt_cons ?_ (lt_cons ?_ (lt_cons ?_ (lt_cons ?_ (lt_cons ?_ (lt_cons ?_ (lt_none)))))))))))) ?_ ?_ ?_
      ·
       intro _ _
       refine sop rfl fun xs W HW hsW HD Q' HQ => ?_; simp only [fillAt, dstOf, lc0, lcs, obs, Act.put, lsa, lsz, lss, nz, Nat.reduceAdd] at HQ ⊢
       go_wp2
       exact HQ.out _ _ (eR _) rfl
      ·
       intro _ _
       refine sop rfl fun xs W HW hsW HD Q' HQ => ?_; simp only [fillAt, dstOf, lc0, lcs, obs, Act.put, lsa, lsz, lss, nz, Nat.reduceAdd] at HQ ⊢
       go_wp2
       exact HQ.out _ _ (eR _) rfl
      ·
       intro _ _
       refine sop rfl fun xs W HW hsW HD Q' HQ => ?_; simp only [fillAt, dstOf, lc0, lcs, obs, Act.put, lsa, lsz, lss, nz, Nat.reduceAdd] at HQ ⊢
       have hd1 : xs 1 = .pointer (some ⟨B+1, 0, none⟩) := (HD.out 1 (dk (by kernel_rfl)))
       generalize xs 1 = x1 at hd1 HQ ⊢; subst hd1
       have hc : W.cell? ⟨B+1, 0, none⟩ = some (.int .i64 e.num) := (HW.out.cell (p := ⟨B+1, 0, none⟩) (by show B+1 < _; omega)).trans qE_0
       go_wp2
       exact HQ.out _ _ (eR _) rfl
      ·
       intro _ _
       refine sop rfl fun xs W HW hsW HD Q' HQ => ?_; simp only [fillAt, dstOf, lc0, lcs, obs, Act.put, lsa, lsz, lss, nz, Nat.reduceAdd] at HQ ⊢
       have hc := (row_extW HW.out (b := B+1) (by omega) 0 38).trans kE_0_38
       go_wp2
       exact HQ.out _ _ (eR _) rfl
      ·
       intro _ _
       refine sop rfl fun xs W HW hsW HD Q' HQ => ?_; simp only [fillAt, dstOf, lc0, lcs, obs, Act.put, lsa, lsz, lss, nz, Nat.reduceAdd] at HQ ⊢
       have hd3 : xs 3 = .agg (epC e) := (HD.out 3 (dk (by kernel_rfl)))
       generalize xs 3 = x3 at hd3 HQ ⊢; subst hd3
       go_wp2_with (go_at_call 58; refine (HNm.out _ (HX1.out.trans HW.out)).mono ?_; rintro e w1 ⟨rfl, hx⟩)
       exact HQ.out _ _ hx rfl
      ·
       intro _ _
       refine sop rfl fun xs W HW hsW HD Q' HQ => ?_; simp only [fillAt, dstOf, lc0, lcs, obs, Act.put, lsa, lsz, lss, nz, Nat.reduceAdd] at HQ ⊢
       have hc := (HW.out.cell (p := ⟨B+1+1, 0, none⟩) (by show B+1+1 < _; omega)).trans qP_0
       have hc2 := (HW.out.cell (p := ⟨B+1+1, 1, none⟩) (by show B+1+1 < _; omega)).trans qP_1
       go_wp2
       exact HQ.out _ _ (eR _) rfl
      ·
       intro _ _
       refine sop rfl fun xs W HW hsW HD Q' HQ => ?_; simp only [fillAt, dstOf, lc0, lcs, obs, Act.put, lsa, lsz, lss, nz, Nat.reduceAdd] at HQ ⊢
       go_wp2
       exact HQ.out _ _ (eR _) rfl
      ·
       intro _ _
       refine sop rfl fun xs W HW hsW HD Q' HQ => ?_; simp only [fillAt, dstOf, lc0, lcs, obs, Act.put, lsa, lsz, lss, nz, Nat.reduceAdd] at HQ ⊢
       have hd6 : xs 6 = .pointer (some ⟨B, 1, none⟩) := (HD.out 6 (dk (by kernel_rfl)))
       generalize xs 6 = x6 at hd6 HQ ⊢; subst hd6
       have hc : W.cell? ⟨B, 1, none⟩ = some (.int .i64 k.serial) := (HW.out.cell (p := ⟨B, 1, none⟩) (by show B < _; omega)).trans qB_1
       go_wp2
       exact HQ.out _ _ (eR _) rfl
      ·
       intro _ _
       refine sop rfl fun xs W HW hsW HD Q' HQ => ?_; simp only [fillAt, dstOf, lc0, lcs, obs, Act.put, lsa, lsz, lss, nz, Nat.reduceAdd] at HQ ⊢
       have hd0 : xs 0 = .int .i64 n := (HD.out 0 (dk (by kernel_rfl)))
       generalize xs 0 = x0 at hd0 HQ ⊢; subst hd0
       have hd2 : xs 2 = .int .i64 e.num := (HD.out 2 (dk (by kernel_rfl)))
       generalize xs 2 = x2 at hd2 HQ ⊢; subst hd2
       have hd4 : xs 4 = .agg (dgC N) := (HD.out 4 (dk (by kernel_rfl)))
       generalize xs 4 = x4 at hd4 HQ ⊢; subst hd4
       have hd5 : xs 5 = .agg #[.int .i64 p0, .int .i64 p1] := (HD.out 5 (dk (by kernel_rfl)))
       generalize xs 5 = x5 at hd5 HQ ⊢; subst hd5
       have hd7 : xs 7 = .int .i64 k.serial := (HD.out 7 (dk (by kernel_rfl)))
       generalize xs 7 = x7 at hd7 HQ ⊢; subst hd7
       go_wp2
       exact HQ.out _ _ (eR _) rfl
      ·exact fun h => absurd rfl h
      ·exact fun _ h => absurd rfl h
      ·
       refine sop rfl fun xs W HW hsW HD Q' HQ => ?_; simp only [fillAt, dstOf, lc0, lcs, obs, Act.put, lsa, lsz, lss, nz, Nat.reduceAdd] at HQ ⊢
       go_wp2
       exact HQ.out _ _ ((eR _).alloc _) ⟨W.heap.size, rfl, by omega, _, RowAt.new _ _ _, rfl⟩
      ·
       refine sop rfl fun xs W HW hsW HD Q' HQ => ?_; simp only [fillAt, dstOf, lc0, lcs, obs, Act.put, lsa, lsz, lss, nz, Nat.reduceAdd] at HQ ⊢
       have hdv : xs 8 = .agg (cfC ⟨n, e.num, N, p0, p1, k.serial, zeros32 16⟩) := (HD.out 8 (dk (by kernel_rfl)))
       obtain ⟨bb, hxa, hbb, ds, hrb, hzb⟩ : ∃ b, xs 9 = .pointer (some ⟨b, 0, none⟩) ∧ W1.heap.size ≤ b ∧ ∃ ds, RowAt W b ds ∧ ds.size = (cfC ⟨n, e.num, N, p0, p1, k.serial, zeros32 16⟩).size := (HD.out 9 (dk (by kernel_rfl)))
       have hrm : roomOf W bb 0 37 = true := by rw [hrb.room, hzb]; rfl
       generalize xs 8 = x8 at hdv HQ ⊢; subst hdv
       generalize xs 9 = x9 at hxa HQ ⊢; subst hxa
       clear hrb hzb
       go_wp2
       exact HQ.out undef bb rfl
      intro xs W3 g hW hxb hbaseg hrowg hvs
      simp only [fillAt, dstOf, lc0, lcs, obs, Act.put, lsa, lsz, lss, nz, Nat.reduceAdd]
      generalize xs 9 = xa at *; subst hxb
      have HW3 := lh (HX1.out.trans hW)
      have HWW3 := lh hW
      have HRg := lh hrowg
      have hlg := hrowg.lt
      clear hW hvs hrowg qE_0 kE_0_38 qP_0 qP_1 qB_1
      rw [← HC0.out] at HRg
      have hs13 := HWW3.out.size
      have kB_0_5 : rowOf W3 B 0 5 = some (kyC k) := (HUB.out.ext HWW3.out).all rfl (by omega)
      have kg_0_37 : rowOf W3 g 0 37 = some (cfC c) := HRg.out.all rfl (by omega)
      have HUR3 := lh (HUR.out.ext HWW3.out)
      clear HUB HUR HC0 hfc
      go_upto_region 4 with (fail)
      refine wp_region_soft 5 (softsL [.eq (.agg (kyC k)), .eq (.agg (cfC c)), readS (cfParts c), .eq (.agg (dgC D)), .eq (.pointer (some ⟨g, 21, none⟩))]) (by kernel_rfl) (by kernel_rfl) (lt_cons ?_ (lt_cons ?_ (lt_cons ?_ (lt_cons ?_ (lt_cons ?_ (lt_none)))))) ?_
      any_goals (refine sop rfl fun xs W HW hsW HD Q' HQ => ?_; simp only [fillAt, dstOf, lc0, lcs, obs, Act.put, lsa, lsz, lss, nz, Nat.reduceAdd] at HQ ⊢)
      ·
       have hc := (row_extW HW.out (b := B) (by omega) 0 5).trans kB_0_5
       go_wp2
       exact HQ.out _ _ (eR _) rfl
      ·
       have hc := (row_extW HW.out (b := g) (by omega) 0 37).trans kg_0_37
       go_wp2
       exact HQ.out _ _ (eR _) rfl
      ·
       have hd1 : xs 1 = .agg (cfC c) := (HD.out 1 (dk (by kernel_rfl)))
       generalize xs 1 = x1 at hd1 HQ ⊢; subst hd1
       go_wp2_with (go_at_call 60; refine (HPt'.out _).mono ?_; rintro e w1 ⟨A, c, rfl, h1, h2, hx⟩)
       exact HQ.out _ _ hx ⟨A, c, rfl, h1, h2⟩
      ·
       have hd0 : xs 0 = .agg (kyC k) := (HD.out 0 (dk (by kernel_rfl)))
       generalize xs 0 = x0 at hd0 HQ ⊢; subst hd0
       obtain ⟨A2, c2, h2, hr2, hz2⟩ : (readS (cfParts c)).S (xs 2) W := (HD.out 2 (dk (by kernel_rfl)))
       generalize xs 2 = x2 at h2 HQ ⊢; subst h2
       go_wp2_with (go_at_call 59; refine (HMk'.out A2 c2 _ hr2 hz2 (HW3.out.trans HW.out)).mono ?_; rintro e w1 ⟨rfl, hx⟩)
       exact HQ.out _ _ hx rfl
      ·
       go_wp2
       exact HQ.out _ _ (eR _) rfl
      intro xs W4 hW hS
      have h3 : xs 3 = .agg (dgC D) := hS 3 (by omega)
      have h4 : xs 4 = .pointer (some ⟨g, 21, none⟩) := hS 4 (by omega)
      simp only [fillAt, dstOf, lc0, lcs, obs, Act.put, lsa, lsz, lss, nz, Nat.reduceAdd, List.drop_succ_cons, List.drop_zero, List.drop_nil]
      generalize xs 3 = x3 at *; subst h3
      generalize xs 4 = x4 at *; subst h4
      have HW4 := lh (HW3.out.trans hW)
      have HWW4 := lh hW
      clear hS hW kB_0_5 kg_0_37
      have HU13 := lh (HRg.out.ext HWW4.out)
      have HUR4 := lh (HUR3.out.ext HWW4.out)
      have m1 : roomOf W4 g 21 16 = true := by rw [HU13.out.room]; rfl
      have hl4 := HWW4.out.size
      go_upto_region 5 with (fail)
      refine wp_world (fun W => Ext w W ∧ RowAt W g (cfC { c with sl := D }) ∧ RowAt W (B+1+1+1) (cfC noCf)) ⟨?_, ?_, ?_⟩ ?_
      ·exact HW4.out.setCells (by have := HX1.out.size; omega) _ _
      ·have h := HU13.out.sets 21 (dgC D).toList
       rw [cf_seal_set] at h
       exact h
      ·exact HUR4.out.others (by omega) _ _
      rintro W5 ⟨x5, u5, ur5⟩
      have HW5 := lh x5
      have HUR5 := lh ur5
      have k1 : rowOf W5 g 0 37 = some (cfC { c with sl := D }) := u5.all rfl (by omega)
      have m2 : roomOf W5 (B+1+1+1) 0 37 = true := by rw [ur5.room]; rfl
      have hl5 := u5.lt
      have hl5r := ur5.lt
      clear x5 u5 ur5 m1 HU13 HUR4
      have hft := cf_fits { c with sl := D }
      go_wp2
      rw [HR.out, HSl.out]
      refine post_two (v1 := .agg (cfC { c with sl := D })) (v2 := .int .i64 0) Tryz.results17 rfl ⟨_, rfl, cf_loaded ((HUR5.out.store (ds := cfC { c with sl := D }) rfl).all rfl (by omega))⟩ rfl ⟨rfl, (by (with_reducible repeat first|exact HW5.out|exact eR _|apply eD|apply eN|apply eA|apply eO|apply eS|apply eC);all_goals first|omega|simp <;> omega)⟩
   ·have e0 : (k.party != 1000 + n) = true := by simpa using bp
    have HR := lh (HNo.out (by rw [HB.out, decide_eq_false bp]; simp))
    rw [bs] at HS
    rw [bk] at HKv
    clear bp
    generalize confirmN k n e p = R at *
    clear HPt HMk HO HB HNo HNm
    obtain ⟨p0, p1⟩ := p
    go_enter Tryz.func17, Tryz.ntmps17
    go_upto_region 2 with (first
     | (go_at_call 56; refine (HS.out _).mono ?_; rintro e w' ⟨rfl, hxl⟩; obtain ⟨xm, rfl⟩ := hxl.asLater; clear hxl)
     | (go_at_call 48; refine (HKv.out _).mono ?_; rintro e w' ⟨rfl, hxl⟩; obtain ⟨xn, rfl⟩ := hxl.asLater; clear hxl)
     | (go_at_call 57; refine (HEv.out _ (by (with_reducible repeat first|exact eR _|apply eD|apply eN|apply eA|apply eO|apply eS|apply eC);all_goals first|omega|simp <;> omega)).mono ?_; rintro e w' ⟨rfl, hxl⟩; obtain ⟨xo, rfl⟩ := hxl.asLater; clear hxl)
     | (go_at_call 49; refine (HCv.out _).mono ?_; rintro e w' ⟨rfl, hxl⟩; obtain ⟨xp, rfl⟩ := hxl.asLater; clear hxl))
    refine wp_world (fun W => Ext w W ∧ RowAt W (w.heap.size + 1 + 1 + 1) (cfC noCf)) ⟨(by (with_reducible repeat first|exact eR _|apply eD|apply eN|apply eA|apply eO|apply eS|apply eC);all_goals first|omega|simp <;> omega), (RowAt.newAt (by simp)).later _⟩ ?_
    rintro W1 ⟨x1, uR⟩
    have HX1 := lh x1
    have HUR := lh uR
    have hlr := uR.lt
    have hrm : roomOf W1 (w.heap.size + 1 + 1 + 1) 0 37 = true := by rw [uR.room]; rfl
    clear x1 uR
    go_wp2
    rw [HR.out]
    refine post_two (v1 := .agg (cfC noCf)) (v2 := .int .i64 1) Tryz.results17 rfl ⟨_, rfl, cf_loaded ((HUR.out.store (ds := cfC noCf) rfl).all rfl (by omega))⟩ rfl ⟨rfl, (by (with_reducible repeat first|exact HX1.out|exact eR _|apply eD|apply eN|apply eA|apply eO|apply eS|apply eC);all_goals first|omega|simp <;> omega)⟩
def bestS {α : Type} (z : α) (p : α → Bool) (q : α → α → Bool) (l : List α) : α × Bool := l.foldl (fun o x => if p x && (!o.2 || q x o.1) then (x, true) else o) (z, false)
theorem best_snoc {α : Type} (z : α) (p : α → Bool) (q : α → α → Bool) (l : List α) (k : Nat) (h : k < l.length) : bestS z p q (l.take (k + 1)) = if p l[k] && (!(bestS z p q (l.take k)).2 || q l[k] (bestS z p q (l.take k)).1) then (l[k], true) else bestS z p q (l.take k) := by
 unfold bestS
 rw [List.take_succ_eq_append_getElem h, List.foldl_append]
 rfl
theorem le_loaded {w : World} {b : Nat} {x : Le} (h : rowOf w b 0 20 = some (leC x)) : (loadVar 87 ⟨b, 0, none⟩).run Tryz.prog w = .ok (.agg (leC x)) w := run_loadVar_row le_ty h
theorem ln_loaded {w : World} {b : Nat} {x : Ln} (h : rowOf w b 0 59 = some (lnC x)) : (loadVar 89 ⟨b, 0, none⟩).run Tryz.prog w = .ok (.agg (lnC x)) w := run_loadVar_row ln_ty h
theorem bestCf_any (A : Option Addr) (c : Nat) (l : List Cf) (p : Cf → Bool) (q : Cf → Cf → Bool) (bg be : Nat) (w : World) (hl : l.length ≤ 9223372036854775807) (hr : Reads 37 cfL w w.heap.size A l)
  (hp : ∀ (k : Nat) (h : k < l.length) (W : World), Ext w W → Calls Tryz.prog 70 #[.agg (cfC l[k]), .pointer (some ⟨bg, 0, none⟩), .pointer (some ⟨be, 0, none⟩)] W fun e w' => e = .returned (.bool (p l[k])) ∧ Ext W w')
  (hq : ∀ (x y : Cf) (W : World), Ext w W → Calls Tryz.prog 72 #[.agg (cfC x), .agg (cfC y)] W fun e w' => e = .returned (.bool (q x y)) ∧ Ext W w') :
  Calls Tryz.prog 71 #[.slice A l.length c, .func (.func 70) #[] #[.pointer (some ⟨bg, 0, none⟩), .pointer (some ⟨be, 0, none⟩)], .func (.func 72) #[] #[]] w fun e w' => e = .returned (.tuple #[.agg (cfC (bestS noCf p q l).1), .bool (bestS noCf p q l).2]) ∧ Ext w w' := by
 have HR := lh hr
 have HP := lh hp
 have HQf := lh hq
 have hf0 := cf_fits noCf
 clear hr hp hq
 go_enter Tryz.func71, Tryz.ntmps71
 go_wp2
 refine wp_world (fun W => Ext w W ∧ RowAt W w.heap.size (cfC noCf) ∧ W.heap.size = w.heap.size + 1) ⟨(by (with_reducible repeat first|exact eR _|apply eD|apply eN|apply eA|apply eO|apply eS|apply eC);all_goals first|omega|simp <;> omega), RowAt.new _ _ _, by simp⟩ ?_
 obtain ⟨B, hB⟩ : ∃ B, w.heap.size = B := ⟨_, rfl⟩
 rw [hB]
 rintro W1 ⟨x1, u0, hs1⟩
 have HX1 := lh x1
 have HU0 := lh u0
 clear x1 u0
 go_loopw [7, 12] (fun t i wr => ∃ k : Nat, k ≤ l.length ∧ t = .bool (bestS noCf p q (l.take k)).2 ∧ i = .int .i64 k ∧ Hid (RowAt wr B (cfC (bestS noCf p q (l.take k)).1)) ∧ Hid (Ext w wr)) (fun _ i _ => l.length - (intOf i).toNat)
 case atStart => exact ⟨0, Nat.zero_le _, rfl, rfl, HU0, HX1⟩
 case round =>
  obtain ⟨k, hk, rfl, rfl, HK, HX⟩ := hrel
  have hsz := HX.out.size
  have hBl := HK.out.lt
  by_cases hlt : k < l.length
  ·obtain ⟨b, off, rfl, hb, hrow⟩ := reads_row cfE (HR.out.ext HX.out (Nat.le_refl _)) k hlt
   have hb2 : b < wr.heap.size := by omega
   have HP1 := lh (HP.out k hlt)
   have HS := lh (best_snoc noCf p q l k hlt)
   change rowOf wr b (off + k * 37) 37 = some (cfC l[k]) at hrow
   have hfx := cf_fits l[k]
   generalize bestS noCf p q (l.take k) = o at *
   obtain ⟨cur, is⟩ := o
   generalize l[k] = x at *
   have HQ1 := lh (fun W hx => HQf.out x cur W hx)
   have hfc := cf_fits cur
   simp only at *
   go_upto_region 4 with (fail)
   refine wp_world (fun W => Ext w W ∧ RowAt W B (cfC cur) ∧ RowAt W wr.heap.size (cfC x)) ⟨(by (with_reducible repeat first|exact HX.out|exact eR _|apply eD|apply eN|apply eA|apply eO|apply eS|apply eC);all_goals first|omega|simp <;> omega), (HK.out.alloc _).others (by omega) _ _, (RowAt.newAt (by simp)).store rfl⟩ ?_
   generalize hg : wr.heap.size = g
   rintro W5 ⟨x5, uo, ug⟩
   have HX5 := lh x5
   have HUo := lh uo
   have hl5 := ug.lt
   have hlo := uo.lt
   have hs5 := x5.size
   have kg : rowOf W5 g 0 37 = some (cfC x) := ug.all rfl (by omega)
   have ko : rowOf W5 B 0 37 = some (cfC cur) := uo.all rfl (by omega)
   have hBg : B < g := by omega
   clear ug uo x5 hrow HK
   cases hpx : p x with
   | false =>
    rw [hpx] at HP1
    have HS1 : Hid (bestS noCf p q (l.take (k + 1)) = (cur, is)) := lh (by rw [HS.out, hpx]; rfl)
    clear HS hpx
    go_wp2_with (first
     | (go_at_call 70; refine (HP1.out _ (by (with_reducible repeat first|exact HX5.out|exact eR _|apply eD|apply eN|apply eA|apply eO|apply eS|apply eC);all_goals first|omega|simp <;> omega)).mono ?_; rintro e w' ⟨rfl, hxl⟩; obtain ⟨xm, rfl⟩ := hxl.asLater; clear hxl))
    go_roundw
    case rel => exact ⟨k + 1, by omega, by rw [HS1.out], by go_num, by rw [HS1.out]; exact lh (HUo.out.later _), lh (by (with_reducible repeat first|exact HX5.out|exact eR _|apply eD|apply eN|apply eA|apply eO|apply eS|apply eC);all_goals first|omega|simp <;> omega)⟩
    case measure => simp [intOf]; omega
   | true =>
    rw [hpx] at HP1
    cases is with
    | false =>
     have HS1 : Hid (bestS noCf p q (l.take (k + 1)) = (x, true)) := lh (by rw [HS.out, hpx]; rfl)
     have hm : roomOf W5 B 0 37 = true := by rw [HUo.out.room]; rfl
     clear HS hpx
     go_wp2_with (first
      | (go_at_call 70; refine (HP1.out _ (by (with_reducible repeat first|exact HX5.out|exact eR _|apply eD|apply eN|apply eA|apply eO|apply eS|apply eC);all_goals first|omega|simp <;> omega)).mono ?_; rintro e w' ⟨rfl, hxl⟩; obtain ⟨xm, rfl⟩ := hxl.asLater; clear hxl))
     go_roundw
     case rel => exact ⟨k + 1, by omega, by rw [HS1.out], by go_num, by rw [HS1.out]; exact lh ((HUo.out.later _).store rfl), lh (Ext.setCells (HX5.out.onto _) (by omega) _ _)⟩
     case measure => simp [intOf]; omega
    | true =>
     cases hqx : q x cur with
     | false =>
      rw [hqx] at HQ1
      have HS1 : Hid (bestS noCf p q (l.take (k + 1)) = (cur, true)) := lh (by rw [HS.out]; simp [hpx, hqx])
      clear HS hpx hqx
      go_wp2_with (first
       | (go_at_call 70; refine (HP1.out _ (by (with_reducible repeat first|exact HX5.out|exact eR _|apply eD|apply eN|apply eA|apply eO|apply eS|apply eC);all_goals first|omega|simp <;> omega)).mono ?_; rintro e w' ⟨rfl, hxl⟩; obtain ⟨xm, rfl⟩ := hxl.asLater; clear hxl)
       | (go_at_call 72; refine (HQ1.out _ (by (with_reducible repeat first|exact HX5.out|exact eR _|apply eD|apply eN|apply eA|apply eO|apply eS|apply eC);all_goals first|omega|simp <;> omega)).mono ?_; rintro e w' ⟨rfl, hxl⟩; obtain ⟨xn, rfl⟩ := hxl.asLater; clear hxl))
      go_roundw
      case rel => exact ⟨k + 1, by omega, by rw [HS1.out], by go_num, by rw [HS1.out]; exact lh (HUo.out.later _), lh (by (with_reducible repeat first|exact HX5.out|exact eR _|apply eD|apply eN|apply eA|apply eO|apply eS|apply eC);all_goals first|omega|simp <;> omega)⟩
      case measure => simp [intOf]; omega
     | true =>
      rw [hqx] at HQ1
      have HS1 : Hid (bestS noCf p q (l.take (k + 1)) = (x, true)) := lh (by rw [HS.out]; simp [hpx, hqx])
      have hm : roomOf W5 B 0 37 = true := by rw [HUo.out.room]; rfl
      clear HS hpx hqx
      go_wp2_with (first
       | (go_at_call 70; refine (HP1.out _ (by (with_reducible repeat first|exact HX5.out|exact eR _|apply eD|apply eN|apply eA|apply eO|apply eS|apply eC);all_goals first|omega|simp <;> omega)).mono ?_; rintro e w' ⟨rfl, hxl⟩; obtain ⟨xm, rfl⟩ := hxl.asLater; clear hxl)
       | (go_at_call 72; refine (HQ1.out _ (by (with_reducible repeat first|exact HX5.out|exact eR _|apply eD|apply eN|apply eA|apply eO|apply eS|apply eC);all_goals first|omega|simp <;> omega)).mono ?_; rintro e w' ⟨rfl, hxl⟩; obtain ⟨xn, rfl⟩ := hxl.asLater; clear hxl))
      go_roundw
      case rel => exact ⟨k + 1, by omega, by rw [HS1.out], by go_num, by rw [HS1.out]; exact lh ((HUo.out.later _).store rfl), lh (Ext.setCells (HX5.out.onto _) (by omega) _ _)⟩
      case measure => simp [intOf]; omega
  ·have e1 : k = l.length := by omega
   subst e1
   rw [List.take_of_length_le (Nat.le_refl _)] at HK ⊢
   obtain ⟨o, ho⟩ : ∃ o, bestS noCf p q l = o := ⟨_, rfl⟩
   have HO := lh ho
   rw [ho] at HK ⊢
   clear ho
   have kB : rowOf wr B 0 37 = some (cfC o.1) := HK.out.all rfl (by omega)
   have hm : roomOf wr B 0 37 = true := by rw [HK.out.room]; rfl
   have hfo := cf_fits o.1
   go_wp2
   refine post_two (v1 := .agg (cfC o.1)) (v2 := .bool o.2) Tryz.results71 rfl ⟨_, rfl, cf_loaded ((HK.out.store (ds := cfC o.1) rfl).all rfl (by omega))⟩ rfl ⟨by rw [HO.out], Ext.setCells HX.out (by omega) _ _⟩
theorem bestLe_any (A : Option Addr) (c : Nat) (l : List Le) (p : Le → Bool) (q : Le → Le → Bool) (bg : Nat) (w : World) (hl : l.length ≤ 9223372036854775807) (hr : Reads 20 leL w w.heap.size A l)
  (hp : ∀ (k : Nat) (h : k < l.length) (W : World), Ext w W → Calls Tryz.prog 73 #[.agg (leC l[k]), .pointer (some ⟨bg, 0, none⟩)] W fun e w' => e = .returned (.bool (p l[k])) ∧ Ext W w')
  (hq : ∀ (x y : Le) (W : World), Ext w W → Calls Tryz.prog 75 #[.agg (leC x), .agg (leC y)] W fun e w' => e = .returned (.bool (q x y)) ∧ Ext W w') :
  Calls Tryz.prog 74 #[.slice A l.length c, .func (.func 73) #[] #[.pointer (some ⟨bg, 0, none⟩)], .func (.func 75) #[] #[]] w fun e w' => e = .returned (.tuple #[.agg (leC (bestS noLe p q l).1), .bool (bestS noLe p q l).2]) ∧ Ext w w' := by
 have HR := lh hr
 have HP := lh hp
 have HQf := lh hq
 have hf0 := le_fits noLe
 clear hr hp hq
 go_enter Tryz.func74, Tryz.ntmps74
 go_wp2
 refine wp_world (fun W => Ext w W ∧ RowAt W w.heap.size (leC noLe) ∧ W.heap.size = w.heap.size + 1) ⟨(by (with_reducible repeat first|exact eR _|apply eD|apply eN|apply eA|apply eO|apply eS|apply eC);all_goals first|omega|simp <;> omega), RowAt.new _ _ _, by simp⟩ ?_
 obtain ⟨B, hB⟩ : ∃ B, w.heap.size = B := ⟨_, rfl⟩
 rw [hB]
 rintro W1 ⟨x1, u0, hs1⟩
 have HX1 := lh x1
 have HU0 := lh u0
 clear x1 u0
 go_loopw [7, 12] (fun t i wr => ∃ k : Nat, k ≤ l.length ∧ t = .bool (bestS noLe p q (l.take k)).2 ∧ i = .int .i64 k ∧ Hid (RowAt wr B (leC (bestS noLe p q (l.take k)).1)) ∧ Hid (Ext w wr)) (fun _ i _ => l.length - (intOf i).toNat)
 case atStart => exact ⟨0, Nat.zero_le _, rfl, rfl, HU0, HX1⟩
 case round =>
  obtain ⟨k, hk, rfl, rfl, HK, HX⟩ := hrel
  have hsz := HX.out.size
  have hBl := HK.out.lt
  by_cases hlt : k < l.length
  ·obtain ⟨b, off, rfl, hb, hrow⟩ := reads_row leE (HR.out.ext HX.out (Nat.le_refl _)) k hlt
   have hb2 : b < wr.heap.size := by omega
   have HP1 := lh (HP.out k hlt)
   have HS := lh (best_snoc noLe p q l k hlt)
   change rowOf wr b (off + k * 20) 20 = some (leC l[k]) at hrow
   have hfx := le_fits l[k]
   generalize bestS noLe p q (l.take k) = o at *
   obtain ⟨cur, is⟩ := o
   generalize l[k] = x at *
   have HQ1 := lh (fun W hx => HQf.out x cur W hx)
   have hfc := le_fits cur
   simp only at *
   go_upto_region 4 with (fail)
   refine wp_world (fun W => Ext w W ∧ RowAt W B (leC cur) ∧ RowAt W wr.heap.size (leC x)) ⟨(by (with_reducible repeat first|exact HX.out|exact eR _|apply eD|apply eN|apply eA|apply eO|apply eS|apply eC);all_goals first|omega|simp <;> omega), (HK.out.alloc _).others (by omega) _ _, (RowAt.newAt (by simp)).store rfl⟩ ?_
   generalize hg : wr.heap.size = g
   rintro W5 ⟨x5, uo, ug⟩
   have HX5 := lh x5
   have HUo := lh uo
   have hl5 := ug.lt
   have hlo := uo.lt
   have hs5 := x5.size
   have kg : rowOf W5 g 0 20 = some (leC x) := ug.all rfl (by omega)
   have ko : rowOf W5 B 0 20 = some (leC cur) := uo.all rfl (by omega)
   have hBg : B < g := by omega
   clear ug uo x5 hrow HK
   cases hpx : p x with
   | false =>
    rw [hpx] at HP1
    have HS1 : Hid (bestS noLe p q (l.take (k + 1)) = (cur, is)) := lh (by rw [HS.out, hpx]; rfl)
    clear HS hpx
    go_wp2_with (first
     | (go_at_call 73; refine (HP1.out _ (by (with_reducible repeat first|exact HX5.out|exact eR _|apply eD|apply eN|apply eA|apply eO|apply eS|apply eC);all_goals first|omega|simp <;> omega)).mono ?_; rintro e w' ⟨rfl, hxl⟩; obtain ⟨xm, rfl⟩ := hxl.asLater; clear hxl))
    go_roundw
    case rel => exact ⟨k + 1, by omega, by rw [HS1.out], by go_num, by rw [HS1.out]; exact lh (HUo.out.later _), lh (by (with_reducible repeat first|exact HX5.out|exact eR _|apply eD|apply eN|apply eA|apply eO|apply eS|apply eC);all_goals first|omega|simp <;> omega)⟩
    case measure => simp [intOf]; omega
   | true =>
    rw [hpx] at HP1
    cases is with
    | false =>
     have HS1 : Hid (bestS noLe p q (l.take (k + 1)) = (x, true)) := lh (by rw [HS.out, hpx]; rfl)
     have hm : roomOf W5 B 0 20 = true := by rw [HUo.out.room]; rfl
     clear HS hpx
     go_wp2_with (first
      | (go_at_call 73; refine (HP1.out _ (by (with_reducible repeat first|exact HX5.out|exact eR _|apply eD|apply eN|apply eA|apply eO|apply eS|apply eC);all_goals first|omega|simp <;> omega)).mono ?_; rintro e w' ⟨rfl, hxl⟩; obtain ⟨xm, rfl⟩ := hxl.asLater; clear hxl))
     go_roundw
     case rel => exact ⟨k + 1, by omega, by rw [HS1.out], by go_num, by rw [HS1.out]; exact lh ((HUo.out.later _).store rfl), lh (Ext.setCells (HX5.out.onto _) (by omega) _ _)⟩
     case measure => simp [intOf]; omega
    | true =>
     cases hqx : q x cur with
     | false =>
      rw [hqx] at HQ1
      have HS1 : Hid (bestS noLe p q (l.take (k + 1)) = (cur, true)) := lh (by rw [HS.out]; simp [hpx, hqx])
      clear HS hpx hqx
      go_wp2_with (first
       | (go_at_call 73; refine (HP1.out _ (by (with_reducible repeat first|exact HX5.out|exact eR _|apply eD|apply eN|apply eA|apply eO|apply eS|apply eC);all_goals first|omega|simp <;> omega)).mono ?_; rintro e w' ⟨rfl, hxl⟩; obtain ⟨xm, rfl⟩ := hxl.asLater; clear hxl)
       | (go_at_call 75; refine (HQ1.out _ (by (with_reducible repeat first|exact HX5.out|exact eR _|apply eD|apply eN|apply eA|apply eO|apply eS|apply eC);all_goals first|omega|simp <;> omega)).mono ?_; rintro e w' ⟨rfl, hxl⟩; obtain ⟨xn, rfl⟩ := hxl.asLater; clear hxl))
      go_roundw
      case rel => exact ⟨k + 1, by omega, by rw [HS1.out], by go_num, by rw [HS1.out]; exact lh (HUo.out.later _), lh (by (with_reducible repeat first|exact HX5.out|exact eR _|apply eD|apply eN|apply eA|apply eO|apply eS|apply eC);all_goals first|omega|simp <;> omega)⟩
      case measure => simp [intOf]; omega
     | true =>
      rw [hqx] at HQ1
      have HS1 : Hid (bestS noLe p q (l.take (k + 1)) = (x, true)) := lh (by rw [HS.out]; simp [hpx, hqx])
      have hm : roomOf W5 B 0 20 = true := by rw [HUo.out.room]; rfl
      clear HS hpx hqx
      go_wp2_with (first
       | (go_at_call 73; refine (HP1.out _ (by (with_reducible repeat first|exact HX5.out|exact eR _|apply eD|apply eN|apply eA|apply eO|apply eS|apply eC);all_goals first|omega|simp <;> omega)).mono ?_; rintro e w' ⟨rfl, hxl⟩; obtain ⟨xm, rfl⟩ := hxl.asLater; clear hxl)
       | (go_at_call 75; refine (HQ1.out _ (by (with_reducible repeat first|exact HX5.out|exact eR _|apply eD|apply eN|apply eA|apply eO|apply eS|apply eC);all_goals first|omega|simp <;> omega)).mono ?_; rintro e w' ⟨rfl, hxl⟩; obtain ⟨xn, rfl⟩ := hxl.asLater; clear hxl))
      go_roundw
      case rel => exact ⟨k + 1, by omega, by rw [HS1.out], by go_num, by rw [HS1.out]; exact lh ((HUo.out.later _).store rfl), lh (Ext.setCells (HX5.out.onto _) (by omega) _ _)⟩
      case measure => simp [intOf]; omega
  ·have e1 : k = l.length := by omega
   subst e1
   rw [List.take_of_length_le (Nat.le_refl _)] at HK ⊢
   obtain ⟨o, ho⟩ : ∃ o, bestS noLe p q l = o := ⟨_, rfl⟩
   have HO := lh ho
   rw [ho] at HK ⊢
   clear ho
   have kB : rowOf wr B 0 20 = some (leC o.1) := HK.out.all rfl (by omega)
   have hm : roomOf wr B 0 20 = true := by rw [HK.out.room]; rfl
   have hfo := le_fits o.1
   go_wp2
   refine post_two (v1 := .agg (leC o.1)) (v2 := .bool o.2) Tryz.results74 rfl ⟨_, rfl, le_loaded ((HK.out.store (ds := leC o.1) rfl).all rfl (by omega))⟩ rfl ⟨by rw [HO.out], Ext.setCells HX.out (by omega) _ _⟩
theorem bestLn_any (A : Option Addr) (c : Nat) (l : List Ln) (p : Ln → Bool) (q : Ln → Ln → Bool) (bg : Nat) (w : World) (hl : l.length ≤ 9223372036854775807) (hr : Reads 59 lnL w w.heap.size A l)
  (hp : ∀ (k : Nat) (h : k < l.length) (W : World), Ext w W → Calls Tryz.prog 85 #[.agg (lnC l[k]), .pointer (some ⟨bg, 0, none⟩)] W fun e w' => e = .returned (.bool (p l[k])) ∧ Ext W w')
  (hq : ∀ (x y : Ln) (W : World), Ext w W → Calls Tryz.prog 86 #[.agg (lnC x), .agg (lnC y)] W fun e w' => e = .returned (.bool (q x y)) ∧ Ext W w') :
  Calls Tryz.prog 84 #[.slice A l.length c, .func (.func 85) #[] #[.pointer (some ⟨bg, 0, none⟩)], .func (.func 86) #[] #[]] w fun e w' => e = .returned (.tuple #[.agg (lnC (bestS noLn p q l).1), .bool (bestS noLn p q l).2]) ∧ Ext w w' := by
 have HR := lh hr
 have HP := lh hp
 have HQf := lh hq
 have hf0 := ln_fits noLn
 clear hr hp hq
 go_enter Tryz.func84, Tryz.ntmps84
 go_wp2
 refine wp_world (fun W => Ext w W ∧ RowAt W w.heap.size (lnC noLn) ∧ W.heap.size = w.heap.size + 1) ⟨(by (with_reducible repeat first|exact eR _|apply eD|apply eN|apply eA|apply eO|apply eS|apply eC);all_goals first|omega|simp <;> omega), RowAt.new _ _ _, by simp⟩ ?_
 obtain ⟨B, hB⟩ : ∃ B, w.heap.size = B := ⟨_, rfl⟩
 rw [hB]
 rintro W1 ⟨x1, u0, hs1⟩
 have HX1 := lh x1
 have HU0 := lh u0
 clear x1 u0
 go_loopw [7, 12] (fun t i wr => ∃ k : Nat, k ≤ l.length ∧ t = .bool (bestS noLn p q (l.take k)).2 ∧ i = .int .i64 k ∧ Hid (RowAt wr B (lnC (bestS noLn p q (l.take k)).1)) ∧ Hid (Ext w wr)) (fun _ i _ => l.length - (intOf i).toNat)
 case atStart => exact ⟨0, Nat.zero_le _, rfl, rfl, HU0, HX1⟩
 case round =>
  obtain ⟨k, hk, rfl, rfl, HK, HX⟩ := hrel
  have hsz := HX.out.size
  have hBl := HK.out.lt
  by_cases hlt : k < l.length
  ·obtain ⟨b, off, rfl, hb, hrow⟩ := reads_row lnE (HR.out.ext HX.out (Nat.le_refl _)) k hlt
   have hb2 : b < wr.heap.size := by omega
   have HP1 := lh (HP.out k hlt)
   have HS := lh (best_snoc noLn p q l k hlt)
   change rowOf wr b (off + k * 59) 59 = some (lnC l[k]) at hrow
   have hfx := ln_fits l[k]
   generalize bestS noLn p q (l.take k) = o at *
   obtain ⟨cur, is⟩ := o
   generalize l[k] = x at *
   have HQ1 := lh (fun W hx => HQf.out x cur W hx)
   have hfc := ln_fits cur
   simp only at *
   go_upto_region 4 with (fail)
   refine wp_world (fun W => Ext w W ∧ RowAt W B (lnC cur) ∧ RowAt W wr.heap.size (lnC x)) ⟨(by (with_reducible repeat first|exact HX.out|exact eR _|apply eD|apply eN|apply eA|apply eO|apply eS|apply eC);all_goals first|omega|simp <;> omega), (HK.out.alloc _).others (by omega) _ _, (RowAt.newAt (by simp)).store rfl⟩ ?_
   generalize hg : wr.heap.size = g
   rintro W5 ⟨x5, uo, ug⟩
   have HX5 := lh x5
   have HUo := lh uo
   have hl5 := ug.lt
   have hlo := uo.lt
   have hs5 := x5.size
   have kg : rowOf W5 g 0 59 = some (lnC x) := ug.all rfl (by omega)
   have ko : rowOf W5 B 0 59 = some (lnC cur) := uo.all rfl (by omega)
   have hBg : B < g := by omega
   clear ug uo x5 hrow HK
   cases hpx : p x with
   | false =>
    rw [hpx] at HP1
    have HS1 : Hid (bestS noLn p q (l.take (k + 1)) = (cur, is)) := lh (by rw [HS.out, hpx]; rfl)
    clear HS hpx
    go_wp2_with (first
     | (go_at_call 85; refine (HP1.out _ (by (with_reducible repeat first|exact HX5.out|exact eR _|apply eD|apply eN|apply eA|apply eO|apply eS|apply eC);all_goals first|omega|simp <;> omega)).mono ?_; rintro e w' ⟨rfl, hxl⟩; obtain ⟨xm, rfl⟩ := hxl.asLater; clear hxl))
    go_roundw
    case rel => exact ⟨k + 1, by omega, by rw [HS1.out], by go_num, by rw [HS1.out]; exact lh (HUo.out.later _), lh (by (with_reducible repeat first|exact HX5.out|exact eR _|apply eD|apply eN|apply eA|apply eO|apply eS|apply eC);all_goals first|omega|simp <;> omega)⟩
    case measure => simp [intOf]; omega
   | true =>
    rw [hpx] at HP1
    cases is with
    | false =>
     have HS1 : Hid (bestS noLn p q (l.take (k + 1)) = (x, true)) := lh (by rw [HS.out, hpx]; rfl)
     have hm : roomOf W5 B 0 59 = true := by rw [HUo.out.room]; rfl
     clear HS hpx
     go_wp2_with (first
      | (go_at_call 85; refine (HP1.out _ (by (with_reducible repeat first|exact HX5.out|exact eR _|apply eD|apply eN|apply eA|apply eO|apply eS|apply eC);all_goals first|omega|simp <;> omega)).mono ?_; rintro e w' ⟨rfl, hxl⟩; obtain ⟨xm, rfl⟩ := hxl.asLater; clear hxl))
     go_roundw
     case rel => exact ⟨k + 1, by omega, by rw [HS1.out], by go_num, by rw [HS1.out]; exact lh ((HUo.out.later _).store rfl), lh (Ext.setCells (HX5.out.onto _) (by omega) _ _)⟩
     case measure => simp [intOf]; omega
    | true =>
     cases hqx : q x cur with
     | false =>
      rw [hqx] at HQ1
      have HS1 : Hid (bestS noLn p q (l.take (k + 1)) = (cur, true)) := lh (by rw [HS.out]; simp [hpx, hqx])
      clear HS hpx hqx
      go_wp2_with (first
       | (go_at_call 85; refine (HP1.out _ (by (with_reducible repeat first|exact HX5.out|exact eR _|apply eD|apply eN|apply eA|apply eO|apply eS|apply eC);all_goals first|omega|simp <;> omega)).mono ?_; rintro e w' ⟨rfl, hxl⟩; obtain ⟨xm, rfl⟩ := hxl.asLater; clear hxl)
       | (go_at_call 86; refine (HQ1.out _ (by (with_reducible repeat first|exact HX5.out|exact eR _|apply eD|apply eN|apply eA|apply eO|apply eS|apply eC);all_goals first|omega|simp <;> omega)).mono ?_; rintro e w' ⟨rfl, hxl⟩; obtain ⟨xn, rfl⟩ := hxl.asLater; clear hxl))
      go_roundw
      case rel => exact ⟨k + 1, by omega, by rw [HS1.out], by go_num, by rw [HS1.out]; exact lh (HUo.out.later _), lh (by (with_reducible repeat first|exact HX5.out|exact eR _|apply eD|apply eN|apply eA|apply eO|apply eS|apply eC);all_goals first|omega|simp <;> omega)⟩
      case measure => simp [intOf]; omega
     | true =>
      rw [hqx] at HQ1
      have HS1 : Hid (bestS noLn p q (l.take (k + 1)) = (x, true)) := lh (by rw [HS.out]; simp [hpx, hqx])
      have hm : roomOf W5 B 0 59 = true := by rw [HUo.out.room]; rfl
      clear HS hpx hqx
      go_wp2_with (first
       | (go_at_call 85; refine (HP1.out _ (by (with_reducible repeat first|exact HX5.out|exact eR _|apply eD|apply eN|apply eA|apply eO|apply eS|apply eC);all_goals first|omega|simp <;> omega)).mono ?_; rintro e w' ⟨rfl, hxl⟩; obtain ⟨xm, rfl⟩ := hxl.asLater; clear hxl)
       | (go_at_call 86; refine (HQ1.out _ (by (with_reducible repeat first|exact HX5.out|exact eR _|apply eD|apply eN|apply eA|apply eO|apply eS|apply eC);all_goals first|omega|simp <;> omega)).mono ?_; rintro e w' ⟨rfl, hxl⟩; obtain ⟨xn, rfl⟩ := hxl.asLater; clear hxl))
      go_roundw
      case rel => exact ⟨k + 1, by omega, by rw [HS1.out], by go_num, by rw [HS1.out]; exact lh ((HUo.out.later _).store rfl), lh (Ext.setCells (HX5.out.onto _) (by omega) _ _)⟩
      case measure => simp [intOf]; omega
  ·have e1 : k = l.length := by omega
   subst e1
   rw [List.take_of_length_le (Nat.le_refl _)] at HK ⊢
   obtain ⟨o, ho⟩ : ∃ o, bestS noLn p q l = o := ⟨_, rfl⟩
   have HO := lh ho
   rw [ho] at HK ⊢
   clear ho
   have kB : rowOf wr B 0 59 = some (lnC o.1) := HK.out.all rfl (by omega)
   have hm : roomOf wr B 0 59 = true := by rw [HK.out.room]; rfl
   have hfo := ln_fits o.1
   go_wp2
   refine post_two (v1 := .agg (lnC o.1)) (v2 := .bool o.2) Tryz.results84 rfl ⟨_, rfl, ln_loaded ((HK.out.store (ds := lnC o.1) rfl).all rfl (by omega))⟩ rfl ⟨by rw [HO.out], Ext.setCells HX.out (by omega) _ _⟩
def lnB2 (a b c : Value) : Sem Next := do pure (.value (← Instr.build 89 #[(0, a), (1, b), (2, c)]))
theorem lnB2_x (ρ : Operand → Value) (dst : Option Tmp) (a b c : Operand) (t : TypeId) (pos : String) (after : Array Edge) (guard : Option (Nat × Bool)) : execOp ρ { dst, op := .build 89 #[(0, a), (1, b), (2, c)], type := t, pos, after, guard } = lnB2 (ρ a) (ρ b) (ρ c) := by kernel_rfl
attribute [go_sem ↓] lnB2_x
theorem lnB2_run (s k : Int) (c : Cf) (W : World) : (lnB2 (.int .i64 s) (.int .i64 k) (.agg (cfC c))).run Tryz.prog W = .ok (.value (.agg (lnC ⟨s, k, c, noLe⟩))) W := by kernel_rfl
def lnB3 (a b c : Value) : Sem Next := do pure (.value (← Instr.build 89 #[(0, a), (1, b), (3, c)]))
theorem lnB3_x (ρ : Operand → Value) (dst : Option Tmp) (a b c : Operand) (t : TypeId) (pos : String) (after : Array Edge) (guard : Option (Nat × Bool)) : execOp ρ { dst, op := .build 89 #[(0, a), (1, b), (3, c)], type := t, pos, after, guard } = lnB3 (ρ a) (ρ b) (ρ c) := by kernel_rfl
attribute [go_sem ↓] lnB3_x
theorem lnB3_run (s k : Int) (l : Le) (W : World) : (lnB3 (.int .i64 s) (.int .i64 k) (.agg (leC l))).run Tryz.prog W = .ok (.value (.agg (lnC ⟨s, k, noCf, l⟩))) W := by kernel_rfl
attribute [go_sem] lnB2_run lnB3_run
def cfHit (site num : Int) (c : Cf) : Bool := decide (c.site = site) && decide (num ≤ c.epoch)
def leHit (site : Int) (l : Le) : Bool := decide (l.site = site)
def leMore (a b : Le) : Bool := decide (b.until_ < a.until_)
def cfNone (_ _ : Cf) : Bool := false
def lineN (x : Gr) (num : Int) (cs : List Cf) (ls : List Le) (lo : Int) : Ln :=
 if (bestS noCf (cfHit x.site num) cfNone cs).2 = true then ⟨x.site, 1, (bestS noCf (cfHit x.site num) cfNone cs).1, noLe⟩
 else ⟨x.site, if (if (bestS noLe (leHit x.site) leMore ls).2 = true then (bestS noLe (leHit x.site) leMore ls).1.until_ else x.until_) ≤ lo then 2 else 3, noCf, (bestS noLe (leHit x.site) leMore ls).1⟩
theorem mk11_any (c : Cf) (site num : Int) (bg be : Nat) (w : World) (h1 : w.cell? ⟨bg, 0, none⟩ = some (.int .i64 site)) (h2 : w.cell? ⟨be, 0, none⟩ = some (.int .i64 num)) (l1 : bg < w.heap.size) (l2 : be < w.heap.size) :
  Calls Tryz.prog 70 #[.agg (cfC c), .pointer (some ⟨bg, 0, none⟩), .pointer (some ⟨be, 0, none⟩)] w fun e w' => e = .returned (.bool (cfHit site num c)) ∧ Ext w w' := by
 have HF : Hid (cfHit site num c = (decide (c.site = site) && decide (num ≤ c.epoch))) := lh rfl
 have hft := cf_fits c
 generalize cfHit site num c = R at *
 go_enter Tryz.func70, Tryz.ntmps70
 go_wp2
 all_goals
  go_ret
  exact ⟨ret_bool (by have h := HF.out; clear HF; subst h; first | rfl | (simp [*]; done) | (simp [*]; omega) | omega), (by (with_reducible repeat first|exact eR _|apply eD|apply eN|apply eA|apply eO|apply eS|apply eC);all_goals first|omega|simp <;> omega)⟩
theorem mk12_any (a b : Cf) (w : World) : Calls Tryz.prog 72 #[.agg (cfC a), .agg (cfC b)] w fun e w' => e = .returned (.bool (cfNone a b)) ∧ Ext w w' := by
 have hfa := cf_fits a
 have hfb := cf_fits b
 go_enter Tryz.func72, Tryz.ntmps72
 go_wp2
 go_ret
 exact ⟨rfl, (by (with_reducible repeat first|exact eR _|apply eD|apply eN|apply eA|apply eO|apply eS|apply eC);all_goals first|omega|simp <;> omega)⟩
theorem mk13_any (l : Le) (site : Int) (bg : Nat) (w : World) (h1 : w.cell? ⟨bg, 0, none⟩ = some (.int .i64 site)) (l1 : bg < w.heap.size) :
  Calls Tryz.prog 73 #[.agg (leC l), .pointer (some ⟨bg, 0, none⟩)] w fun e w' => e = .returned (.bool (leHit site l)) ∧ Ext w w' := by
 have HF : Hid (leHit site l = decide (l.site = site)) := lh rfl
 have hft := le_fits l
 generalize leHit site l = R at *
 go_enter Tryz.func73, Tryz.ntmps73
 go_wp2
 all_goals
  go_ret
  exact ⟨ret_bool (by have h := HF.out; clear HF; subst h; first | rfl | (simp [*]; done) | (simp [*]; omega) | omega), (by (with_reducible repeat first|exact eR _|apply eD|apply eN|apply eA|apply eO|apply eS|apply eC);all_goals first|omega|simp <;> omega)⟩
theorem mk14_any (a b : Le) (w : World) : Calls Tryz.prog 75 #[.agg (leC a), .agg (leC b)] w fun e w' => e = .returned (.bool (leMore a b)) ∧ Ext w w' := by
 have HF : Hid (leMore a b = decide (b.until_ < a.until_)) := lh rfl
 have hfa := le_fits a
 have hfb := le_fits b
 generalize leMore a b = R at *
 go_enter Tryz.func75, Tryz.ntmps75
 go_wp2
 all_goals
  go_ret
  exact ⟨ret_bool (by have h := HF.out; clear HF; subst h; first | rfl | (simp [*]; done) | (simp [*]; omega) | omega), (by (with_reducible repeat first|exact eR _|apply eD|apply eN|apply eA|apply eO|apply eS|apply eC);all_goals first|omega|simp <;> omega)⟩
theorem mkline_any (x : Gr) (num lo : Int) (CA LA : Option Addr) (cc lc : Nat) (cs : List Cf) (ls : List Le) (b1 b2 b3 b4 : Nat) (w : World)
  (h1 : w.cell? ⟨b1, 0, none⟩ = some (.int .i64 num)) (h2 : w.cell? ⟨b2, 0, none⟩ = some (.slice CA cs.length cc)) (h3 : w.cell? ⟨b3, 0, none⟩ = some (.slice LA ls.length lc)) (h4 : w.cell? ⟨b4, 0, none⟩ = some (.int .i64 lo))
  (l1 : b1 < w.heap.size) (l2 : b2 < w.heap.size) (l3 : b3 < w.heap.size) (l4 : b4 < w.heap.size) (hc : cs.length ≤ 100000) (hl : ls.length ≤ 100000) (hrc : Reads 37 cfL w w.heap.size CA cs) (hrl : Reads 20 leL w w.heap.size LA ls) :
  Calls Tryz.prog 69 #[.agg (grC x), .pointer (some ⟨b1, 0, none⟩), .pointer (some ⟨b2, 0, none⟩), .pointer (some ⟨b3, 0, none⟩), .pointer (some ⟨b4, 0, none⟩)] w fun e w' => e = .returned (.agg (lnC (lineN x num cs ls lo))) ∧ Ext w w' := by
 have HBc : Hid (∀ (bg : Nat) (W : World), Ext w W → bg < W.heap.size → W.cell? ⟨bg, 0, none⟩ = some (.int .i64 x.site) → Calls Tryz.prog 71 #[.slice CA cs.length cc, .func (.func 70) #[] #[.pointer (some ⟨bg, 0, none⟩), .pointer (some ⟨b1, 0, none⟩)], .func (.func 72) #[] #[]] W fun e w' => e = .returned (.tuple #[.agg (cfC (bestS noCf (cfHit x.site num) cfNone cs).1), .bool (bestS noCf (cfHit x.site num) cfNone cs).2]) ∧ Ext W w') := lh (fun bg W hx hb hg =>
  bestCf_any CA cc cs (cfHit x.site num) cfNone bg b1 W (by omega) (hrc.on hx) (fun k hk W' hx' => mk11_any cs[k] x.site num bg b1 W' ((hx'.cell (p := ⟨bg, 0, none⟩) hb).trans hg) (((hx.trans hx').cell (p := ⟨b1, 0, none⟩) l1).trans h1) (by have := hx'.size; omega) (by have := hx'.size; have := hx.size; omega)) (fun a b W' _ => mk12_any a b W'))
 have HBl : Hid (∀ (bg : Nat) (W : World), Ext w W → bg < W.heap.size → W.cell? ⟨bg, 0, none⟩ = some (.int .i64 x.site) → Calls Tryz.prog 74 #[.slice LA ls.length lc, .func (.func 73) #[] #[.pointer (some ⟨bg, 0, none⟩)], .func (.func 75) #[] #[]] W fun e w' => e = .returned (.tuple #[.agg (leC (bestS noLe (leHit x.site) leMore ls).1), .bool (bestS noLe (leHit x.site) leMore ls).2]) ∧ Ext W w') := lh (fun bg W hx hb hg =>
  bestLe_any LA lc ls (leHit x.site) leMore bg W (by omega) (hrl.on hx) (fun k hk W' hx' => mk13_any ls[k] x.site bg W' ((hx'.cell (p := ⟨bg, 0, none⟩) hb).trans hg) (by have := hx'.size; omega)) (fun a b W' _ => mk14_any a b W'))
 have HO : Hid (lineN x num cs ls lo = if (bestS noCf (cfHit x.site num) cfNone cs).2 = true then ⟨x.site, 1, (bestS noCf (cfHit x.site num) cfNone cs).1, noLe⟩
  else ⟨x.site, if (if (bestS noLe (leHit x.site) leMore ls).2 = true then (bestS noLe (leHit x.site) leMore ls).1.until_ else x.until_) ≤ lo then 2 else 3, noCf, (bestS noLe (leHit x.site) leMore ls).1⟩) := lh rfl
 have hfx := gr_fits x
 generalize lineN x num cs ls lo = O at *
 generalize bestS noCf (cfHit x.site num) cfNone cs = bc at *
 generalize bestS noLe (leHit x.site) leMore ls = bl at *
 obtain ⟨c, ic⟩ := bc
 obtain ⟨l, il⟩ := bl
 simp only at *
 have hfc := cf_fits c
 have hfl := le_fits l
 have hf0 := ln_fits noLn
 clear hrc hrl
 go_enter Tryz.func69, Tryz.ntmps69
 go_upto_region 1 with (fail)
 refine wp_world (fun W => Ext w W ∧ RowAt W w.heap.size (grC x) ∧ RowAt W (w.heap.size + 1) (lnC noLn)) ⟨(by (with_reducible repeat first|exact eR _|apply eD|apply eN|apply eA|apply eO|apply eS|apply eC);all_goals first|omega|simp <;> omega), (RowAt.new _ _ _).alloc _, RowAt.newAt (by simp)⟩ ?_
 obtain ⟨B, hB⟩ : ∃ B, w.heap.size = B := ⟨_, rfl⟩
 rw [hB]
 rintro W1 ⟨x1, ug, ur⟩
 have hs1 := x1.size
 have HX1 := lh x1
 have HUR := lh ur
 have hlr := ur.lt
 have qg_0 : W1.cell? ⟨B, 0, none⟩ = some (.int .i64 x.site) := (ug.cell 0).trans (gr_g0 x)
 have qg_2 : W1.cell? ⟨B, 2, none⟩ = some (.int .i64 x.until_) := (ug.cell 2).trans (gr_g2 x)
 have k2 : W1.cell? ⟨b2, 0, none⟩ = some (.slice CA cs.length cc) := (x1.cell (p := ⟨b2, 0, none⟩) (by omega)).trans h2
 have k3 : W1.cell? ⟨b3, 0, none⟩ = some (.slice LA ls.length lc) := (x1.cell (p := ⟨b3, 0, none⟩) (by omega)).trans h3
 have k4 : W1.cell? ⟨b4, 0, none⟩ = some (.int .i64 lo) := (x1.cell (p := ⟨b4, 0, none⟩) (by omega)).trans h4
 have hm : roomOf W1 (B + 1) 0 59 = true := by rw [ur.room]; rfl
 have HG0 := lh qg_0
 clear x1 ug ur h1 h2 h3 h4
 cases ic with
 | true =>
  have HO' : Hid (O = ⟨x.site, 1, c, noLe⟩) := lh (by rw [HO.out]; rfl)
  have hfo := ln_fits ⟨x.site, 1, c, noLe⟩
  clear HO
  go_wp2_with (first
   | (go_at_call 71; refine (HBc.out _ _ (by (with_reducible repeat first|exact HX1.out|exact eR _|apply eD|apply eN|apply eA|apply eO|apply eS|apply eC);all_goals first|omega|simp <;> omega) (by omega) HG0.out).mono ?_; rintro e w' ⟨rfl, hxl⟩; obtain ⟨xm, rfl⟩ := hxl.asLater; clear hxl))
  rw [HO'.out]
  exact post_row ln_ty Tryz.results69 rfl rfl (RowAt.stored (n := 59) (ds := lnC ⟨x.site, 1, c, noLe⟩) (((HUR.out.later _).alloc _).others (by omega) _ _) rfl rfl (by omega)) ⟨rfl, Ext.setCells (Ext.setCells ((HX1.out.onto _).alloc _) (by omega) _ _) (by omega) _ _⟩
 | false =>
  have HO1 : Hid (O = ⟨x.site, if (if il = true then l.until_ else x.until_) ≤ lo then 2 else 3, noCf, l⟩) := lh (by rw [HO.out]; rfl)
  clear HO
  go_upto_region 7 with (first
   | (go_at_call 71; refine (HBc.out _ _ (by (with_reducible repeat first|exact HX1.out|exact eR _|apply eD|apply eN|apply eA|apply eO|apply eS|apply eC);all_goals first|omega|simp <;> omega) (by omega) HG0.out).mono ?_; rintro e w' ⟨rfl, hxl⟩; obtain ⟨xm, rfl⟩ := hxl.asLater; clear hxl))
  refine wp_world (fun W => Ext W1 W) (Ext.setCells (((Ext.refl W1).onto xm).alloc _) (by omega) _ _) ?_
  rintro W2 x2
  have HX2 := lh (HX1.out.trans x2)
  have HG2 : Hid (W2.cell? ⟨B, 0, none⟩ = some (.int .i64 x.site)) := lh ((x2.cell (p := ⟨B, 0, none⟩) (by show B < _; omega)).trans qg_0)
  have p0 := HG2.out
  have p2 : W2.cell? ⟨B, 2, none⟩ = some (.int .i64 x.until_) := (x2.cell (p := ⟨B, 2, none⟩) (by show B < _; omega)).trans qg_2
  have p3 : W2.cell? ⟨b3, 0, none⟩ = some (.slice LA ls.length lc) := (x2.cell (p := ⟨b3, 0, none⟩) (by show b3 < _; omega)).trans k3
  have p4 : W2.cell? ⟨b4, 0, none⟩ = some (.int .i64 lo) := (x2.cell (p := ⟨b4, 0, none⟩) (by show b4 < _; omega)).trans k4
  have HU2 := lh (HUR.out.ext x2)
  have hm2 : roomOf W2 (B + 1) 0 59 = true := by rw [HU2.out.room]; rfl
  have hs2 := x2.size
  have hlB : B < W2.heap.size := by omega
  clear x2 k2 k3 k4 qg_0 qg_2 hm HUR HBc HG0
  go_upto_region 8 with (go_at_call 74; refine (HBl.out _ _ HX2.out hlB HG2.out).mono ?_; rintro e w' ⟨rfl, hxl⟩; obtain ⟨xn, rfl⟩ := hxl.asLater; clear hxl)
  refine wp_world (fun W => Ext W2 W ∧ RowAt W (W2.heap.size + xn.n) (leC l)) ⟨Ext.setCells (((Ext.refl W2).onto xn).alloc _) (by omega) _ _, (RowAt.newAt (by simp [later_size])).store rfl⟩ ?_
  generalize hq : W2.heap.size + xn.n = q
  rintro W3 ⟨x3, uq⟩
  have hq2 : W2.heap.size ≤ q := by omega
  have HX3 := lh (HX2.out.trans x3)
  have p0 : W3.cell? ⟨B, 0, none⟩ = some (.int .i64 x.site) := (x3.cell (p := ⟨B, 0, none⟩) (by show B < _; omega)).trans p0
  have p4 : W3.cell? ⟨b4, 0, none⟩ = some (.int .i64 lo) := (x3.cell (p := ⟨b4, 0, none⟩) (by show b4 < _; omega)).trans p4
  have qq_2 : W3.cell? ⟨q, 2, none⟩ = some (.int .i64 l.until_) := (uq.cell 2).trans (le_g2 l)
  have kq : rowOf W3 q 0 20 = some (leC l) := uq.all rfl (by omega)
  have HU3 := lh (HU2.out.ext x3)
  have hm3 : roomOf W3 (B + 1) 0 59 = true := by rw [HU3.out.room]; rfl
  have hs3 := x3.size
  have hlq := uq.lt
  clear x3 uq p2 p3 hm2 HU2 HBl HG2 hq
  cases il with
  | true =>
   by_cases hu : l.until_ ≤ lo
   ·have HO' : Hid (O = ⟨x.site, 2, noCf, l⟩) := lh (by rw [HO1.out]; simp [hu])
    have hfo := ln_fits ⟨x.site, 2, noCf, l⟩
    clear HO1
    go_wp2
    rw [HO'.out]
    exact post_row ln_ty Tryz.results69 rfl rfl (RowAt.stored (n := 59) (ds := lnC ⟨x.site, 2, noCf, l⟩) HU3.out rfl rfl (by omega)) ⟨rfl, Ext.setCells HX3.out (by omega) _ _⟩
   ·have HO' : Hid (O = ⟨x.site, 3, noCf, l⟩) := lh (by rw [HO1.out]; simp [hu])
    have hfo := ln_fits ⟨x.site, 3, noCf, l⟩
    clear HO1
    go_wp2
    rw [HO'.out]
    exact post_row ln_ty Tryz.results69 rfl rfl (RowAt.stored (n := 59) (ds := lnC ⟨x.site, 3, noCf, l⟩) HU3.out rfl rfl (by omega)) ⟨rfl, Ext.setCells HX3.out (by omega) _ _⟩
  | false =>
   by_cases hu : x.until_ ≤ lo
   ·have HO' : Hid (O = ⟨x.site, 2, noCf, l⟩) := lh (by rw [HO1.out]; simp [hu])
    have hfo := ln_fits ⟨x.site, 2, noCf, l⟩
    clear HO1
    go_wp2
    rw [HO'.out]
    exact post_row ln_ty Tryz.results69 rfl rfl (RowAt.stored (n := 59) (ds := lnC ⟨x.site, 2, noCf, l⟩) HU3.out rfl rfl (by omega)) ⟨rfl, Ext.setCells HX3.out (by omega) _ _⟩
   ·have HO' : Hid (O = ⟨x.site, 3, noCf, l⟩) := lh (by rw [HO1.out]; simp [hu])
    have hfo := ln_fits ⟨x.site, 3, noCf, l⟩
    clear HO1
    go_wp2
    rw [HO'.out]
    exact post_row ln_ty Tryz.results69 rfl rfl (RowAt.stored (n := 59) (ds := lnC ⟨x.site, 3, noCf, l⟩) HU3.out rfl rfl (by omega)) ⟨rfl, Ext.setCells HX3.out (by omega) _ _⟩
end Go.Proofs.YtpfhmcdcmepfdaaGreatDoor