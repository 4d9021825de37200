
import Derived.WalkKit
import Derived.WalkSpells
import Derived.WalkLawsBesides
import Derived.Deep.QuietTactic
import Derived.BigQuiet
import Derived.Shelf.SlGeneric
import Derived.Shelf.SlIter.Nil
import Derived.Shelf.SortM.Plain
import Derived.Shelf.SortM.SortNone
import Derived.Ground.GgzProg
import Derived.Ground.SlgmProg
import Derived.RangeFuncNested
import Derived.RangeFuncBound
import Derived.RangeFuncCalls
import Derived.RangeFuncLeaves
import Derived.Shelf.Abstract
import Derived.Shelf.RegionOpen
import Derived.OwnWalkIn
import Derived.TacticsInMore
import Derived.LoopNIn
import Derived.LoopIn
import Derived.Maps.OwnIn
import Derived.StringKeys
import Derived.Test.YtpfhmcdcmepfdaaGreatDoorUCi
import Derived.Test.YtpfhmcdcmepfdaaGreatDoorUJh
set_option maxRecDepth 100000
set_option maxHeartbeats 64000000
set_option linter.unusedVariables false
set_option linter.unusedSimpArgs false
namespace Go.Proofs
open Go.Shelf
def Tryz.keysM_ren : Go.Shelf.Ren := ⟨fun | 7 => 203 | 10 => 229 | n => n, fun | 23 => 277 | 26 => 9 | 3 => 9 | 28 => 243 | 0 => 0 | 27 => 242 | 33 => 167 | 4 => 4 | n => n, fun | n => n⟩
theorem Tryz.keysM : Go.Proofs.SlLaysZ.n7 Tryz.prog Tryz.keysM_ren := {
 mixed := by kernel_rfl
 f7 := ⟨Tryz.f203.name, by decide, Tryz.func203.trans (congrArg some (by kernel_rfl))⟩
 f10 := ⟨Tryz.f229.name, by decide, Tryz.func229.trans (congrArg some (by kernel_rfl))⟩
 t0 := Tryz.underlying0
 a0 := Tryz.isAgg0
 z0 := Tryz.sizeOf0
 v0 := Tryz.zeroValue0
 t4 := Tryz.underlying4
 a4 := Tryz.isAgg4
 z4 := Tryz.sizeOf4
 v4 := Tryz.zeroValue4
 t23 := Tryz.underlying277
 a23 := Tryz.isAgg277
 z23 := Tryz.sizeOf277
 v23 := Tryz.zeroValue277
 t26 := Tryz.underlying9
 a26 := Tryz.isAgg9
 z26 := Tryz.sizeOf9
 v26 := Tryz.zeroValue9
 t27 := Tryz.underlying242
 a27 := Tryz.isAgg242
 z27 := Tryz.sizeOf242
 v27 := Tryz.zeroValue242
 t28 := Tryz.underlying243
 a28 := Tryz.isAgg243
 z28 := Tryz.sizeOf243
 v28 := Tryz.zeroValue243
 t33 := Tryz.underlying167
 a33 := Tryz.isAgg167
 z33 := Tryz.sizeOf167
 v33 := Tryz.zeroValue167 }
def Tryz.sortedM_ren : Go.Shelf.Ren := ⟨fun | 6 => 199 | 8 => 223 | 9 => 224 | 11 => 240 | 13 => 242 | 12 => 241 | 23 => 258 | 24 => 259 | 14 => 249 | 15 => 250 | 16 => 251 | 17 => 252 | 18 => 253 | 19 => 254 | 20 => 255 | 21 => 256 | 22 => 257 | 25 => 260 | 26 => 261 | 27 => 262 | 28 => 263 | 29 => 264 | 30 => 265 | 31 => 266 | n => n, fun | 26 => 9 | 28 => 243 | 24 => 34 | 0 => 0 | 3 => 3 | 37 => 260 | 48 => 195 | 50 => 198 | 4 => 4 | 40 => 315 | 39 => 314 | 45 => 233 | 5 => 5 | 9 => 9 | 51 => 326 | 55 => 330 | 57 => 332 | 58 => 333 | 33 => 167 | n => n, fun | n => n⟩
theorem Tryz.sortedM : Go.Proofs.SlLaysZ.n6 Tryz.prog Tryz.sortedM_ren := {
 mixed := by kernel_rfl
 f6 := ⟨Tryz.f199.name, by decide, Tryz.func199.trans (congrArg some (by kernel_rfl))⟩
 f8 := ⟨Tryz.f223.name, by decide, Tryz.func223.trans (congrArg some (by kernel_rfl))⟩
 f11 := ⟨Tryz.f240.name, by decide, Tryz.func240.trans (congrArg some (by kernel_rfl))⟩
 t0 := Tryz.underlying0
 a0 := Tryz.isAgg0
 z0 := Tryz.sizeOf0
 v0 := Tryz.zeroValue0
 t24 := Tryz.underlying34
 a24 := Tryz.isAgg34
 z24 := Tryz.sizeOf34
 v24 := Tryz.zeroValue34
 t26 := Tryz.underlying9
 a26 := Tryz.isAgg9
 z26 := Tryz.sizeOf9
 v26 := Tryz.zeroValue9
 t28 := Tryz.underlying243
 a28 := Tryz.isAgg243
 z28 := Tryz.sizeOf243
 v28 := Tryz.zeroValue243
 i26 := by kernel_rfl }
def Tryz.sortM_ren : Go.Shelf.Ren := ⟨fun | 6 => 224 | 8 => 242 | 9 => 241 | 19 => 258 | 20 => 259 | 21 => 249 | 22 => 250 | 23 => 251 | 24 => 252 | 25 => 253 | 26 => 254 | 27 => 255 | 28 => 256 | 29 => 257 | 36 => 260 | 31 => 261 | 32 => 262 | 37 => 263 | 38 => 264 | 39 => 265 | 41 => 266 | n => n, fun | 27 => 34 | 29 => 9 | 3 => 3 | 32 => 260 | 26 => 34 | 0 => 0 | 44 => 195 | 46 => 198 | 4 => 4 | 36 => 315 | 35 => 314 | 41 => 233 | 5 => 5 | 9 => 9 | 53 => 326 | 57 => 330 | 63 => 332 | 64 => 333 | n => n, fun | n => n⟩
theorem Tryz.sortM : Go.Proofs.SlLaysM.n6 Tryz.prog Tryz.sortM_ren := {
 mixed := by kernel_rfl
 f6 := ⟨Tryz.f224.name, by decide, Tryz.func224.trans (congrArg some (by kernel_rfl))⟩
 f8 := Tryz.func242.trans (congrArg some (by kernel_rfl))
 f9 := ⟨Tryz.f241.name, by decide, Tryz.func241.trans (congrArg some (by kernel_rfl))⟩
 f19 := Tryz.func258.trans (congrArg some (by kernel_rfl))
 f20 := Tryz.func259.trans (congrArg some (by kernel_rfl))
 f21 := ⟨Tryz.f249.name, by decide, Tryz.func249.trans (congrArg some (by kernel_rfl))⟩
 f22 := ⟨Tryz.f250.name, by decide, Tryz.func250.trans (congrArg some (by kernel_rfl))⟩
 f23 := ⟨Tryz.f251.name, by decide, Tryz.func251.trans (congrArg some (by kernel_rfl))⟩
 f24 := ⟨Tryz.f252.name, by decide, Tryz.func252.trans (congrArg some (by kernel_rfl))⟩
 f25 := ⟨Tryz.f253.name, by decide, Tryz.func253.trans (congrArg some (by kernel_rfl))⟩
 f26 := ⟨Tryz.f254.name, by decide, Tryz.func254.trans (congrArg some (by kernel_rfl))⟩
 f27 := ⟨Tryz.f255.name, by decide, Tryz.func255.trans (congrArg some (by kernel_rfl))⟩
 f28 := ⟨Tryz.f256.name, by decide, Tryz.func256.trans (congrArg some (by kernel_rfl))⟩
 f29 := ⟨Tryz.f257.name, by decide, Tryz.func257.trans (congrArg some (by kernel_rfl))⟩
 f31 := Tryz.func261.trans (congrArg some (by kernel_rfl))
 f32 := Tryz.func262.trans (congrArg some (by kernel_rfl))
 f36 := ⟨Tryz.f260.name, by decide, Tryz.func260.trans (congrArg some (by kernel_rfl))⟩
 f37 := ⟨Tryz.f263.name, by decide, Tryz.func263.trans (congrArg some (by kernel_rfl))⟩
 f38 := ⟨Tryz.f264.name, by decide, Tryz.func264.trans (congrArg some (by kernel_rfl))⟩
 f39 := ⟨Tryz.f265.name, by decide, Tryz.func265.trans (congrArg some (by kernel_rfl))⟩
 f41 := ⟨Tryz.f266.name, by decide, Tryz.func266.trans (congrArg some (by kernel_rfl))⟩
 t0 := Tryz.underlying0
 a0 := Tryz.isAgg0
 z0 := Tryz.sizeOf0
 v0 := Tryz.zeroValue0
 t3 := Tryz.underlying3
 a3 := Tryz.isAgg3
 z3 := Tryz.sizeOf3
 v3 := Tryz.zeroValue3
 t4 := Tryz.underlying4
 a4 := Tryz.isAgg4
 z4 := Tryz.sizeOf4
 v4 := Tryz.zeroValue4
 t5 := Tryz.underlying5
 a5 := Tryz.isAgg5
 z5 := Tryz.sizeOf5
 v5 := Tryz.zeroValue5
 t9 := Tryz.underlying9
 a9 := Tryz.isAgg9
 z9 := Tryz.sizeOf9
 v9 := Tryz.zeroValue9
 t26 := Tryz.underlying34
 a26 := Tryz.isAgg34
 z26 := Tryz.sizeOf34
 v26 := Tryz.zeroValue34
 t27 := Tryz.underlying34
 a27 := Tryz.isAgg34
 z27 := Tryz.sizeOf34
 v27 := Tryz.zeroValue34
 t29 := Tryz.underlying9
 a29 := Tryz.isAgg9
 z29 := Tryz.sizeOf9
 v29 := Tryz.zeroValue9
 t32 := Tryz.underlying260
 a32 := Tryz.isAgg260
 z32 := Tryz.sizeOf260
 v32 := Tryz.zeroValue260
 t35 := Tryz.underlying314
 a35 := Tryz.isAgg314
 z35 := Tryz.sizeOf314
 v35 := Tryz.zeroValue314
 t36 := Tryz.underlying315
 a36 := Tryz.isAgg315
 z36 := Tryz.sizeOf315
 v36 := Tryz.zeroValue315
 t41 := Tryz.underlying233
 a41 := Tryz.isAgg233
 z41 := Tryz.sizeOf233
 v41 := Tryz.zeroValue233
 t44 := Tryz.underlying195
 a44 := Tryz.isAgg195
 z44 := Tryz.sizeOf195
 v44 := Tryz.zeroValue195
 t46 := Tryz.underlying198
 a46 := Tryz.isAgg198
 z46 := Tryz.sizeOf198
 v46 := Tryz.zeroValue198
 t53 := Tryz.underlying326
 a53 := Tryz.isAgg326
 z53 := Tryz.sizeOf326
 v53 := Tryz.zeroValue326
 t57 := Tryz.underlying330
 a57 := Tryz.isAgg330
 z57 := Tryz.sizeOf330
 v57 := Tryz.zeroValue330
 t63 := Tryz.underlying332
 a63 := Tryz.isAgg332
 z63 := Tryz.sizeOf332
 v63 := Tryz.zeroValue332
 t64 := Tryz.underlying333
 a64 := Tryz.isAgg333
 z64 := Tryz.sizeOf333
 v64 := Tryz.zeroValue333 }
end Go.Proofs

namespace Go.Proofs
open Go.RowKit Go.Maps Go.Sort Go.Shelf
-- maps.Keys[map[string]string,string,string] (function 203; its iterator 229) · slices.Sorted[string] (199) · slices.Sort[[]string,string] (224) · the map's type 277, the keys' 9
theorem Tryz.sortsM (m : Nat) : AnyZ.SortsIn Tryz.prog Tryz.sortedM_ren Fence.wide m :=
 ⟨fun blk off cap ss W hH hblk hsz => callsIn_wide.2 (AnyM.slices_Sort_string Tryz.sortM blk off cap ss W hH hblk hsz),
  fun p cap W => callsIn_wide.2 (AnyM.slices_Sort_string_none Tryz.sortM p cap W)⟩
theorem Tryz.mapsKeys (mb : Option Nat) (W : World) : CallsIn Fence.wide 5 Tryz.prog 203 #[.map mb] W fun e w' => e = .returned (.func (.func 229) #[] #[.pointer (some ⟨W.heap.size, 0, none⟩)]) ∧ w' = W.alloc (.cells #[.map mb] 277) :=
 AnyZ.keys_in Tryz.keysM Fence.wide 5 trivial rfl mb W
theorem Tryz.sortedKeys {H : Type} (b nn : Nat) (D0 : DataW H) (R : Value → Option (DataW H × List MemPlace)) (w : World) (hown : w.ownsMap Tryz.prog 9 R b nn D0) (hmax : Maps.size D0 ≤ maxLen) (hbytes : Maps.size D0 * 16 ≤ 140737488355328) :
  CallsIn Fence.wide 5 Tryz.prog 199 #[.func (.func 229) #[] #[.pointer (some ⟨w.heap.size, 0, none⟩)]] (w.alloc (.cells #[.map (some b)] 277)) fun e w' => ∃ (v : Value) (ss : List (List UInt8)), e = .returned v ∧ ss.Perm (strKeys D0) ∧
   w'.ownsRow (w.alloc (.cells #[.map (some b)] 277)).heap.size 9 1 v ss.length ((ss.mergeSort (fun x y => decide (x ≤ y))).map encStr) ∧ (v = .slice none 0 0 ↔ ss = []) ∧ Below (w.alloc (.cells #[.map (some b)] 277)).heap.size (w.alloc (.cells #[.map (some b)] 277)) w' := by
 have hbl := hown.lt
 have hseq : SeqGives Fence.wide 2 Tryz.prog 229 #[.pointer (some ⟨w.heap.size, 0, none⟩)] encStr (fun ss => ss.Perm (strKeys D0)) (Maps.size D0) (w.alloc (.cells #[.map (some b)] 277)) :=
  AnyZ.keys_gives (ρ := Tryz.keysM_ren) { Tryz.keysM with } Fence.wide _ trivial rfl (by omega) w.heap.size b nn D0 _ (by simp) (by simp) (by
   obtain ⟨es, clock, hb, Ft, hs, hD⟩ := hown
   exact ⟨es, clock, (Below.heap_alloc _ _ b hbl).trans hb, Ft, hs, hD⟩)
 exact AnyZ.sorted_in Tryz.sortedM Fence.wide 5 trivial trivial trivial trivial rfl (by omega) (Tryz.sortsM _) (enters_of Tryz.func224 (by kernel_rfl) rfl) 229 #[.pointer (some ⟨w.heap.size, 0, none⟩)] trivial (enters_of Tryz.func229 (by kernel_rfl) rfl) _ _ hmax hbytes _ hseq
theorem Tryz.sortedKeysNil (w : World) :
  CallsIn Fence.wide 5 Tryz.prog 199 #[.func (.func 229) #[] #[.pointer (some ⟨w.heap.size, 0, none⟩)]] (w.alloc (.cells #[.map none] 277)) fun e w' => ∃ (v : Value) (ss : List (List UInt8)), e = .returned v ∧ ss = [] ∧
   w'.ownsRow (w.alloc (.cells #[.map none] 277)).heap.size 9 1 v ss.length ((ss.mergeSort (fun x y => decide (x ≤ y))).map encStr) ∧ (v = .slice none 0 0 ↔ ss = []) ∧ Below (w.alloc (.cells #[.map none] 277)).heap.size (w.alloc (.cells #[.map none] 277)) w' := by
 have hseq : SeqGives Fence.wide 2 Tryz.prog 229 #[.pointer (some ⟨w.heap.size, 0, none⟩)] encStr (fun ss : List (List UInt8) => ss = []) 0 (w.alloc (.cells #[.map none] 277)) :=
  AnyZ.keys_gives_nil (ρ := Tryz.keysM_ren) { Tryz.keysM with } Fence.wide _ trivial rfl w.heap.size _ (by simp) (by simp)
 exact AnyZ.sorted_in Tryz.sortedM Fence.wide 5 trivial trivial trivial trivial rfl (by omega) (Tryz.sortsM _) (enters_of Tryz.func224 (by kernel_rfl) rfl) 229 #[.pointer (some ⟨w.heap.size, 0, none⟩)] trivial (enters_of Tryz.func229 (by kernel_rfl) rfl) _ 0 (Nat.zero_le _) (by omega) _ hseq
end Go.Proofs

namespace Go.Proofs.YtpfhmcdcmepfdaaGreatDoor
open Go.RowKit Go.Shelf Go.Maps
open Go.Proofs
open Go.Proofs.YtpfhmcdcmepfdaaGreatDoor.Ad (Pr AscP)
theorem strK : Keyed Tryz.prog 9 := string_keyed Tryz.underlying9
theorem ownsMap_same {P : Program} {k : TypeId} {R : Value → Option (DataW Unit × List MemPlace)} {w w' : World} {b n : Nat} {D : DataW Unit} (h : w.ownsMap P k R b n D) (e : w'.heap[b]? = w.heap[b]?) : w'.ownsMap P k R b n D := by
 obtain ⟨es, clock, hb, r⟩ := h
 exact ⟨es, clock, e.trans hb, r⟩
theorem bs_mk (x : ByteArray) : (⟨(bsT x).toArray⟩ : ByteArray) = x := by cases x; simp [bsT]
theorem piece_le (c : UInt8) : ∀ s : List UInt8, ∀ p ∈ Ad.pieces c s, p.length ≤ s.length
 | [], p, hp => by simp [Ad.pieces] at hp; rw [hp]; simp
 | x :: r, p, hp => by
  have ih := piece_le c r
  unfold Ad.pieces at hp
  split at hp
  ·rcases List.mem_cons.1 hp with e | e
   ·rw [e]; simp
   ·have := ih p e; simp only [List.length_cons]; omega
  ·split at hp
   ·rw [List.mem_singleton] at hp; rw [hp]; simp
   ·rename_i q l hq
    rcases List.mem_cons.1 hp with e | e
    ·rw [e]
     have := ih q (by rw [hq]; simp)
     simp only [List.length_cons]; omega
    ·have := ih p (by rw [hq]; exact List.mem_cons_of_mem _ e)
     simp only [List.length_cons]; omega
theorem zeroStrC (w : World) : (zeroValue 9).run Tryz.prog w = .ok (.string ByteArray.empty) w := by kernel_rfl
def keyB (p : Pr) : ByteArray := ⟨p.1.toArray⟩
theorem name_64 {p : Pr} (h : Ad.goodP p = true) : (keyB p).size ≤ 64 := by
 simp only [Ad.goodP, Bool.and_eq_true] at h
 have h1 := h.1
 simp only [Tg.nameB, Tg.wordB, Bool.and_eq_true, decide_eq_true_eq] at h1
 have h2 : (keyB p).size = p.1.length := by simp [keyB, ByteArray.size]
 omega
theorem keys_flat : ∀ L : List Pr, L.map (Go.Proofs.encStr ∘ fun x => x.1) = L.flatMap (fun a => encStr (keyB a))
 | [] => rfl
 | p :: l => by rw [List.map_cons, List.flatMap_cons, keys_flat l]; rfl
theorem keys_owned {base : Nat} {w : World} {v : Value} {ss : List (List UInt8)} {L : List Pr} (hs : ss.mergeSort (fun x y => decide (x ≤ y)) = L.map (·.1)) (h : w.ownsRow base 9 1 v ss.length ((ss.mergeSort (fun x y => decide (x ≤ y))).map Go.Proofs.encStr)) :
  ∃ A c, v = .slice A L.length c ∧ OwnsStr base w A c (L.map keyB) := by
 have hl : ss.length = L.length := by
  have := congrArg List.length hs
  rwa [List.length_mergeSort, List.length_map] at this
 have e : (ss.mergeSort (fun x y => decide (x ≤ y))).map Go.Proofs.encStr = (L.map keyB).flatMap encStr := by
  rw [hs, List.map_map, List.flatMap_map]
  exact keys_flat L
 rw [e, hl] at h
 have hl2 : (L.map keyB).length = L.length := List.length_map _
 obtain ⟨h1, h2⟩ := h
 rcases h2 with ⟨rfl, h3⟩ | ⟨g, cap, cur, rfl, h3⟩
 ·exact ⟨none, 0, by rw [h3], by unfold OwnsStr Owns World.ownsRow; rw [hl2]; exact ⟨h1, .inl ⟨by rw [h3], h3⟩⟩⟩
 ·exact ⟨_, cap, rfl, by unfold OwnsStr Owns World.ownsRow; rw [hl2]; exact ⟨h1, .inr ⟨g, cap, cur, rfl, h3⟩⟩⟩
section
attribute [local go_sem] Oper.semAt_some
abbrev ownsP (W : World) (bm n : Nat) (D : DataW Unit) : Prop := W.ownsMap Tryz.prog 9 (plainElem Tryz.prog 9) bm n D
def PrJ (b4 b2 b3 bm rc : Nat) (ps : List (List UInt8)) (rdy : Obj) (k : Nat) (W : World) : Prop :=
 ∃ (L : List Pr) (D : DataW Unit), Hid (Ad.qAll (ps.take k) = some L) ∧ Hid (MapIs D L) ∧ ownsP W bm k D ∧ Boxed W b4 277 (.map (some bm)) ∧ Boxed W b2 210 (.slice none 0 0) ∧ Boxed W b3 4 (.bool false) ∧ W.heap[rc]? = some rdy
theorem q_take {ps : List (List UInt8)} {k : Nat} (h : k < ps.length) {out : List Pr} (ho : Ad.qAll (ps.take k) = some out) : Ad.qAll (ps.take (k + 1)) = Ad.qIn out ps[k] := by
 rw [List.take_succ_eq_append_getElem h, Ad.q_snoc, ho]
 rfl
theorem q_stop {ps : List (List UInt8)} {k : Nat} (h : Ad.qAll (ps.take k) = none) : Ad.qAll ps = none := by
 have e : Ad.qAll ps = (ps.drop k).foldl Ad.qStep (Ad.qAll (ps.take k)) := by
  conv => lhs; rw [← List.take_append_drop k ps]
  unfold Ad.qAll
  rw [List.foldl_append]
 rw [e, h]
 exact Ad.q_none _
def PrSt (b2 b3 rc : Nat) (ps : List (List UInt8)) (rdy : Obj) (W : World) : Prop :=
 Ad.qAll ps = none ∧ Boxed W b2 210 (.slice none 0 0) ∧ Boxed W b3 4 (.bool false) ∧ W.heap[rc]? = some (doneOf .ret rdy)
theorem pairs_some (s : ByteArray) (w : World) (h0 : bsT s ≠ []) (hs : s.size ≤ 4096) :
  Calls Tryz.prog 175 #[.string s] w fun e w' => PrsU (Ad.quN (bsT s)) w.heap.size e w' ∧ Ext w w' := by
 have hs0 : (s.toList == []) = false := by rw [Lib.toList_data]; simpa [bsT] using h0
 have hs1 : s.toList.isEmpty = false := by rw [Lib.toList_data]; simpa [bsT] using h0
 have HQN : Hid (Ad.quN (bsT s) = Ad.qAll (Ad.pieces 38 (bsT s))) := lh (by unfold Ad.quN; rw [if_neg h0])
 have HSS := lh (fun W => splitSeq_any s 38 W)
 have hmm := @run_makeMap Tryz.prog
 clear h0
 refine (callsIn_wide (n := 6)).1 ?_
 refine callsIn_of_wp_marks Tryz.func175 rfl trivial ?_ rfl
 simp only [Tryz.ntmps175, List.size_toArray, List.length_cons, List.length_nil, Nat.reduceAdd, Nat.reduceSub, Array.replicate_succ, Array.replicate_zero, List.push_toArray, List.append_toArray, List.nil_append, List.cons_append]
 gi_wp2_with (refine ⟨trivial, ?_⟩; gi_at_call 172; refine (callsIn_wide.2 (HSS.out _)).mono ?_; rintro e w' ⟨rfl, rfl⟩)
 obtain ⟨W0, hW0⟩ : ∃ W0, (((((((w.alloc (.cells #[.slice none 0 0] 210)).alloc (.cells #[.bool false] 4)).alloc (.map #[] 0)).alloc (.cells #[.map (some (w.heap.size + 1 + 1))] 277)).alloc (.cells #[.string s] 9)).alloc (.cells #[.string ⟨#[38]⟩] 9)).alloc (.cells #[.int .i64 0] 3)) = W0 := ⟨_, rfl⟩
 have b1 : Boxed W0 w.heap.size 210 (.slice none 0 0) := by rw [← hW0]; exact ((((((Boxed.new w 210 _).alloc _).alloc _).alloc _).alloc _).alloc _).alloc _
 have b2 : Boxed W0 (w.heap.size + 1) 4 (.bool false) := by
  rw [← hW0]
  have := Boxed.new (w.alloc (.cells #[.slice none 0 0] 210)) 4 (.bool false); rw [World.size_alloc] at this; exact ((((this.alloc _).alloc _).alloc _).alloc _).alloc _
 have bmp : ownsP W0 (w.heap.size + 1 + 1) 0 (.map []) := by
  rw [← hW0]
  have := World.ownsMap_made (H := Unit) ((w.alloc (.cells #[.slice none 0 0] 210)).alloc (.cells #[.bool false] 4)) Tryz.prog 9 (plainElem Tryz.prog 9); rw [World.size_alloc, World.size_alloc] at this; exact (((this.alloc _).alloc _).alloc _).alloc _
 have b4 : Boxed W0 (w.heap.size + 1 + 1 + 1) 277 (.map (some (w.heap.size + 1 + 1))) := by
  rw [← hW0]
  have := Boxed.new (((w.alloc (.cells #[.slice none 0 0] 210)).alloc (.cells #[.bool false] 4)).alloc (.map #[] 0)) 277 (.map (some (w.heap.size + 1 + 1))); rw [World.size_alloc, World.size_alloc, World.size_alloc] at this; exact ((this.alloc _).alloc _).alloc _
 have bsx : Boxed W0 (w.heap.size + 1 + 1 + 1 + 1) 9 (.string s) := by
  rw [← hW0]
  have := Boxed.new ((((w.alloc (.cells #[.slice none 0 0] 210)).alloc (.cells #[.bool false] 4)).alloc (.map #[] 0)).alloc (.cells #[.map (some (w.heap.size + 1 + 1))] 277)) 9 (.string s); rw [World.size_alloc, World.size_alloc, World.size_alloc, World.size_alloc] at this; exact (this.alloc _).alloc _
 have bsep : Boxed W0 (w.heap.size + 1 + 1 + 1 + 1 + 1) 9 (.string ⟨#[38]⟩) := by
  rw [← hW0]
  have := Boxed.new (((((w.alloc (.cells #[.slice none 0 0] 210)).alloc (.cells #[.bool false] 4)).alloc (.map #[] 0)).alloc (.cells #[.map (some (w.heap.size + 1 + 1))] 277)).alloc (.cells #[.string s] 9)) 9 (.string ⟨#[38]⟩); rw [World.size_alloc, World.size_alloc, World.size_alloc, World.size_alloc, World.size_alloc] at this; exact this.alloc _
 have bsv : Boxed W0 (w.heap.size + 1 + 1 + 1 + 1 + 1 + 1) 3 (.int .i64 0) := by
  rw [← hW0]
  have := Boxed.new ((((((w.alloc (.cells #[.slice none 0 0] 210)).alloc (.cells #[.bool false] 4)).alloc (.map #[] 0)).alloc (.cells #[.map (some (w.heap.size + 1 + 1))] 277)).alloc (.cells #[.string s] 9)).alloc (.cells #[.string ⟨#[38]⟩] 9)) 3 (.int .i64 0); rw [World.size_alloc, World.size_alloc, World.size_alloc, World.size_alloc, World.size_alloc, World.size_alloc] at this; exact this
 have bs0 : W0.heap.size = w.heap.size + 7 := by rw [← hW0]; simp
 have bx : Ext w W0 := by rw [← hW0]; exact (((((((eR _).alloc _).alloc _).alloc _).alloc _).alloc _).alloc _).alloc _
 rw [hW0]
 clear hW0
 have hbs1 := Nat.le_of_eq bs0
 have hbs2 := Nat.le_of_eq bs0.symm
 clear bs0
 refine rf_enter2 rfl (by omega) (gf := 227) (lb := #[.pointer (some ⟨w.heap.size + 1 + 1 + 1 + 1 + 1, 0, none⟩), .pointer (some ⟨w.heap.size + 1 + 1 + 1 + 1, 0, none⟩), .pointer (some ⟨w.heap.size + 1 + 1 + 1 + 1 + 1 + 1, 0, none⟩)]) rfl trivial (enters_of Tryz.func227 (by kernel_rfl) rfl) ?_
 intro fn WL rdy hfn hrdy hE hEs hl0 hD0
 have hEa := Nat.le_of_eq hEs
 have hEb := Nat.le_of_eq hEs.symm
 clear hEs
 have hM0 : ownsP WL (w.heap.size + 1 + 1) 0 (.map []) := ownsMap_same bmp (hE.below.block _ (by omega))
 refine CallsIn.mono (splitseq1_in 38 (6 - 1) (by omega) (W0.heap.size + 1) (w.heap.size + 1 + 1 + 1 + 1) (w.heap.size + 1 + 1 + 1 + 1 + 1) (w.heap.size + 1 + 1 + 1 + 1 + 1 + 1) s WL (by omega) (Boxed.ext bsep hE) (Boxed.ext bsx hE) (Boxed.ext bsv hE) ⟨by omega, by omega⟩
  (fun k => (w.heap.size ≤ k ∧ k ≠ W0.heap.size ∧ k ≠ w.heap.size + 4 ∧ k ≠ w.heap.size + 5 ∧ k ≠ w.heap.size + 6)) ⟨by omega, by omega, by omega⟩
  (PrJ (w.heap.size + 1 + 1 + 1) w.heap.size (w.heap.size + 1) (w.heap.size + 1 + 1) (W0.heap.size + 1) (Ad.pieces 38 (bsT s)) rdy)
  (PrSt w.heap.size (w.heap.size + 1) (W0.heap.size + 1) (Ad.pieces 38 (bsT s)) rdy)
  ⟨[], .map [], lh rfl, lh MapIs.nil, hM0, Boxed.ext b4 hE, Boxed.ext b1 hE, Boxed.ext b2 hE, hl0⟩
  (fun k W1 W2 ⟨L', D', h1, h2, h4, h3, h5, h6, h7⟩ hx => ⟨L', D', h1, h2, ownsMap_same h4 (hx.block _ h4.lt (by omega)), hx.boxed h3 (by omega), hx.boxed h5 (by omega), hx.boxed h6 (by omega), (hx.block _ (Array.getElem?_eq_some_iff.1 h7).1 (by omega)).trans h7⟩) ?hY) ?post
 case hY =>
  rintro k hk x W1 hx ⟨L', D', HL, HMI, hM1, hbo, hb2, hb3, hrec⟩ hBS
  have hsz1 := hBS.size
  have hlt := (Array.getElem?_eq_some_iff.1 hrec).1
  have HSt : Hid (Ad.qAll ((Ad.pieces 38 (bsT s)).take (k + 1)) = Ad.qIn L' (bsT x)) := lh (by rw [q_take hk HL.out, hx])
  have HStop : Hid (Ad.qIn L' (bsT x) = none → Ad.qAll (Ad.pieces 38 (bsT s)) = none) := lh (fun h => q_stop (HSt.out.trans h))
  have hxs : x.size ≤ 4096 := by
   have h1 := piece_le 38 (bsT s) _ (List.getElem_mem hk)
   rw [← hx, bsT_size, bsT_size] at h1
   omega
  have hA : AscP L' := (Ad.qAll_ok _ [] L' HL.out (by simp [AscP]) (by simp)).1
  have HA := lh hA
  have HRdy := lh hrdy
  rw [hrdy] at hrec
  clear hrdy hx HL hA
  refine rf_round hrec hfn rfl ?_
  have HREC := lh hrec
  clear hrec
  gi_wp2
  refine ⟨(Array.getElem?_eq_some_iff.1 HREC.out).2, ?_⟩
  intro W2 hbt hs2 hr2
  have hs2a : W2.heap.size ≤ W1.heap.size := Nat.le_of_eq hs2
  have hs2b : W1.heap.size ≤ W2.heap.size := Nat.le_of_eq hs2.symm
  have hm2 : ownsP W2 (w.heap.size + 1 + 1) k D' := ownsMap_same hM1 (hbt.block _ hM1.lt (fun e => by injection e; omega))
  have hbp2 : Boxed W2 (w.heap.size + 1 + 1 + 1) 277 (.map (some (w.heap.size + 1 + 1))) := boxed_but hbo hbt (by omega)
  have hq2 : Boxed W2 w.heap.size 210 (.slice none 0 0) := boxed_but hb2 hbt (by omega)
  have hq3 : Boxed W2 (w.heap.size + 1) 4 (.bool false) := boxed_but hb3 hbt (by omega)
  have c3 := hbp2.cell
  have c4 := hq2.cell
  have c4f := hq2.frozen
  have c5 := hq3.cell
  have c5f := hq3.frozen
  have HBt := lh hbt
  have HR2 := lh hr2
  have HM2 := lh hm2
  have HP2 := lh hbp2
  have HQ2 := lh hq2
  have HQ3 := lh hq3
  clear hbt hr2 hs2 hM1 hbo hb2 hb3 hm2 hbp2 hq2 hq3
  gi_wp2_with (refine ⟨trivial, ?_⟩; gi_at_call 154; refine (show Hid _ from ?_).out)
  refine lh ?_
  refine (CallsIn.inRound _ (callsIn_wide.2 (scut_any x 61 _ (by omega)))).mono ?_
  rintro e w' ⟨⟨a, b, f, rfl, hc, has, hbs⟩, hxl⟩
  obtain ⟨xm, rfl⟩ := hxl.asLater
  clear hxl
  have HC := lh hc
  have HNm := lh (fun W => name_any a W)
  have HWd := lh (fun W => word_any b W)
  have HPo : Hid (Ad.pairOf (bsT x) = if f = true ∧ Tg.nameB (bsT a) = true ∧ Tg.wordB (bsT b) = true then some (bsT a, bsT b) else none) := lh (by unfold Ad.pairOf; rw [← hc])
  clear hc
  cases f with
  | false =>
   have HFl := lh (HStop.out (by unfold Ad.qIn; rw [HPo.out]; rfl))
   clear HStop HSt HPo HNm HWd HC
   gi_wp2_with (refine ⟨trivial, ?_⟩)
   refine ⟨?_, ?_⟩
   ·refine (Below.heap_setCell _ _ _ _ (by show _ ≠ w.heap.size + 1; omega)).trans ((Below.heap_setCell _ _ _ _ (by show _ ≠ w.heap.size; omega)).trans ?_)
    exact ((ext_later W2 xm).below.block _ (by omega)).trans HR2.out
   intro W4 hb4 hr4
   refine ⟨.inr ⟨rfl, HFl.out, ?_, ?_, by rw [HRdy.out]; exact hr4⟩, ?_⟩
   ·exact boxed_but (((Boxed.ext HQ2.out (ext_later W2 xm)).set _).other (by omega) _) hb4 (by omega)
   ·exact boxed_but ((((Boxed.ext HQ3.out (ext_later W2 xm)).other (by omega) _)).set _) hb4 (by omega)
   ·refine (ButS.of_but HBt.out (.inr ⟨by omega, by omega, by omega, by omega, by omega⟩)).trans ((ButS.of_ext (ext_later W2 xm)).trans ?_)
    exact (((ButS.refl _ (later W2 xm)).setCell (p := ⟨w.heap.size, 0, none⟩) (.inl ⟨by show w.heap.size ≤ w.heap.size; omega, by show w.heap.size ≠ _; omega, by show w.heap.size ≠ _; omega, by show w.heap.size ≠ _; omega, by show w.heap.size ≠ _; omega⟩) _).setCell (p := ⟨w.heap.size + 1, 0, none⟩) (.inl ⟨by show _ ≤ w.heap.size + 1; omega, by show w.heap.size + 1 ≠ _; omega, by show w.heap.size + 1 ≠ _; omega, by show w.heap.size + 1 ≠ _; omega, by show w.heap.size + 1 ≠ _; omega⟩) _).trans (ButS.of_but hb4 (.inr ⟨by omega, by omega, by omega, by omega, by omega⟩))
  | true =>
   cases hn : Tg.nameB (bsT a) with
   | false =>
    have hn' : Tg.nameB a.data.toList = false := hn
    rw [hn'] at HNm
    have HFl := lh (HStop.out (by unfold Ad.qIn; rw [HPo.out, hn]; rfl))
    clear HStop HSt HPo HWd HC hn hn'
    gi_wp2_with (refine ⟨trivial, ?_⟩; try (first
     | (gi_at_call 176; refine (CallsIn.inRound _ (callsIn_wide.2 (HNm.out _))).mono ?_; rintro e w' ⟨rfl, hxl⟩; obtain ⟨xn, rfl⟩ := hxl.asLater; clear hxl)
     | (gi_at_call 179; refine (CallsIn.inRound _ (callsIn_wide.2 (HWd.out _))).mono ?_; rintro e w' ⟨rfl, hxl⟩; obtain ⟨xo, rfl⟩ := hxl.asLater; clear hxl)))
    refine ⟨?_, ?_⟩
    ·refine (Below.heap_setCell _ _ _ _ (by show _ ≠ w.heap.size + 1; omega)).trans ((Below.heap_setCell _ _ _ _ (by show _ ≠ w.heap.size; omega)).trans ?_)
     exact ((ext_later W2 (xm.comp xn)).below.block _ (by omega)).trans HR2.out
    intro W4 hb4 hr4
    refine ⟨.inr ⟨rfl, HFl.out, ?_, ?_, by rw [HRdy.out]; exact hr4⟩, ?_⟩
    ·exact boxed_but (((Boxed.ext HQ2.out (ext_later W2 (xm.comp xn))).set _).other (by omega) _) hb4 (by omega)
    ·exact boxed_but ((((Boxed.ext HQ3.out (ext_later W2 (xm.comp xn))).other (by omega) _)).set _) hb4 (by omega)
    ·refine (ButS.of_but HBt.out (.inr ⟨by omega, by omega, by omega, by omega, by omega⟩)).trans ((ButS.of_ext (ext_later W2 (xm.comp xn))).trans ?_)
     exact (((ButS.refl _ (later W2 (xm.comp xn))).setCell (p := ⟨w.heap.size, 0, none⟩) (.inl ⟨by show w.heap.size ≤ w.heap.size; omega, by show w.heap.size ≠ _; omega, by show w.heap.size ≠ _; omega, by show w.heap.size ≠ _; omega, by show w.heap.size ≠ _; omega⟩) _).setCell (p := ⟨w.heap.size + 1, 0, none⟩) (.inl ⟨by show _ ≤ w.heap.size + 1; omega, by show w.heap.size + 1 ≠ _; omega, by show w.heap.size + 1 ≠ _; omega, by show w.heap.size + 1 ≠ _; omega, by show w.heap.size + 1 ≠ _; omega⟩) _).trans (ButS.of_but hb4 (.inr ⟨by omega, by omega, by omega, by omega, by omega⟩))
   | true =>
    have hn' : Tg.nameB a.data.toList = true := hn
    rw [hn'] at HNm
    cases hwd : Tg.wordB (bsT b) with
    | false =>
     have hw' : Tg.wordB b.data.toList = false := hwd
     rw [hw'] at HWd
     have HFl := lh (HStop.out (by unfold Ad.qIn; rw [HPo.out, hwd]; simp))
     clear HStop HSt HPo HC hn hn' hwd hw'
     gi_wp2_with (refine ⟨trivial, ?_⟩; try (first
      | (gi_at_call 176; refine (CallsIn.inRound _ (callsIn_wide.2 (HNm.out _))).mono ?_; rintro e w' ⟨rfl, hxl⟩; obtain ⟨xn, rfl⟩ := hxl.asLater; clear hxl)
      | (gi_at_call 179; refine (CallsIn.inRound _ (callsIn_wide.2 (HWd.out _))).mono ?_; rintro e w' ⟨rfl, hxl⟩; obtain ⟨xo, rfl⟩ := hxl.asLater; clear hxl)))
     refine ⟨?_, ?_⟩
     ·refine (Below.heap_setCell _ _ _ _ (by show _ ≠ w.heap.size + 1; omega)).trans ((Below.heap_setCell _ _ _ _ (by show _ ≠ w.heap.size; omega)).trans ?_)
      exact ((ext_later W2 ((xm.comp xn).comp xo)).below.block _ (by omega)).trans HR2.out
     intro W4 hb4 hr4
     refine ⟨.inr ⟨rfl, HFl.out, ?_, ?_, by rw [HRdy.out]; exact hr4⟩, ?_⟩
     ·exact boxed_but (((Boxed.ext HQ2.out (ext_later W2 ((xm.comp xn).comp xo))).set _).other (by omega) _) hb4 (by omega)
     ·exact boxed_but ((((Boxed.ext HQ3.out (ext_later W2 ((xm.comp xn).comp xo))).other (by omega) _)).set _) hb4 (by omega)
     ·refine (ButS.of_but HBt.out (.inr ⟨by omega, by omega, by omega, by omega, by omega⟩)).trans ((ButS.of_ext (ext_later W2 ((xm.comp xn).comp xo))).trans ?_)
      exact (((ButS.refl _ (later W2 ((xm.comp xn).comp xo))).setCell (p := ⟨w.heap.size, 0, none⟩) (.inl ⟨by show w.heap.size ≤ w.heap.size; omega, by show w.heap.size ≠ _; omega, by show w.heap.size ≠ _; omega, by show w.heap.size ≠ _; omega, by show w.heap.size ≠ _; omega⟩) _).setCell (p := ⟨w.heap.size + 1, 0, none⟩) (.inl ⟨by show _ ≤ w.heap.size + 1; omega, by show w.heap.size + 1 ≠ _; omega, by show w.heap.size + 1 ≠ _; omega, by show w.heap.size + 1 ≠ _; omega, by show w.heap.size + 1 ≠ _; omega⟩) _).trans (ButS.of_but hb4 (.inr ⟨by omega, by omega, by omega, by omega, by omega⟩))
    | true =>
     have hw' : Tg.wordB b.data.toList = true := hwd
     rw [hw'] at HWd
     have HN : Hid (Ad.qAll ((Ad.pieces 38 (bsT s)).take (k + 1)) = some (Ad.putP (bsT a, bsT b) L')) := lh (by rw [HSt.out]; unfold Ad.qIn; rw [HPo.out, if_pos ⟨rfl, hn, hwd⟩]; rfl)
     clear HStop HSt HPo HC hn hn' hwd hw'
     gi_wp2_with (first
      | (refine ⟨trivial, ?_⟩; try (first
       | (gi_at_call 176; refine (CallsIn.inRound _ (callsIn_wide.2 (HNm.out _))).mono ?_; rintro e w' ⟨rfl, hxl⟩; obtain ⟨xn, rfl⟩ := hxl.asLater; clear hxl)
       | (gi_at_call 179; refine (CallsIn.inRound _ (callsIn_wide.2 (HWd.out _))).mono ?_; rintro e w' ⟨rfl, hxl⟩; obtain ⟨xo, rfl⟩ := hxl.asLater; clear hxl)))
      | (gi_at_mapUpdate; refine (show Hid _ from ?_).out))
     refine lh ?_
     have HM3 : Hid (ownsP (later W2 ((xm.comp xn).comp xo)) (w.heap.size + 1 + 1) k D') := lh (ownsMap_same HM2.out ((ext_later W2 _).below.block _ HM2.out.lt))
     have hkl := Ad.pieces_len 38 (bsT s)
     rw [bsT_size] at hkl
     refine wpListIn_mapUpdate_own _ rfl _ _ _ 277 rfl 9 9 strK Tryz.underlying277 _ (w.heap.size + 1 + 1) k D' rfl HM3.out (by unfold maxLen; omega) (.string a) (.string b) (.string (bsT a)) rfl rfl (Go.WideMaps.keyOf_string_mk Tryz.underlying9 (by unfold maxLen; omega)) (.lit (.string (bsT b))) [] (plainElem_string Tryz.underlying9 (by unfold maxLen; omega)) ?_
     intro w3 hown3 hgrow3
     have HG3 := lh hgrow3
     have HO3 := lh hown3
     clear hown3 hgrow3 hkl
     gi_wp2
     refine ⟨(HG3.out.block _ (by rw [later_size]; omega) (fun e => by injection e; omega)).trans (((ext_later W2 _).below.block _ (by omega)).trans HR2.out), ?_⟩
     intro W4 hb4 hr4
     have hs3 := HG3.out.size
     rw [later_size] at hs3
     have hq2 : Boxed w3 w.heap.size 210 (.slice none 0 0) := (HG3.out.block _ (by rw [later_size]; omega) (fun e => by injection e; omega)).trans (Boxed.ext HQ2.out (ext_later W2 _))
     have hq3 : Boxed w3 (w.heap.size + 1) 4 (.bool false) := (HG3.out.block _ (by rw [later_size]; omega) (fun e => by injection e; omega)).trans (Boxed.ext HQ3.out (ext_later W2 _))
     have hp2 : Boxed w3 (w.heap.size + 1 + 1 + 1) 277 (.map (some (w.heap.size + 1 + 1))) := (HG3.out.block _ (by rw [later_size]; omega) (fun e => by injection e; omega)).trans (Boxed.ext HP2.out (ext_later W2 _))
     refine ⟨.inl ⟨rfl, _, _, HN, lh (HMI.out.put HA.out (bsT a, bsT b)), ownsMap_same HO3.out (hb4.block _ HO3.out.lt (fun e => by injection e; omega)), boxed_but hp2 hb4 (by omega), boxed_but hq2 hb4 (by omega), boxed_but hq3 hb4 (by omega), by rw [HRdy.out]; exact hr4⟩, ?_⟩
     refine (ButS.of_but HBt.out (.inr ⟨by omega, by omega, by omega, by omega, by omega⟩)).trans ((ButS.of_ext (ext_later W2 ((xm.comp xn).comp xo))).trans ?_)
     exact (ButS.of_grownBy HG3.out (fun k e => by injection e; subst_vars; exact ⟨by omega, by omega, by omega, by omega, by omega⟩)).trans (ButS.of_but hb4 (.inr ⟨by omega, by omega, by omega, by omega, by omega⟩))
 case post =>
  rintro e W' ⟨⟨v', rfl⟩, hJS, hB⟩
  have HOut : ButS (fun k => w.heap.size ≤ k) w W' := (ButS.of_ext (bx.trans hE)).trans (hB.mono (fun k _ e => by omega))
  have HO1 := lh HOut
  have hszB := hB.size
  have hD1 : W'.heap[W0.heap.size]? = some (.deferred (some [])) := (hB.block _ (by omega) (by omega)).trans hD0
  refine ⟨⟨_, rfl⟩, ?_⟩
  rcases hJS with ⟨L', D', HL, HMI, hM1, hbo, hb2, hb3, hrec⟩ | ⟨hno, hb2, hb3, hrec⟩
  ·refine .inl ⟨hrec, ?_⟩
   intro W'' hBut
   have HK : Hid (W''.heap[W0.heap.size]? = some (.deferred (some []))) := lh ((hBut.block _ (by omega) (fun e => by injection e; omega)).trans hD1)
   have hq4 := boxed_but hbo hBut (by omega)
   have hc := hq4.cell
   have HQ2 := lh (boxed_but hb2 hBut (by omega))
   have HQ3 := lh (boxed_but hb3 hBut (by omega))
   have HM2 : Hid (ownsP W'' (w.heap.size + 1 + 1) (Ad.pieces 38 (bsT s)).length D') := lh (ownsMap_same hM1 (hBut.block _ hM1.lt (fun e => by injection e; omega)))
   have HBu : Hid (ButS (fun k => w.heap.size ≤ k) w W'') := lh (HO1.out.trans (ButS.of_but hBut (.inr (by omega))))
   have HR : Hid (Ad.qAll (Ad.pieces 38 (bsT s)) = some L') := lh (by rw [← HL.out, List.take_of_length_le (Nat.le_refl _)])
   have HA : Hid (AscP L') := lh (Ad.qAll_ok _ [] L' HR.out (by simp [AscP]) (by simp)).1
   have hkl := Ad.pieces_len 38 (bsT s)
   rw [bsT_size] at hkl
   have hLl : L'.length ≤ (Ad.pieces 38 (bsT s)).length := by have := (Ad.qAll_ok _ [] L' HR.out (by simp [AscP]) (by simp)).2.2; simpa using this
   have hmz : Maps.size D' = L'.length := HMI.out.size HA.out HM2.out strK Tryz.underlying9
   have hsz2 := hBut.size
   clear hbo hb2 hb3 hrec hBut HL hD1 hD0 hB HOut hl0 b1 b2 b4 bmp bsx bsep bsv HO1 hM1 hM0
   gi_wp2_with (refine ⟨trivial, ?_⟩; first
    | (gi_at_call 203; refine (Tryz.mapsKeys _ _).mono ?_; rintro e w' ⟨rfl, rfl⟩)
    | (gi_at_call 199; refine (show Hid _ from ?_).out))
   refine lh ?_
   refine (Tryz.sortedKeys (w.heap.size + 1 + 1) _ D' _ W'' HM2.out (by rw [hmz]; unfold maxLen; omega) (by rw [hmz]; omega)).mono ?_
   rintro e w5 ⟨v, ss, rfl, hperm, hrow, _, hb5⟩
   obtain ⟨A5, c5, rfl, hks⟩ := keys_owned (L := L') (HMI.out.keys HA.out HM2.out strK Tryz.underlying9 hperm) hrow
   have HKs := lh hks
   have hx5 : Ext W'' w5 := ((Ext.refl W'').alloc _).trans hb5
   have hs5 := hx5.size
   have HX5 := lh hx5
   have HM5 : Hid (ownsP w5 (w.heap.size + 1 + 1) (Ad.pieces 38 (bsT s)).length D') := lh (ownsMap_same HM2.out (hx5.below.block _ HM2.out.lt))
   have HQ4 := lh (Boxed.ext hq4 hx5)
   have hsm : w.heap.size + 1 + 1 + 1 < w5.heap.size := HQ4.out.lt
   clear hperm hrow hb5 hks hx5 hq4 hc
   gi_wp2
   gi_loopw [43, 9] (fun i v wr => ∃ (j : Nat) (A' : Option Addr) (c' : Nat) (out : List PrB), j ≤ L'.length ∧ i = .int .i64 j ∧ v = .slice A' out.length c' ∧ out.length = j ∧ Hid (out.map prB = L'.take j) ∧ Hid (OwnsPr w5.heap.size wr A' c' out) ∧ Hid (Ext w5 wr)) (fun i _ _ => L'.length - (intOf i).toNat)
   case atStart => exact ⟨0, none, 0, [], Nat.zero_le _, rfl, rfl, rfl, lh rfl, lh (Owns.nil _ _ _ _ _), lh (eR _)⟩
   case round =>
    obtain ⟨j, A', c', out, hj, rfl, rfl, hoj, HOu, HOw, HX⟩ := hrel
    have hsr := HX.out.size
    by_cases hlt : j < L'.length
    ·obtain ⟨b, off, rfl, hb, d1⟩ := ReadsStr.cell ((HKs.out.reads sE).ext HX.out (Nat.le_refl _)) j (by rw [List.length_map]; exact hlt)
     rw [List.getElem_map] at d1
     have hmr : ownsP wr (w.heap.size + 1 + 1) (Ad.pieces 38 (bsT s)).length D' := ownsMap_same HM5.out (HX.out.below.block _ HM5.out.lt)
     have hkb : (keyB L'[j]).size ≤ 64 := by
      have hg := (Ad.qAll_ok _ [] L' HR.out (by simp [AscP]) (by simp)).2.1 _ (List.getElem_mem hlt)
      exact name_64 hg
     obtain ⟨v, ps, hrun, hv⟩ := hmr.lookup (z := .string ByteArray.empty) (zd := .lit (.string [])) (zp := []) strK Tryz.underlying277 (zeroStrC wr) (plainElem_string Tryz.underlying9 (by decide)) (Go.WideMaps.keyOf_string_mk Tryz.underlying9 (s := keyB L'[j]) (by unfold maxLen; omega))
     obtain ⟨vs, rfl, hvs, hvl⟩ := plainElem_string_inv Tryz.underlying9 hv
     have HN : Hid (prB (keyB L'[j], vs) = L'[j]) := lh (by
      have h1 := HMI.out.val _ (List.getElem_mem hlt) (.lit (.string []))
      have h2 := congrArg Prod.fst hvs
      rw [show (keyB L'[j]).data.toList = (L'[j]).1 from by simp [keyB], h1] at h2
      have h3 : (L'[j]).2 = vs.data.toList := by injection h2 with h2; injection h2
      exact Prod.ext (by simp [prB, keyB, bsT]) h3.symm)
     have HN2 : Hid ((out ++ [(keyB L'[j], vs)]).map prB = L'.take (j + 1)) := lh (by rw [List.map_append, HOu.out, List.take_succ_eq_append_getElem hlt, List.map_cons, HN.out]; rfl)
     have c4 := (HQ4.out.cell)
     have c4r : wr.cell? ⟨w.heap.size + 1 + 1 + 1, 0, none⟩ = some (.map (some (w.heap.size + 1 + 1))) := (HX.out.cell (p := ⟨w.heap.size + 1 + 1 + 1, 0, none⟩) (by exact hsm)).trans c4
     generalize keyB L'[j] = kb at *
     clear hv hvs hmr HN c4
     gi_wp2_with (gi_at_builtin; refine app_fromIn prT prE rfl _ _ rfl w5.heap.size _ _ out rfl (HOw.out.alloc _) _ 1 _ [(kb, vs)] rfl rfl (new_cellsAt rfl _ _) (by omega) (by omega) (by simp; omega) ?_; intro A3 c3' l3 w3 HL3 HO3 hB hl1 hl2 hG; have HO3' := lh HO3; have HB3 := lh hB; have hsz3 := hB.size; clear HO3 hB hG)
     go_roundw
     case rel => exact ⟨j + 1, A3, c3', l3, by omega, by go_num, rfl, by (try simp at hl1); omega, lh (by rw [HL3.out]; exact HN2.out), HO3', lh ((HX.out.alloc _).grown HB3.out (Nat.le_refl _))⟩
     case measure => simp [intOf]; omega
    ·have e : j = L'.length := by omega
     subst e
     rw [List.take_of_length_le (Nat.le_refl _)] at HOu
     have hq2 : Boxed wr w.heap.size 210 (.slice none 0 0) := Boxed.ext HQ2.out (HX5.out.trans HX.out)
     have hq3 : Boxed wr (w.heap.size + 1) 4 (.bool false) := Boxed.ext HQ3.out (HX5.out.trans HX.out)
     have k2 := hq2.cell
     have k2f := hq2.frozen
     have k3 := hq3.cell
     have k3f := hq3.frozen
     have HQ2r := lh hq2
     have HQ3r := lh hq3
     have HKr : Hid (wr.heap[W0.heap.size]? = some (.deferred (some []))) := lh (((HX5.out.trans HX.out).below.block _ (Array.getElem?_eq_some_iff.1 HK.out).1).trans HK.out)
     have HBr : Hid (ButS (fun k => w.heap.size ≤ k) w wr) := lh (HBu.out.trans (ButS.of_ext (HX5.out.trans HX.out)))
     clear hq2 hq3
     gi_wp2
     have hK2 : ((wr.setCell ⟨w.heap.size, 0, none⟩ (.slice A' L'.length c')).setCell ⟨w.heap.size + 1, 0, none⟩ (.bool true)).heap[W0.heap.size]? = some (.deferred (some [])) := (Below.heap_setCell _ _ _ _ (by show _ ≠ w.heap.size + 1; omega)).trans ((Below.heap_setCell _ _ _ _ (by show _ ≠ w.heap.size; omega)).trans HKr.out)
     refine ⟨by simp, .inl ⟨_, _, rfl, run_takeDeferred hK2, ?_⟩⟩
     have hgb := grownBy_putObj' ((wr.setCell ⟨w.heap.size, 0, none⟩ (.slice A' L'.length c')).setCell ⟨w.heap.size + 1, 0, none⟩ (.bool true)) W0.heap.size (.deferred none)
     refine ⟨.tuple #[.slice A' L'.length c', .bool true], results_two Tryz.results175 ⟨_, rfl, load_prs (boxed_but ((HQ2r.out.set _).other (by omega) _) hgb (by omega))⟩ ⟨_, rfl, load_bool (boxed_but ((HQ3r.out.other (by omega) _).set _) hgb (by omega))⟩, ?_, ?_⟩
     ·rw [HQN.out, HR.out]
      exact ⟨A', c', out, true, by rw [hoj], rfl, HOu.out, (((HOw.out.other (p := ⟨w.heap.size, 0, none⟩) (by show w.heap.size < _; omega) _).other (p := ⟨w.heap.size + 1, 0, none⟩) (by show w.heap.size + 1 < _; omega) _).but hgb (by omega)).lower (by omega)⟩
     ·have h1 : ButS (fun k => w.heap.size ≤ k) w ((wr.setCell ⟨w.heap.size, 0, none⟩ (.slice A' L'.length c')).setCell ⟨w.heap.size + 1, 0, none⟩ (.bool true)) := (HBr.out.setCell (p := ⟨w.heap.size, 0, none⟩) (.inr (Nat.le_refl _)) _).setCell (p := ⟨w.heap.size + 1, 0, none⟩) (.inr (by show _ ≤ w.heap.size + 1; omega)) _
      exact (h1.trans (ButS.of_but hgb (.inr (by omega)))).toExt (fun k hk => by omega)
  ·refine .inr ⟨_, hrec, ?_⟩
   intro W'' hBut
   have HK : Hid (W''.heap[W0.heap.size]? = some (.deferred (some []))) := lh ((hBut.block _ (by omega) (fun e => by injection e; omega)).trans hD1)
   have hq2 := boxed_but hb2 hBut (by omega)
   have hq3 := boxed_but hb3 hBut (by omega)
   have k2 := hq2.cell
   have k3 := hq3.cell
   have HQ2 := lh hq2
   have HQ3 := lh hq3
   have HBu : Hid (ButS (fun k => w.heap.size ≤ k) w W'') := lh (HO1.out.trans (ButS.of_but hBut (.inr (by omega))))
   have HR := lh hno
   clear hb2 hb3 hrec hBut hno hq2 hq3 hD1 hD0 hB HOut hl0 b1 b2 b4 bmp bsx bsep bsv HO1 hM0
   gi_wp2
   refine ⟨by simp, .inl ⟨_, _, rfl, run_takeDeferred HK.out, ?_⟩⟩
   have hgb := grownBy_putObj' W'' W0.heap.size (.deferred none)
   refine ⟨.tuple #[.slice none 0 0, .bool false], results_two Tryz.results175 ⟨_, rfl, load_prs (boxed_but HQ2.out hgb (by omega))⟩ ⟨_, rfl, load_bool (boxed_but HQ3.out hgb (by omega))⟩, ?_, ?_⟩
   ·rw [HQN.out, HR.out]
    exact ⟨none, 0, [], false, rfl, rfl, rfl, Owns.nil _ _ _ _ _⟩
   ·exact (HBu.out.trans (ButS.of_but hgb (.inr (by omega)))).toExt (fun k hk => by omega)
end
end Go.Proofs.YtpfhmcdcmepfdaaGreatDoor

namespace Go.Proofs.YtpfhmcdcmepfdaaGreatDoor
open Go.RowKit Go.Shelf
open Go.Proofs
theorem pairs_any (s : ByteArray) (w : World) (hs : s.size ≤ 4096) : Calls Tryz.prog 175 #[.string s] w fun e w' => PrsU (Ad.quN (bsT s)) w.heap.size e w' ∧ Ext w w' := by
 by_cases h : bsT s = []
 ·exact pairs_none s w h
 ·exact pairs_some s w h hs
theorem canon_all (s : ByteArray) (w : World) (hs : s.size ≤ 900000) :
  Calls Tryz.prog 108 #[.string s] w fun e w' => e = .returned (.tuple #[.string ⟨(Ad.canonT (bsT s)).toArray⟩, .int .i64 (Ad.canonE (bsT s))]) ∧ Ext w w' :=
 canon_any s w hs (fun q W _ hq _ => pairs_any q W hq)
theorem r6cut_any (s : ByteArray) (sep : UInt8) (w : World) (hs : s.size ≤ 900000) :
  Calls Tryz.prog 210 #[.string s, .int .u8 sep.toNat] w fun e w' => CutIs sep s e ∧ Ext w w' := by
 have hsb := sep.toNat_lt
 go_enter Tryz.func210, Tryz.ntmps210
 go_wp2
 go_loopw [7] (fun i wr => ∃ k : Nat, i = .int .i64 k ∧ k ≤ s.size ∧ Hid (∀ j (hj : j < (bsT s).length), j < k → (bsT s)[j] ≠ sep) ∧ Hid (Ext w wr)) (fun i _ => s.size - (intOf i).toNat)
 case atStart => exact ⟨0, rfl, Nat.zero_le _, lh (fun j _ h => absurd h (by omega)), lh (eR _)⟩
 case round =>
  obtain ⟨k, rfl, hk, HN, HX⟩ := hrel
  by_cases hlt : k < s.size
  ·have hl : k < (bsT s).length := by rw [bsT_size]; exact hlt
   have hg : (bsT s)[k] = s[k] := by simp only [bsT, Array.getElem_toList]; rfl
   by_cases hc : s[k] = sep
   ·have hcc : ((s[k].toNat : Int) == (sep.toNat : Int)) = true := by rw [hc]; simp
    have HC : Hid (CutIs sep s (.returned (.tuple #[.string (s.extract 0 k), .string (s.extract (k + 1) s.size), .bool true]))) := lh ⟨_, _, _, rfl, by rw [bsT_take, bsT_rest, Ad.cutB_hit hl (hg.trans hc) HN.out], by rw [ByteArray.size_extract]; omega, by rw [ByteArray.size_extract]; omega⟩
    clear hc hg
    go_wp2
    refine wp_region_later (by kernel_rfl) (by kernel_rfl) ?_
    repeat (first | go_big_quiet_step (fail) | quiet_step (fail))
    refine wpQuiet_nil ?_
    rintro _ ⟨xq, rfl⟩
    go_wp2
    refine bodyPost_ret (v := .tuple #[.string (s.extract 0 k), .string (s.extract (k + 1) s.size), .bool true]) ?_ rfl ⟨HC.out, (by (with_reducible repeat first|exact HX.out|exact eR _|apply eD|apply eN|apply eA|apply eO|apply eS|apply eC);all_goals first|omega|simp <;> omega)⟩
    simp [results, Tryz.results210, go_sem]
   ·have hcc : ((s[k].toNat : Int) == (sep.toNat : Int)) = false := by
     rw [beq_eq_false_iff_ne]
     exact fun h => hc (UInt8.toNat_inj.1 (by omega))
    have HN2 : Hid (∀ j (hj : j < (bsT s).length), j < k + 1 → (bsT s)[j] ≠ sep) := lh (fun j hj h => by
     by_cases e : j = k
     ·subst e; rw [hg]; exact hc
     ·exact HN.out j hj (by omega))
    clear hc hg HN
    go_wp2
    go_roundw
    case rel => exact ⟨k + 1, by go_num, by omega, HN2, HX⟩
    case measure => simp [intOf]; omega
  ·have HC : Hid (CutIs sep s (.returned (.tuple #[.string s, .string ByteArray.empty, .bool false]))) := lh ⟨_, _, _, rfl, by
    rw [Ad.cutB_miss (fun hm => by
     obtain ⟨j, hj, e⟩ := List.mem_iff_getElem.1 hm
     exact HN.out j hj (by rw [bsT_size] at hj; omega) e)]
    rfl, Nat.le_refl _, Nat.zero_le _⟩
   clear HN
   go_wp2
   refine bodyPost_ret (v := .tuple #[.string s, .string ByteArray.empty, .bool false]) ?_ rfl ⟨HC.out, (by (with_reducible repeat first|exact HX.out|exact eR _|apply eD|apply eN|apply eA|apply eO|apply eS|apply eC);all_goals first|omega|simp <;> omega)⟩
   simp [results, Tryz.results210, go_sem]
   rfl
attribute [local go_sem] strConv
theorem rsmall_any (s : ByteArray) (w : World) (hs : s.size ≤ 900000) :
  Calls Tryz.prog 211 #[.string s] w fun e w' => SmallIs s e ∧ Ext w w' := by
 have hbl := bts_length s
 have hbb := lh (bts_byte s)
 have hba := lh (bytes_at w 5 s)
 go_enter Tryz.func211, Tryz.ntmps211
 go_wp2
 refine wp_world (fun W => Ext w W ∧ ByteAt W w.heap.size (lowTo (bts s) 0)) ⟨ext_bytes _ _ _, by rw [lowTo_zero]; exact hba.out⟩ ?_
 rintro W1 ⟨x1, b1⟩
 have HX1 := lh x1
 have HB1 := lh b1
 clear x1 b1
 generalize grownCap w s.size 0 5 = gc
 go_loopw [4] (fun i wr => ∃ k : Nat, k ≤ s.size ∧ i = .int .i64 k ∧ Hid (ByteAt wr w.heap.size (lowTo (bts s) k)) ∧ Hid (Ext w wr)) (fun i _ => s.size - (intOf i).toNat)
 case atStart => exact ⟨0, Nat.zero_le _, rfl, HB1, HX1⟩
 case round =>
  obtain ⟨k, hk, rfl, HB, HX⟩ := hrel
  clear HX1 HB1
  have hlt0 := HB.out.1
  by_cases hlt : k < s.size
  ·have hc := (HB.out.2 k (by rw [lowTo_len]; omega)).1
   have hf := (HB.out.2 k (by rw [lowTo_len]; omega)).2
   rw [lowTo_at _ _ (by omega)] at hc
   have hby := getD_byte hbb.out k
   have HN := lh (fun h => ByteAt.lowKeep HB.out (by omega) h)
   have HL := lh (fun u h => ByteAt.low HB.out (by omega) u h)
   generalize (bts s).getD k 0 = x at *
   obtain ⟨hx0, hx1⟩ := hby
   by_cases h1 : 65 ≤ x
   ·have d1 : decide (65 ≤ x) = true := by simpa using h1
    by_cases h2 : x ≤ 90
    ·have d2 : decide (x ≤ 90) = true := by simpa using h2
     have HB2 := lh (HL.out (x + 32) (by unfold lowZ; rw [if_pos ⟨h1, h2⟩]))
     clear HN HL
     go_wp2
     go_roundw
     case rel => exact ⟨k + 1, by omega, by go_num, HB2, lh (HX.out.setCell (Nat.le_refl _) _)⟩
     case measure => simp [intOf]; omega
    ·have d2 : decide (x ≤ 90) = false := by simpa using h2
     have HB2 := lh (HN.out (by unfold lowZ; rw [if_neg (by omega)]))
     clear HN HL
     go_wp2
     go_roundw
     case rel => exact ⟨k + 1, by omega, by go_num, HB2, HX⟩
     case measure => simp [intOf]; omega
   ·have d1 : decide (65 ≤ x) = false := by simpa using h1
    have HB2 := lh (HN.out (by unfold lowZ; rw [if_neg (by omega)]))
    clear HN HL
    go_wp2
    go_roundw
    case rel => exact ⟨k + 1, by omega, by go_num, HB2, HX⟩
    case measure => simp [intOf]; omega
  ·have e : k = s.size := by omega
   subst e
   have HB2 : Hid (ByteAt wr w.heap.size ((bts s).map lowZ)) := lh (by rw [← lowTo_all, hbl]; exact HB.out)
   by_cases h0 : s.size = 0
   ·have HS : Hid (SmallIs s (.returned (.string ByteArray.empty))) := lh ⟨_, rfl, lows_nil h0, h0.symm⟩
    have hcv := conv_nobytes wr (some ⟨w.heap.size, 0, none⟩) gc
    rw [h0]
    clear hbl
    go_wp2
    go_ret
    exact ⟨HS.out, HX.out⟩
   ·have HS : Hid (SmallIs s (.returned (.string (strOfNums ((bts s).map lowZ))))) := lh ⟨_, rfl, lows_bs s, lows_size s⟩
    have hl2 : ((bts s).map lowZ).length = s.size := by rw [List.length_map, hbl]
    have hcv := conv_bytes gc HB2.out.reads (by omega)
    rw [hl2] at hcv
    clear hbl hl2
    go_wp2
    go_ret
    exact ⟨HS.out, HX.out⟩
end Go.Proofs.YtpfhmcdcmepfdaaGreatDoor

namespace Go.Proofs.YtpfhmcdcmepfdaaGreatDoor.Ad
open Go
def putStep (p : Pr) (st : List Pr × Bool) (x : Pr) : List Pr × Bool :=
 if st.2 = false ∧ p.1 ≤ x.1 then if x.1 = p.1 then (st.1 ++ [p], true) else (st.1 ++ [p] ++ [x], true)
 else if x.1 = p.1 then st else (st.1 ++ [x], st.2)
theorem put_true (p : Pr) : ∀ (l : List Pr) (out : List Pr), (∀ x ∈ l, p.1 < x.1) → l.foldl (putStep p) (out, true) = (out ++ l, true)
 | [], out, _ => by simp
 | q :: r, out, h => by
  have hq := h q (by simp)
  have hne : ¬ q.1 = p.1 := fun e => by rw [e] at hq; exact List.lt_irrefl _ hq
  rw [List.foldl_cons, show putStep p (out, true) q = (out ++ [q], true) by simp [putStep, hne], put_true p r _ (fun x hx => h x (List.mem_cons_of_mem _ hx))]
  simp
theorem put_false (p : Pr) : ∀ (l : List Pr) (out : List Pr), AscP l → (l.foldl (putStep p) (out, false)).1 ++ (if (l.foldl (putStep p) (out, false)).2 then [] else [p]) = out ++ putP p l
 | [], out, _ => by simp [putP]
 | q :: r, out, h => by
  have hq := List.pairwise_cons.1 h
  have hr : ∀ x ∈ r, q.1 < x.1 := fun x hx => hq.1 _ (List.mem_map_of_mem hx)
  rw [List.foldl_cons]
  by_cases h1 : p.1 < q.1
  ·have hne : ¬ q.1 = p.1 := fun e => by rw [e] at h1; exact List.lt_irrefl _ h1
   have hle : p.1 ≤ q.1 := List.le_of_lt h1
   rw [show putStep p (out, false) q = (out ++ [p] ++ [q], true) by simp [putStep, hne, hle], put_true p r _ (fun x hx => List.lt_trans h1 (hr x hx))]
   simp [putP, h1]
  ·by_cases h2 : p.1 = q.1
   ·rw [show putStep p (out, false) q = (out ++ [p], true) by simp [putStep, h2], put_true p r _ (fun x hx => by rw [h2]; exact hr x hx)]
    simp [putP, h1, h2]
   ·have hlt := lt_of h1 h2
    have hnle : ¬ p.1 ≤ q.1 := fun hle => h2 (List.le_antisymm hle (List.le_of_lt hlt))
    have hne : ¬ q.1 = p.1 := fun e => h2 e.symm
    rw [show putStep p (out, false) q = (out ++ [q], false) by simp [putStep, hne, hnle], put_false p r _ hq.2]
    simp [putP, h1, h2]
end Go.Proofs.YtpfhmcdcmepfdaaGreatDoor.Ad
namespace Go.Proofs.YtpfhmcdcmepfdaaGreatDoor
open Go.RowKit Go.Shelf
open Go.Proofs
theorem put_take (l : List PrB) (p : Ad.Pr) (k : Nat) (h : k < l.length) : ((l.take (k + 1)).map prB).foldl (Ad.putStep p) ([], false) = Ad.putStep p (((l.take k).map prB).foldl (Ad.putStep p) ([], false)) (prB l[k]) := by
 rw [List.take_succ_eq_append_getElem h, List.map_append, List.foldl_append]
 rfl
def PutRel (w W1 : World) (l : List PrB) (s : PrB) (o b i : Value) (wr : World) : Prop := ∃ (A : Option Addr) (c : Nat) (out : List PrB) (put : Bool) (k : Nat), o = .slice A out.length c ∧ b = .bool put ∧ i = .int .i64 k ∧ k ≤ l.length ∧ out.length ≤ k + k ∧
 Hid ((out.map prB, put) = ((l.take k).map prB).foldl (Ad.putStep (prB s)) ([], false)) ∧ Hid (OwnsPr (w.heap.size + 1) wr A c out) ∧ Hid (Ext W1 wr)
theorem r6put_any (A0 : Option Addr) (c0 : Nat) (l : List PrB) (s : PrB) (w : World) (hl : l.length ≤ 900000) (hr : ReadsPr w w.heap.size A0 l) (ha : Ad.AscP (l.map prB)) :
  Calls Tryz.prog 232 #[.slice A0 l.length c0, .agg #[.string s.1, .string s.2]] w fun e w' => ∃ A c out, e = .returned (.slice A out.length c) ∧ out.map prB = Ad.putP (prB s) (l.map prB) ∧ OwnsPr w.heap.size w' A c out ∧ Ext w w' := by
 have HR := lh hr
 have HAs := lh ha
 clear hr ha
 go_enter Tryz.func232, Tryz.ntmps232
 go_wp2
 refine wp_world (fun W => Ext w W ∧ W.heap.size = w.heap.size + 1 ∧ W.cell? ⟨w.heap.size, 0, none⟩ = some (.string s.1) ∧ W.cell? ⟨w.heap.size, 1, none⟩ = some (.string s.2)) ⟨(by (with_reducible repeat first|exact eR _|apply eD|apply eN|apply eA|apply eO|apply eS|apply eC);all_goals first|omega|simp <;> omega), by simp, by rw [alloc_cell_if, if_pos rfl]; rfl, by rw [alloc_cell_if, if_pos rfl]; rfl⟩ ?_
 rintro W1 ⟨hx1, hsz1, p10, p20⟩
 have HX1 := lh hx1
 have HP1 := lh p10
 have HP2 := lh p20
 clear hx1 p10 p20
 go_loopw [5, 6, 7] (PutRel w W1 l s) (fun _ _ i _ => l.length - (intOf i).toNat)
 case atStart => exact ⟨none, 0, [], false, 0, rfl, rfl, rfl, Nat.zero_le _, Nat.le_refl _, lh rfl, lh (Owns.nil _ _ _ _ _), lh (eR _)⟩
 case round =>
  obtain ⟨A, c, out, put, k, rfl, rfl, rfl, hk, hok, HF, HO, HX⟩ := hrel
  have hsz := HX.out.size
  have p1 : wr.cell? ⟨w.heap.size, 0, none⟩ = some (.string s.1) := (HX.out.cell (p := ⟨w.heap.size, 0, none⟩) (by show w.heap.size < _; omega)).trans HP1.out
  have p2 : wr.cell? ⟨w.heap.size, 1, none⟩ = some (.string s.2) := (HX.out.cell (p := ⟨w.heap.size, 1, none⟩) (by show w.heap.size < _; omega)).trans HP2.out
  by_cases hlt : k < l.length
  ·obtain ⟨b, off, rfl, hb, d1, d2⟩ := ReadsPr.cell (HR.out.ext (HX1.out.trans HX.out) (Nat.le_refl _)) k hlt
   have hst := put_take l (prB s) k hlt
   rw [← HF.out] at hst
   generalize l[k] = x at *
   have HLE := lh (le_walk s.1 x.1)
   have HNE := lh (eq_walk x.1 s.1)
   by_cases h1 : put = false ∧ bsT s.1 ≤ bsT x.1
   ·obtain ⟨rfl, h2⟩ := h1
    have e1 : (Op.bytesLess s.1.toList x.1.toList || s.1.toList == x.1.toList) = true := by rw [HLE.out]; simpa using h2
    by_cases h3 : bsT x.1 = bsT s.1
    ·have e2 : (x.1.toList == s.1.toList) = true := by rw [HNE.out]; simpa using h3
     have HS : Hid (((l.take (k + 1)).map prB).foldl (Ad.putStep (prB s)) ([], false) = ((out ++ [s]).map prB, true)) := lh (by rw [hst]; simp [Ad.putStep, prB, h3])
     clear hst h2 h3
     go_wp2
     refine wp_region_later (by kernel_rfl) (by kernel_rfl) ?_
     repeat (first | go_big_quiet_step (fail) | quiet_step (fail))
     refine wpQuiet_nil ?_
     rintro _ ⟨xq, rfl⟩
     have HXq := lh (HX.out.onto xq)
     have HOq := lh (HO.out.later xq)
     replace p1 := ((ext_later _ xq).cell (p := ⟨w.heap.size, 0, none⟩) (by show w.heap.size < _; omega)).trans p1
     replace p2 := ((ext_later _ xq).cell (p := ⟨w.heap.size, 1, none⟩) (by show w.heap.size < _; omega)).trans p2
     replace d1 := ((ext_later _ xq).cell (p := ⟨b, off + k * 2, none⟩) (by show b < _; omega)).trans d1
     replace d2 := ((ext_later _ xq).cell (p := ⟨b, off + k * 2 + 1, none⟩) (by show b < _; omega)).trans d2
     have hszq := HXq.out.size
     go_wp2_with (at_builtin; refine (show Hid _ from ?_).out)
     refine lh ?_
     refine app_from prT prE rfl _ _ rfl (w.heap.size + 1) _ _ out rfl (HOq.out.alloc _) _ 1 _ [s] rfl rfl (new_cellsAt (by first | rfl | exact (later_size _ _).symm) _ _) (by omega) (by omega) (by first | omega | (simp [later_size]; omega)) ?_
     intro A2 c2 l2 w2 HL hO9 hB9 hl1 hl2 _
     have HO2 := lh hO9
     have HB2 := lh hB9
     have hszx := hB9.size
     rw [World.size_alloc] at hszx
     clear hO9
     have r1 := (hB9.cell (p := ⟨w.heap.size, 0, none⟩) (by show w.heap.size < w.heap.size + 1; omega)).trans (Lib.cell?_alloc_some _ p1)
     have r2 := (hB9.cell (p := ⟨w.heap.size, 1, none⟩) (by show w.heap.size < w.heap.size + 1; omega)).trans (Lib.cell?_alloc_some _ p2)
     have r3 := (hB9.cell (p := ⟨b, off + k * 2, none⟩) (by show b < w.heap.size + 1; omega)).trans (Lib.cell?_alloc_some _ d1)
     have r4 := (hB9.cell (p := ⟨b, off + k * 2 + 1, none⟩) (by show b < w.heap.size + 1; omega)).trans (Lib.cell?_alloc_some _ d2)
     clear p1 p2 d1 d2 hB9
     have p1 := r1
     have p2 := r2
     have d1 := r3
     have d2 := r4
     clear r1 r2 r3 r4
     have HX2 : Hid (Ext W1 w2) := lh ((HXq.out.alloc _).grown HB2.out (by omega))
     go_wp2
     refine wp_region_later (by kernel_rfl) (by kernel_rfl) ?_
     repeat (first | go_big_quiet_step (fail) | quiet_step (fail))
     refine wpQuiet_nil ?_
     rintro _ ⟨xq, rfl⟩
     have HXq2 := lh (HX2.out.onto xq)
     have HOq2 := lh (HO2.out.later xq)
     replace p1 := ((ext_later _ xq).cell (p := ⟨w.heap.size, 0, none⟩) (by show w.heap.size < _; omega)).trans p1
     replace p2 := ((ext_later _ xq).cell (p := ⟨w.heap.size, 1, none⟩) (by show w.heap.size < _; omega)).trans p2
     replace d1 := ((ext_later _ xq).cell (p := ⟨b, off + k * 2, none⟩) (by show b < _; omega)).trans d1
     replace d2 := ((ext_later _ xq).cell (p := ⟨b, off + k * 2 + 1, none⟩) (by show b < _; omega)).trans d2
     have hszq := HXq2.out.size
     go_wp2
     go_roundw
     case rel => exact ⟨A2, c2, l2, true, k + 1, rfl, rfl, by go_num, by omega, by (try simp at hl1 hl2); omega, by rw [HL.out]; exact lh HS.out.symm, HOq2, HXq2⟩
     case measure => simp [intOf]; omega
    ·have e2 : (x.1.toList == s.1.toList) = false := by rw [HNE.out]; simpa using h3
     have HS : Hid (((l.take (k + 1)).map prB).foldl (Ad.putStep (prB s)) ([], false) = ((out ++ [s] ++ [x]).map prB, true)) := lh (by rw [hst]; simp [Ad.putStep, prB, h2, h3])
     clear hst h2 h3
     go_wp2
     refine wp_region_later (by kernel_rfl) (by kernel_rfl) ?_
     repeat (first | go_big_quiet_step (fail) | quiet_step (fail))
     refine wpQuiet_nil ?_
     rintro _ ⟨xq, rfl⟩
     have HXq := lh (HX.out.onto xq)
     have HOq := lh (HO.out.later xq)
     replace p1 := ((ext_later _ xq).cell (p := ⟨w.heap.size, 0, none⟩) (by show w.heap.size < _; omega)).trans p1
     replace p2 := ((ext_later _ xq).cell (p := ⟨w.heap.size, 1, none⟩) (by show w.heap.size < _; omega)).trans p2
     replace d1 := ((ext_later _ xq).cell (p := ⟨b, off + k * 2, none⟩) (by show b < _; omega)).trans d1
     replace d2 := ((ext_later _ xq).cell (p := ⟨b, off + k * 2 + 1, none⟩) (by show b < _; omega)).trans d2
     have hszq := HXq.out.size
     go_wp2_with (at_builtin; refine (show Hid _ from ?_).out)
     refine lh ?_
     refine app_from prT prE rfl _ _ rfl (w.heap.size + 1) _ _ out rfl (HOq.out.alloc _) _ 1 _ [s] rfl rfl (new_cellsAt (by first | rfl | exact (later_size _ _).symm) _ _) (by omega) (by omega) (by first | omega | (simp [later_size]; omega)) ?_
     intro A2 c2 l2 w2 HL hO9 hB9 hl1 hl2 _
     have HO2 := lh hO9
     have HB2 := lh hB9
     have hszx := hB9.size
     rw [World.size_alloc] at hszx
     clear hO9
     have r1 := (hB9.cell (p := ⟨w.heap.size, 0, none⟩) (by show w.heap.size < w.heap.size + 1; omega)).trans (Lib.cell?_alloc_some _ p1)
     have r2 := (hB9.cell (p := ⟨w.heap.size, 1, none⟩) (by show w.heap.size < w.heap.size + 1; omega)).trans (Lib.cell?_alloc_some _ p2)
     have r3 := (hB9.cell (p := ⟨b, off + k * 2, none⟩) (by show b < w.heap.size + 1; omega)).trans (Lib.cell?_alloc_some _ d1)
     have r4 := (hB9.cell (p := ⟨b, off + k * 2 + 1, none⟩) (by show b < w.heap.size + 1; omega)).trans (Lib.cell?_alloc_some _ d2)
     clear p1 p2 d1 d2 hB9
     have p1 := r1
     have p2 := r2
     have d1 := r3
     have d2 := r4
     clear r1 r2 r3 r4
     have HX2 : Hid (Ext W1 w2) := lh ((HXq.out.alloc _).grown HB2.out (by omega))
     go_wp2
     refine wp_region_later (by kernel_rfl) (by kernel_rfl) ?_
     repeat (first | go_big_quiet_step (fail) | quiet_step (fail))
     refine wpQuiet_nil ?_
     rintro _ ⟨xq, rfl⟩
     have HXq2 := lh (HX2.out.onto xq)
     have HOq2 := lh (HO2.out.later xq)
     replace p1 := ((ext_later _ xq).cell (p := ⟨w.heap.size, 0, none⟩) (by show w.heap.size < _; omega)).trans p1
     replace p2 := ((ext_later _ xq).cell (p := ⟨w.heap.size, 1, none⟩) (by show w.heap.size < _; omega)).trans p2
     replace d1 := ((ext_later _ xq).cell (p := ⟨b, off + k * 2, none⟩) (by show b < _; omega)).trans d1
     replace d2 := ((ext_later _ xq).cell (p := ⟨b, off + k * 2 + 1, none⟩) (by show b < _; omega)).trans d2
     have hszq := HXq2.out.size
     try simp at hl1 hl2
     go_wp2_with (at_builtin; refine (show Hid _ from ?_).out)
     refine lh ?_
     refine app_from prT prE rfl _ _ rfl (w.heap.size + 1) _ _ l2 rfl (HOq2.out.alloc _) _ 1 _ [x] rfl rfl (new_cellsAt (by first | rfl | exact (later_size _ _).symm) _ _) (by omega) (by omega) (by first | omega | (simp [later_size]; omega)) ?_
     intro A3 c3 l3 w3 HL3 hO9 hB9 hl3 hl4 _
     have HO3 := lh hO9
     have HB3 := lh hB9
     have hszx := hB9.size
     rw [World.size_alloc] at hszx
     clear hO9
     clear hB9
     go_wp2
     go_roundw
     case rel => exact ⟨A3, c3, l3, true, k + 1, rfl, rfl, by go_num, by omega, by (try simp at hl3 hl4); omega, by rw [HL3.out, HL.out]; exact lh HS.out.symm, HO3, lh ((HXq2.out.alloc _).grown HB3.out (by omega))⟩
     case measure => simp [intOf]; omega
   ·by_cases h3 : bsT x.1 = bsT s.1
    ·have e2 : (x.1.toList == s.1.toList) = true := by rw [HNE.out]; simpa using h3
     have HS : Hid (((l.take (k + 1)).map prB).foldl (Ad.putStep (prB s)) ([], false) = (out.map prB, put)) := lh (by rw [hst]; unfold Ad.putStep; rw [if_neg (by simpa [prB] using h1), if_pos (by simpa [prB] using h3)])
     cases put with
     | true =>
      clear hst h1 h3
      go_wp2
      refine wp_region_later (by kernel_rfl) (by kernel_rfl) ?_
      repeat (first | go_big_quiet_step (fail) | quiet_step (fail))
      refine wpQuiet_nil ?_
      rintro _ ⟨xq, rfl⟩
      rename Later => xa
      go_wp2
      refine wp_region_later (by kernel_rfl) (by kernel_rfl) ?_
      repeat (first | go_big_quiet_step (fail) | quiet_step (fail))
      refine wpQuiet_nil ?_
      rintro _ ⟨xq, rfl⟩
      have HXq2 := lh ((HX.out.onto xa).onto xq)
      have HOq2 := lh ((HO.out.later xa).later xq)
      have hszq := HXq2.out.size
      go_wp2
      go_roundw
      case rel => exact ⟨A, c, out, true, k + 1, rfl, rfl, by go_num, by omega, by omega, lh HS.out.symm, HOq2, HXq2⟩
      case measure => simp [intOf]; omega
     | false =>
      have e1 : (Op.bytesLess s.1.toList x.1.toList || s.1.toList == x.1.toList) = false := by rw [HLE.out]; simpa using h1
      clear hst h1 h3
      go_wp2
      refine wp_region_later (by kernel_rfl) (by kernel_rfl) ?_
      repeat (first | go_big_quiet_step (fail) | quiet_step (fail))
      refine wpQuiet_nil ?_
      rintro _ ⟨xq, rfl⟩
      rename Later => xa
      go_wp2
      refine wp_region_later (by kernel_rfl) (by kernel_rfl) ?_
      repeat (first | go_big_quiet_step (fail) | quiet_step (fail))
      refine wpQuiet_nil ?_
      rintro _ ⟨xq, rfl⟩
      have HXq2 := lh ((HX.out.onto xa).onto xq)
      have HOq2 := lh ((HO.out.later xa).later xq)
      have hszq := HXq2.out.size
      go_wp2
      go_roundw
      case rel => exact ⟨A, c, out, false, k + 1, rfl, rfl, by go_num, by omega, by omega, lh HS.out.symm, HOq2, HXq2⟩
      case measure => simp [intOf]; omega
    ·have e2 : (x.1.toList == s.1.toList) = false := by rw [HNE.out]; simpa using h3
     have HS : Hid (((l.take (k + 1)).map prB).foldl (Ad.putStep (prB s)) ([], false) = ((out ++ [x]).map prB, put)) := lh (by rw [hst]; unfold Ad.putStep; rw [if_neg (by simpa [prB] using h1), if_neg (by simpa [prB] using h3), List.map_append, List.map_singleton])
     cases put with
     | true =>
      clear hst h1 h3
      go_wp2
      refine wp_region_later (by kernel_rfl) (by kernel_rfl) ?_
      repeat (first | go_big_quiet_step (fail) | quiet_step (fail))
      refine wpQuiet_nil ?_
      rintro _ ⟨xq, rfl⟩
      rename Later => xa
      go_wp2
      refine wp_region_later (by kernel_rfl) (by kernel_rfl) ?_
      repeat (first | go_big_quiet_step (fail) | quiet_step (fail))
      refine wpQuiet_nil ?_
      rintro _ ⟨xq, rfl⟩
      have HXq2 := lh ((HX.out.onto xa).onto xq)
      have HOq2 := lh ((HO.out.later xa).later xq)
      have hszq := HXq2.out.size
      go_wp2_with (at_builtin; refine (show Hid _ from ?_).out)
      refine lh ?_
      refine app_from prT prE rfl _ _ rfl (w.heap.size + 1) _ _ out rfl (HOq2.out.alloc _) _ 1 _ [x] rfl rfl (new_cellsAt (by first | rfl | exact (later_size _ _).symm) _ _) (by omega) (by omega) (by first | omega | (simp [later_size]; omega)) ?_
      intro A2 c2 l2 w2 HL hO9 hB9 hl1 hl2 _
      have HO2 := lh hO9
      have HB2 := lh hB9
      have hszx := hB9.size
      rw [World.size_alloc] at hszx
      clear hO9
      clear hB9
      go_wp2
      go_roundw
      case rel => exact ⟨A2, c2, l2, true, k + 1, rfl, rfl, by go_num, by omega, by (try simp at hl1 hl2); omega, by rw [HL.out]; exact lh HS.out.symm, HO2, lh ((HXq2.out.alloc _).grown HB2.out (by omega))⟩
      case measure => simp [intOf]; omega
     | false =>
      have e1 : (Op.bytesLess s.1.toList x.1.toList || s.1.toList == x.1.toList) = false := by rw [HLE.out]; simpa using h1
      clear hst h1 h3
      go_wp2
      refine wp_region_later (by kernel_rfl) (by kernel_rfl) ?_
      repeat (first | go_big_quiet_step (fail) | quiet_step (fail))
      refine wpQuiet_nil ?_
      rintro _ ⟨xq, rfl⟩
      rename Later => xa
      go_wp2
      refine wp_region_later (by kernel_rfl) (by kernel_rfl) ?_
      repeat (first | go_big_quiet_step (fail) | quiet_step (fail))
      refine wpQuiet_nil ?_
      rintro _ ⟨xq, rfl⟩
      have HXq2 := lh ((HX.out.onto xa).onto xq)
      have HOq2 := lh ((HO.out.later xa).later xq)
      have hszq := HXq2.out.size
      go_wp2_with (at_builtin; refine (show Hid _ from ?_).out)
      refine lh ?_
      refine app_from prT prE rfl _ _ rfl (w.heap.size + 1) _ _ out rfl (HOq2.out.alloc _) _ 1 _ [x] rfl rfl (new_cellsAt (by first | rfl | exact (later_size _ _).symm) _ _) (by omega) (by omega) (by first | omega | (simp [later_size]; omega)) ?_
      intro A2 c2 l2 w2 HL hO9 hB9 hl1 hl2 _
      have HO2 := lh hO9
      have HB2 := lh hB9
      have hszx := hB9.size
      rw [World.size_alloc] at hszx
      clear hO9
      clear hB9
      go_wp2
      go_roundw
      case rel => exact ⟨A2, c2, l2, false, k + 1, rfl, rfl, by go_num, by omega, by (try simp at hl1 hl2); omega, by rw [HL.out]; exact lh HS.out.symm, HO2, lh ((HXq2.out.alloc _).grown HB2.out (by omega))⟩
      case measure => simp [intOf]; omega
  ·have e : k = l.length := by omega
   subst e
   rw [List.take_length] at HF
   have hi := Ad.put_false (prB s) (l.map prB) [] HAs.out
   rw [← HF.out, List.nil_append] at hi
   cases put with
   | true =>
    have HI : Hid (out.map prB = Ad.putP (prB s) (l.map prB)) := lh (by simpa using hi)
    clear hi
    go_wp2
    go_ret
    exact ⟨A, c, out, rfl, HI.out, HO.out.lower (by omega), HX1.out.trans HX.out⟩
   | false =>
    have HI : Hid ((out ++ [s]).map prB = Ad.putP (prB s) (l.map prB)) := lh (by simpa using hi)
    clear hi
    go_wp2_with (at_builtin; refine (show Hid _ from ?_).out)
    refine lh ?_
    refine app_from prT prE rfl _ _ rfl (w.heap.size + 1) _ _ out rfl (HO.out.alloc _) _ 1 _ [s] rfl rfl (new_cellsAt (by first | rfl | exact (later_size _ _).symm) _ _) (by omega) (by omega) (by first | omega | (simp [later_size]; omega)) ?_
    intro A2 c2 l2 w2 HL hO9 hB9 hl1 hl2 _
    have HO2 := lh hO9
    have HB2 := lh hB9
    have hszx := hB9.size
    rw [World.size_alloc] at hszx
    clear hO9
    clear hB9
    go_wp2
    go_ret
    exact ⟨A2, c2, l2, rfl, by rw [HL.out]; exact HI.out, HO2.out.lower (by omega), HX1.out.trans ((HX.out.alloc _).grown HB2.out (by omega))⟩
end Go.Proofs.YtpfhmcdcmepfdaaGreatDoor

namespace Go.Proofs.YtpfhmcdcmepfdaaGreatDoor
open Go.RowKit Go.Shelf
open Go.Proofs
def QuRel (w : World) (ls : List ByteArray) (o i : Value) (wr : World) : Prop := ∃ (A : Option Addr) (c : Nat) (qs : List PrB) (k : Nat), o = .slice A qs.length c ∧ i = .int .i64 k ∧ k ≤ ls.length ∧ qs.length ≤ k ∧
 Hid (Ad.qAll ((ls.map bsT).take k) = some (qs.map prB)) ∧ Hid (OwnsPr w.heap.size wr A c qs) ∧ Hid (Ext w wr)
theorem rquery_any (s : ByteArray) (w : World) (hs : s.size ≤ 4096) :
  Calls Tryz.prog 213 #[.string s] w fun e w' => PrsU (Ad.quN (bsT s)) w.heap.size e w' ∧ Ext w w' := by
 by_cases h0 : bsT s = []
 ·have hs0 : (s.toList == []) = true := by rw [Lib.toList_data]; rw [show s.data.toList = [] from h0]; rfl
  have hs1 : s.toList.isEmpty = true := by rw [Lib.toList_data]; rw [show s.data.toList = [] from h0]; rfl
  have HQ : Hid (Ad.quN (bsT s) = some []) := lh (by rw [h0]; rfl)
  clear h0
  go_enter Tryz.func213, Tryz.ntmps213
  go_wp2
  refine bodyPost_ret (v := .tuple #[.slice none 0 0, .bool true]) ?_ rfl ⟨⟨none, 0, [], true, rfl, by rw [HQ.out]; rfl, by rw [HQ.out]; rfl, Owns.nil _ _ _ _ _⟩, (by (with_reducible repeat first|exact eR _|apply eD|apply eN|apply eA|apply eO|apply eS|apply eC);all_goals first|omega|simp <;> omega)⟩
  simp [results, Tryz.results213, go_sem]
 ·have hs0 : (s.toList == []) = false := by rw [Lib.toList_data]; simpa [bsT] using h0
  have hs1 : s.toList.isEmpty = false := by rw [Lib.toList_data]; simpa [bsT] using h0
  have HQN : Hid (Ad.quN (bsT s) = Ad.qAll (Ad.pieces 38 (bsT s))) := lh (by unfold Ad.quN; rw [if_neg h0])
  have HSp := lh (fun W => rsplit_any s 38 W (by omega))
  clear h0
  go_enter Tryz.func213, Tryz.ntmps213
  go_wp2_with (go_at_call 183; refine (HSp.out _).mono ?_; rintro e w1 ⟨A1, c1, ls, rfl, hcut, ho1, hl1, hx1⟩; have HO1 := lh ho1; have HX1 := lh hx1; have HCu := lh (Ad.pieces_of hcut); clear hcut ho1 hx1)
  go_loopw [4, 6] (QuRel w1 ls) (fun _ i _ => ls.length - (intOf i).toNat)
  case atStart => exact ⟨none, 0, [], 0, rfl, rfl, Nat.zero_le _, Nat.le_refl _, lh rfl, lh (Owns.nil _ _ _ _ _), lh (eR _)⟩
  case round =>
   obtain ⟨A', c', qs, k, rfl, rfl, hk, hqk, HL, HO, HX⟩ := hrel
   have hsz := HX.out.size
   by_cases hlt : k < ls.length
   ·obtain ⟨b, off, rfl, hb, d1⟩ := ReadsStr.cell ((HO1.out.reads sE).ext HX.out (Nat.le_refl _)) k hlt
    have hltm : k < (ls.map bsT).length := by rw [List.length_map]; exact hlt
    have HSt : Hid (Ad.qAll ((ls.map bsT).take (k + 1)) = Ad.qIn (qs.map prB) (bsT ls[k])) := lh (by rw [q_take hltm HL.out, List.getElem_map])
    have HStop : Hid (Ad.qIn (qs.map prB) (bsT ls[k]) = none → Ad.qAll (Ad.pieces 38 (bsT s)) = none) := lh (fun h => by rw [← HCu.out]; exact q_stop (HSt.out.trans h))
    have HA : Hid (Ad.AscP (qs.map prB)) := lh (Ad.qAll_ok _ [] _ HL.out (by simp [Ad.AscP]) (by simp)).1
    have hxs : (ls[k]).size ≤ 4096 := by
     have h1 := piece_le 38 (bsT s) (bsT ls[k]) (by rw [← HCu.out]; exact List.mem_map_of_mem (List.getElem_mem hlt))
     rw [bsT_size, bsT_size] at h1
     omega
    generalize ls[k] = x at *
    go_wp2_with (go_at_call 210; refine (show Hid _ from ?_).out)
    refine lh ?_
    refine (r6cut_any x 61 _ (by omega)).mono ?_
    rintro e w' ⟨⟨a, b, f, rfl, hc, has, hbs⟩, hxl⟩
    obtain ⟨xm, rfl⟩ := hxl.asLater
    clear hxl
    have HNm := lh (fun W => rname_any a W (by omega))
    have HWd := lh (fun W => rword_any b W (by omega))
    have HPo : Hid (Ad.pairOf (bsT x) = if f = true ∧ Tg.nameB (bsT a) = true ∧ Tg.wordB (bsT b) = true then some (bsT a, bsT b) else none) := lh (by unfold Ad.pairOf; rw [← hc])
    clear hc
    cases f with
    | false =>
     have HFl := lh (HStop.out (by unfold Ad.qIn; rw [HPo.out]; rfl))
     clear HStop HSt HPo HNm HWd
     go_wp2
     refine bodyPost_ret (v := .tuple #[.slice none 0 0, .bool false]) ?_ rfl ⟨⟨none, 0, [], false, rfl, by rw [HQN.out, HFl.out]; rfl, by rw [HQN.out, HFl.out]; rfl, Owns.nil _ _ _ _ _⟩, (by (with_reducible repeat first|exact (HX1.out.trans HX.out)|exact eR _|apply eD|apply eN|apply eA|apply eO|apply eS|apply eC);all_goals first|omega|simp <;> omega)⟩
     simp [results, Tryz.results213, go_sem]
    | true =>
     cases hn : Tg.nameB (bsT a) with
     | false =>
      have hn' : Tg.nameB a.data.toList = false := hn
      rw [hn'] at HNm
      have HFl := lh (HStop.out (by unfold Ad.qIn; rw [HPo.out, hn]; rfl))
      clear HStop HSt HPo HWd hn hn'
      go_wp2_with (first
       | (go_at_call 135; refine (HNm.out _).mono ?_; rintro e w' ⟨rfl, hxl⟩; obtain ⟨xn, rfl⟩ := hxl.asLater; clear hxl)
       | (go_at_call 165; refine (HWd.out _).mono ?_; rintro e w' ⟨rfl, hxl⟩; obtain ⟨xo, rfl⟩ := hxl.asLater; clear hxl)
       | (go_at_call 232; refine (show Hid _ from ?_).out))
      refine bodyPost_ret (v := .tuple #[.slice none 0 0, .bool false]) ?_ rfl ⟨⟨none, 0, [], false, rfl, by rw [HQN.out, HFl.out]; rfl, by rw [HQN.out, HFl.out]; rfl, Owns.nil _ _ _ _ _⟩, (by (with_reducible repeat first|exact (HX1.out.trans HX.out)|exact eR _|apply eD|apply eN|apply eA|apply eO|apply eS|apply eC);all_goals first|omega|simp <;> omega)⟩
      simp [results, Tryz.results213, go_sem]
     | true =>
      have hn' : Tg.nameB a.data.toList = true := hn
      rw [hn'] at HNm
      cases hwd : Tg.wordB (bsT b) with
      | false =>
       have hw' : Tg.wordB b.data.toList = false := hwd
       rw [hw'] at HWd
       have HFl := lh (HStop.out (by unfold Ad.qIn; rw [HPo.out, hwd]; simp))
       clear HStop HSt HPo hn hn' hwd hw'
       go_wp2_with (first
        | (go_at_call 135; refine (HNm.out _).mono ?_; rintro e w' ⟨rfl, hxl⟩; obtain ⟨xn, rfl⟩ := hxl.asLater; clear hxl)
        | (go_at_call 165; refine (HWd.out _).mono ?_; rintro e w' ⟨rfl, hxl⟩; obtain ⟨xo, rfl⟩ := hxl.asLater; clear hxl)
        | (go_at_call 232; refine (show Hid _ from ?_).out))
       refine bodyPost_ret (v := .tuple #[.slice none 0 0, .bool false]) ?_ rfl ⟨⟨none, 0, [], false, rfl, by rw [HQN.out, HFl.out]; rfl, by rw [HQN.out, HFl.out]; rfl, Owns.nil _ _ _ _ _⟩, (by (with_reducible repeat first|exact (HX1.out.trans HX.out)|exact eR _|apply eD|apply eN|apply eA|apply eO|apply eS|apply eC);all_goals first|omega|simp <;> omega)⟩
       simp [results, Tryz.results213, go_sem]
      | true =>
       have hw' : Tg.wordB b.data.toList = true := hwd
       rw [hw'] at HWd
       have HN : Hid (Ad.qAll ((ls.map bsT).take (k + 1)) = some (Ad.putP (bsT a, bsT b) (qs.map prB))) := lh (by rw [HSt.out]; unfold Ad.qIn; rw [HPo.out, if_pos ⟨rfl, hn, hwd⟩]; rfl)
       clear HStop HSt HPo hn hn' hwd hw'
       go_wp2_with (first
        | (go_at_call 135; refine (HNm.out _).mono ?_; rintro e w' ⟨rfl, hxl⟩; obtain ⟨xn, rfl⟩ := hxl.asLater; clear hxl)
        | (go_at_call 165; refine (HWd.out _).mono ?_; rintro e w' ⟨rfl, hxl⟩; obtain ⟨xo, rfl⟩ := hxl.asLater; clear hxl)
        | (go_at_call 232; refine (show Hid _ from ?_).out))
       refine lh ?_
       refine (r6put_any A' c' qs (a, b) _ (by omega) (((HO.out.later _).reads prE)) HA.out).mono ?_
       rintro e w5 ⟨A5, c5, qs5, rfl, hq5, ho5, hx5⟩
       have hl5 : qs5.length ≤ k + 1 := by
        have h1 := congrArg List.length hq5
        have h2 := Ad.putP_len (prB (a, b)) (qs.map prB)
        rw [List.length_map] at h1 h2
        omega
       have HO5 := lh ho5
       have HX5 : Hid (Ext w1 w5) := lh ((HX.out.onto _).trans hx5)
       have HN5 : Hid (Ad.qAll ((ls.map bsT).take (k + 1)) = some (qs5.map prB)) := lh (by rw [HN.out, hq5]; rfl)
       clear hq5 ho5 hx5
       go_wp2
       go_roundw
       case rel => exact ⟨A5, c5, qs5, k + 1, rfl, by go_num, by omega, hl5, HN5, lh (HO5.out.lower (by rw [later_size]; omega)), HX5⟩
       case measure => simp [intOf]; omega
   ·have e : k = ls.length := by omega
    subst e
    rw [List.take_of_length_le (by rw [List.length_map]; exact Nat.le_refl _), HCu.out] at HL
    go_wp2
    refine bodyPost_ret (v := .tuple #[.slice A' qs.length c', .bool true]) ?_ rfl ⟨⟨A', c', qs, true, rfl, by rw [HQN.out, HL.out]; rfl, by rw [HQN.out, HL.out]; rfl, HO.out.lower HX1.out.size⟩, HX1.out.trans HX.out⟩
    simp [results, Tryz.results213, go_sem]
def PaRel (w : World) (ls : List ByteArray) (o i : Value) (wr : World) : Prop := ∃ (A : Option Addr) (c : Nat) (qs : List ByteArray) (k : Nat), o = .slice A qs.length c ∧ i = .int .i64 k ∧ k ≤ ls.length ∧ qs.length ≤ k ∧
 Hid (Ad.resAll ((ls.map bsT).take k) = some (qs.map bsT)) ∧ Hid (OwnsStr w.heap.size wr A c qs) ∧ Hid (Ext w wr)
theorem reads_cells {W : World} {B b off : Nat} {l : List ByteArray} (h : ReadsStr W B (some ⟨b, off, none⟩) l) : ∀ j u, (l.flatMap encStr)[j]? = some u → W.cell? ((⟨b, off, none⟩ : Addr).add j) = some u := by
 intro j u hj
 have hj' := (List.getElem?_eq_some_iff.1 hj).1
 rw [sE.flat_len] at hj'
 obtain ⟨b', off', e1, _, h3⟩ := ReadsStr.cell h j (by omega)
 injection e1 with e1
 injection e1 with e1 e2
 subst e1 e2
 have k := sE.flat_get l j (by omega) 0 (by omega)
 rw [show j * 1 + 0 = j by omega, hj] at k
 have e : u = .string l[j] := by
  have := k.symm
  simp [encStr] at this
  exact this.symm
 rw [e, addr_add]
 exact h3
theorem rpath_any (A0 : Option Addr) (c0 : Nat) (ls : List ByteArray) (w : World) (hl : ls.length ≤ 100000) (hs : ∀ x ∈ ls, x.size ≤ 4096) (hr : ReadsStr w w.heap.size A0 ls) :
  Calls Tryz.prog 212 #[.slice A0 ls.length c0] w fun e w' => RslU (Ad.resAll (ls.map bsT)) w.heap.size e w' ∧ Ext w w' := by
 have HR := lh hr
 have HSz := lh hs
 clear hr hs
 go_enter Tryz.func212, Tryz.ntmps212
 go_wp2
 go_loopw [4, 5] (PaRel w ls) (fun _ i _ => ls.length - (intOf i).toNat)
 case atStart => exact ⟨none, 0, [], 0, rfl, rfl, Nat.zero_le _, Nat.le_refl _, lh rfl, lh (Owns.nil _ _ _ _ _), lh (eR _)⟩
 case round =>
  obtain ⟨A', c', qs, k, rfl, rfl, hk, hqk, HL, HO, HX⟩ := hrel
  have hsz := HX.out.size
  by_cases hlt : k < ls.length
  ·obtain ⟨b, off, rfl, hb, d1⟩ := ReadsStr.cell (HR.out.ext HX.out (Nat.le_refl _)) k hlt
   have hltm : k < (ls.map bsT).length := by rw [List.length_map]; exact hlt
   have HSt : Hid (Ad.resAll ((ls.map bsT).take (k + 1)) = Ad.resIn (qs.map bsT) (bsT ls[k])) := lh (by rw [res_take hltm HL.out, List.getElem_map])
   have HStop : Hid (Ad.resIn (qs.map bsT) (bsT ls[k]) = none → Ad.resAll (ls.map bsT) = none) := lh (fun h => res_stop (HSt.out.trans h))
   have hxs := HSz.out _ (List.getElem_mem hlt)
   generalize ls[k] = x at *
   have HE1 := lh (lit_walk x [46])
   have HE2 := lh (lit_walk x [46, 46])
   have HWd := lh (fun W => rword_any x W (by omega))
   by_cases h1 : bsT x = [46]
   ·have e1 : (x.toList == [46]) = true := by rw [HE1.out]; simpa using h1
    have HN : Hid (Ad.resAll ((ls.map bsT).take (k + 1)) = some (qs.map bsT)) := lh (by rw [HSt.out]; unfold Ad.resIn; rw [if_pos h1])
    clear h1 HStop HSt HE1 HE2 HWd
    go_wp2
    go_roundw
    case rel => exact ⟨A', c', qs, k + 1, rfl, by go_num, by omega, by omega, HN, HO, HX⟩
    case measure => simp [intOf]; omega
   have e1 : (x.toList == [46]) = false := by rw [HE1.out]; simpa using h1
   by_cases h2 : bsT x = [46, 46]
   ·have e2 : (x.toList == [46, 46]) = true := by rw [HE2.out]; simpa using h2
    by_cases h3 : 0 < qs.length
    ·have hdl : qs.dropLast.length = qs.length - 1 := List.length_dropLast
     have HN : Hid (Ad.resAll ((ls.map bsT).take (k + 1)) = some (qs.dropLast.map bsT)) := lh (by
      rw [HSt.out]; unfold Ad.resIn
      rw [if_neg (by rw [h2]; decide), if_pos h2, if_neg (by intro e; rw [List.map_eq_nil_iff] at e; rw [e] at h3; simp at h3), List.map_dropLast])
     obtain ⟨a, ha, hod⟩ := Owns.shorter sE HO.out h3
     rcases HO.out.cases with ⟨_, _, e⟩ | ⟨g, cur, rfl, _, _, hcap, hcm, _, _⟩
     ·rw [e] at h3; simp at h3
     have ha' := Option.some.inj ha
     subst ha'
     clear ha
     have HOd := lh hod
     unfold maxLen at hcm
     have d3 : decide ((qs.length : Int) = 0) = false := decide_eq_false (by omega)
     have d4 : ((qs.length : Int) == 0) = false := by rw [beq_eq_false_iff_ne]; omega
     clear h2 HStop HSt HE1 HE2 HWd hod
     go_wp2_with (at_builtin; refine (show Hid _ from ?_).out)
     refine lh ?_
     refine app_from strT sE rfl _ _ rfl w.heap.size _ 0 [] rfl (Owns.mk sE hsz (heap_alloc_new wr _) (Nat.le_refl _) (by unfold maxLen; omega) rfl rfl) ⟨g, 0, none⟩ (qs.length - 1) c' qs.dropLast rfl hdl (reads_cells ((HOd.out.alloc _).reads sE)) (by simp; omega) (by simp; omega) (by simp; omega) ?_
     intro A2 c2 l2 w2 HL2 hO9 hB9 hl1 hl2 _
     have HO2 := lh hO9
     have HB2 := lh hB9
     clear hO9 hB9
     go_wp2
     go_roundw
     case rel => exact ⟨A2, c2, l2, k + 1, rfl, by go_num, by omega, by (try simp at hl1 hl2); omega, by rw [HL2.out]; exact HN, HO2, lh ((HX.out.alloc _).grown HB2.out (Nat.le_refl _))⟩
     case measure => simp [intOf]; omega
    ·have hl0 : qs = [] := List.eq_nil_of_length_eq_zero (by omega)
     subst hl0
     have HFl := lh (HStop.out (by unfold Ad.resIn; rw [if_neg (by rw [h2]; decide), if_pos h2, if_pos (show List.map bsT [] = [] from rfl)]))
     clear HStop HSt HE1 HE2 h1 h2 HWd
     go_wp2
     refine bodyPost_ret (v := .tuple #[.slice none 0 0, .bool false]) ?_ rfl ⟨⟨none, 0, [], false, rfl, by rw [HFl.out]; rfl, by rw [HFl.out]; rfl, Owns.nil _ _ _ _ _⟩, (by (with_reducible repeat first|exact HX.out|exact eR _|apply eD|apply eN|apply eA|apply eO|apply eS|apply eC);all_goals first|omega|simp <;> omega)⟩
     simp [results, Tryz.results212, go_sem]
   ·have e2 : (x.toList == [46, 46]) = false := by rw [HE2.out]; simpa using h2
    cases h3 : Tg.wordB (bsT x) with
    | true =>
     have hw0 : Tg.wordB x.data.toList = true := h3
     rw [hw0] at HWd
     have HN : Hid (Ad.resAll ((ls.map bsT).take (k + 1)) = some ((qs ++ [x]).map bsT)) := lh (by
      rw [HSt.out]; unfold Ad.resIn
      rw [if_neg h1, if_neg h2, if_pos h3]
      simp)
     clear HStop HSt HE1 HE2 h1 h2 h3 hw0
     go_wp2_with (first
      | (go_at_call 165; refine (HWd.out _).mono ?_; rintro e w' ⟨rfl, hxl⟩; obtain ⟨xo, rfl⟩ := hxl.asLater; clear hxl)
      | (at_builtin; refine (show Hid _ from ?_).out))
     refine lh ?_
     refine app_from strT sE rfl _ _ rfl w.heap.size _ _ qs rfl ((HO.out.later _).alloc _) _ 1 _ [x] rfl rfl (new_cellsAt (by first | rfl | exact (later_size _ _).symm) _ _) (by omega) (by omega) (by first | omega | (simp [later_size]; omega)) ?_
     intro A2 c2 l2 w2 HL2 hO9 hB9 hl1 hl2 _
     have HO2 := lh hO9
     have HB2 := lh hB9
     clear hO9 hB9
     go_wp2
     go_roundw
     case rel => exact ⟨A2, c2, l2, k + 1, rfl, by go_num, by omega, by (try simp at hl1 hl2); omega, by rw [HL2.out]; exact HN, HO2, lh (((HX.out.onto _).alloc _).grown HB2.out (Nat.le_refl _))⟩
     case measure => simp [intOf]; omega
    | false =>
     have hw0 : Tg.wordB x.data.toList = false := h3
     rw [hw0] at HWd
     have HFl := lh (HStop.out (by unfold Ad.resIn; rw [if_neg h1, if_neg h2, if_neg (by rw [h3]; decide)]))
     clear HStop HSt HE1 HE2 h1 h2 h3 hw0
     go_wp2_with (go_at_call 165; refine (HWd.out _).mono ?_; rintro e w' ⟨rfl, hxl⟩; obtain ⟨xo, rfl⟩ := hxl.asLater; clear hxl)
     refine bodyPost_ret (v := .tuple #[.slice none 0 0, .bool false]) ?_ rfl ⟨⟨none, 0, [], false, rfl, by rw [HFl.out]; rfl, by rw [HFl.out]; rfl, Owns.nil _ _ _ _ _⟩, (by (with_reducible repeat first|exact HX.out|exact eR _|apply eD|apply eN|apply eA|apply eO|apply eS|apply eC);all_goals first|omega|simp <;> omega)⟩
     simp [results, Tryz.results212, go_sem]
  ·have e : k = ls.length := by omega
   subst e
   rw [List.take_of_length_le (by rw [List.length_map]; exact Nat.le_refl _)] at HL
   go_wp2
   refine bodyPost_ret (v := .tuple #[.slice A' qs.length c', .bool true]) ?_ rfl ⟨⟨A', c', qs, true, rfl, by rw [HL.out]; rfl, by rw [HL.out]; rfl, HO.out⟩, HX.out⟩
   simp [results, Tryz.results212, go_sem]
theorem pieces_cutB (c : UInt8) (s : List UInt8) : Ad.pieces c s = (Ad.cutB c s).1 :: (if (Ad.cutB c s).2.2 = true then Ad.pieces c (Ad.cutB c s).2.1 else []) := by
 rcases Ad.cutB_index c s with ⟨_, h2, h3⟩ | ⟨i, _, _, h3, h4, h5⟩
 ·rw [h2, Ad.pieces_one h3]; rfl
 ·rw [h3, Ad.pieces_hit h4 h5]; rfl
theorem same_last {t : ByteArray} {m m' : Nat} (hm : t.size = m + 1) (hm' : t.size = m' + 1) (h : t[m]'(by omega) ≠ 47) : t[m']'(by omega) ≠ 47 := by
 have e : m' = m := by omega
 subst e
 exact h
theorem bsT_last {t : ByteArray} {m : Nat} (hm : t.size = m + 1) : bsT t = (bsT t).take m ++ [t[m]'(by omega)] := by
 have hl : m < (bsT t).length := by rw [bsT_size]; omega
 have h1 : (bsT t)[m] = t[m]'(by omega) := by simp only [bsT, Array.getElem_toList]; rfl
 conv => lhs; rw [← List.take_append_drop m (bsT t)]
 rw [List.drop_eq_getElem_cons hl, h1, List.drop_eq_nil_of_le (by rw [bsT_size]; omega)]
theorem trim_at {t : ByteArray} {m : Nat} (hm : t.size = m + 1) (h : t[m]'(by omega) = 47) : bsT (t.extract 0 m) = Ad.trim1 (bsT t) := by
 have hl := bsT_last hm
 rw [h] at hl
 have hs : Lib.hasSuffix (bsT t) [47] = true := by
  rw [hl]; simp [Lib.hasSuffix]
 have hz := bsT_size t
 rw [bsT_take]
 unfold Ad.trim1 Lib.trimSuffix
 rw [if_pos hs, hz, hm]
 rfl
theorem trim_no {t : ByteArray} (h : ∀ m (hm : t.size = m + 1), t[m]'(by omega) ≠ 47) : bsT t = Ad.trim1 (bsT t) := by
 have hs : ¬ Lib.hasSuffix (bsT t) [47] = true := by
  rcases Nat.eq_zero_or_pos t.size with h0 | h0
  ·have e : bsT t = [] := List.eq_nil_of_length_eq_zero (by rw [bsT_size]; exact h0)
   rw [e]; simp [Lib.hasSuffix]
  ·obtain ⟨m, hm⟩ : ∃ m, t.size = m + 1 := ⟨t.size - 1, by omega⟩
   have hl := bsT_last hm
   have hn := h m hm
   rw [hl]
   simp [Lib.hasSuffix]
   exact fun e => hn e.symm
 unfold Ad.trim1 Lib.trimSuffix
 rw [if_neg hs]
theorem reads_tail {W : World} {B b off : Nat} {x : ByteArray} {l : List ByteArray} (h : ReadsStr W B (some ⟨b, off, none⟩) (x :: l)) : ReadsStr W B (some ⟨b, off + 1, none⟩) l := by
 intro h0
 obtain ⟨b', off', e1, h2, h3⟩ := h (by simp)
 injection e1 with e1
 injection e1 with e1 e2
 subst e1 e2
 refine ⟨b, off + 1, rfl, h2, fun i hi j v hv => ?_⟩
 have := h3 (i + 1) (by simp; omega) j v hv
 rwa [show off + (i + 1) * 1 + j = off + 1 + i * 1 + j by omega] at this
def RdAt (base : Nat) (a : Ad.Adr) (E : Int) (e : Ending) (w : World) : Prop :=
 ∃ (cu : ByteArray) (A : Option Addr) (c : Nat) (ls : List ByteArray) (A2 : Option Addr) (c2 : Nat) (qs : List PrB), e = .returned (.agg #[.string cu, .slice A ls.length c, .slice A2 qs.length c2, .int .i64 E]) ∧ (⟨bsT cu, ls.map bsT, qs.map prB⟩ : Ad.Adr) = a ∧ OwnsStr base w A c ls ∧ OwnsPr base w A2 c2 qs
theorem rd_ty : RowTy Tryz.prog 254 4 := ⟨by kernel_rfl, by kernel_rfl⟩
theorem rd_ld (w : World) (b o : Nat) : (rowLoad 254 4 (.pointer (some ⟨b, o, none⟩))).run Tryz.prog w = rowLoadR Tryz.prog w 254 4 b o (rowOf w b o 4) := run_rowLoad rd_ty w b o
theorem rd_st (w : World) (b o : Nat) (cells : Array Value) : (rowStore 254 4 (.pointer (some ⟨b, o, none⟩)) (.agg cells)).run Tryz.prog w = rowStoreR Tryz.prog w 254 4 b o cells (roomOf w b o 4 && fitsRow 4 cells) := run_rowStore rd_ty w b o cells
theorem rd_al (w : World) : (rowAlloc 254).run Tryz.prog w = .ok (.value (.pointer (some ⟨w.heap.size, 0, none⟩))) (w.alloc (.cells (#[.string ByteArray.empty, .slice none 0 0, .slice none 0 0, .int .i64 0]) 254)) := run_rowAlloc (by kernel_rfl) w
theorem rd_xl (ρ : Operand → Value) (dst : Option Tmp) (x : Operand) (t : TypeId) (pos : String) (after : Array Edge) (guard : Option (Nat × Bool)) : execOp ρ { dst, op := .load 254 x, type := t, pos, after, guard } = rowLoad 254 4 (ρ x) := rfl
theorem rd_xs (ρ : Operand → Value) (dst : Option Tmp) (x y : Operand) (t : TypeId) (pos : String) (after : Array Edge) (guard : Option (Nat × Bool)) : execOp ρ { dst, op := .store 254 x y, type := t, pos, after, guard } = rowStore 254 4 (ρ x) (ρ y) := rfl
theorem rd_xa (ρ : Operand → Value) (dst : Option Tmp) (t : TypeId) (pos : String) (after : Array Edge) (guard : Option (Nat × Bool)) : execOp ρ { dst, op := .alloc 254, type := t, pos, after, guard } = rowAlloc 254 := rfl
attribute [go_sem ↓] rd_xl rd_xs rd_xa
attribute [go_sem] rd_ld rd_st rd_al
theorem rd_fits (cu : ByteArray) (A : Option Addr) (n c : Nat) (A2 : Option Addr) (n2 c2 : Nat) (E : Int) : fitsRow 4 #[.string cu, .slice A n c, .slice A2 n2 c2, .int .i64 E] = true := by kernel_rfl
attribute [local go_sem] rd_fits
theorem r6parse_any (s : ByteArray) (w : World) (hs : s.size ≤ 900000) :
  Calls Tryz.prog 181 #[.string s] w fun e w' => RdAt w.heap.size (Ad.parseA (bsT s)) (Ad.parseE (bsT s)) e w' ∧ Ext w w' := by
 have hz := bsT_size s
 by_cases h4 : 4096 < s.size
 ·have HE : Hid (Ad.parseE (bsT s) = 2) := lh (by unfold Ad.parseE; rw [hz, if_pos h4])
  have HA : Hid (Ad.parseA (bsT s) = Ad.noAdr) := lh (by unfold Ad.parseA; rw [HE.out]; rfl)
  clear hz
  go_enter Tryz.func181, Tryz.ntmps181
  go_wp2
  rw [HE.out, HA.out]
  exact post_row rd_ty Tryz.results181 rfl rfl (RowAt.stored (n := 4) (RowAt.new _ _ _) rfl rfl (by omega)) ⟨⟨⟨#[]⟩, none, 0, [], none, 0, [], rfl, rfl, Owns.nil _ _ _ _ _, Owns.nil _ _ _ _ _⟩, (by (with_reducible repeat first|exact eR _|apply eD|apply eN|apply eA|apply eO|apply eS|apply eC);all_goals first|omega|simp <;> omega)⟩
 ·have HE : Hid (Ad.parseE (bsT s) = if Tg.nameB (Ad.leftN (bsT s)).1 = true ∧ (Ad.pathN (bsT s)).isSome = true ∧ (Ad.quN (Ad.headN (bsT s)).2.1).isSome = true then (if 32 < ((Ad.pathN (bsT s)).getD []).length ∨ 16 < ((Ad.quN (Ad.headN (bsT s)).2.1).getD []).length then 2 else 0) else 3) := lh (by unfold Ad.parseE; rw [hz, if_neg h4])
  have HA : Hid (Ad.parseA (bsT s) = if Ad.parseE (bsT s) = 0 then ⟨(Ad.leftN (bsT s)).1, (Ad.pathN (bsT s)).getD [], (Ad.quN (Ad.headN (bsT s)).2.1).getD []⟩ else Ad.noAdr) := lh rfl
  generalize Ad.parseA (bsT s) = PA at *
  generalize Ad.parseE (bsT s) = PE at *
  go_enter Tryz.func181, Tryz.ntmps181
  go_wp2_with (first
   | (go_at_call 211; refine (rsmall_any s _ hs).mono ?_; rintro e w' ⟨⟨t, rfl, hlo, hlt⟩, hxl⟩; obtain ⟨xl, rfl⟩ := hxl.asLater; clear hxl; have HLo := lh hlo; clear hlo)
   | (go_at_call 210; refine (show Hid _ from ?_).out))
  refine lh ?_
  refine (r6cut_any t 63 _ (by omega)).mono ?_
  rintro e w' ⟨⟨a, b, fq, rfl, hcut, hla, hlb⟩, hxl⟩
  obtain ⟨x2, rfl⟩ := hxl.asLater
  have HHd : Hid (Ad.headN (bsT s) = (bsT a, bsT b, fq)) := lh (by unfold Ad.headN; rw [hcut]; exact congrArg _ HLo.out.symm)
  clear hxl hcut HLo
  have ha9 : a.size ≤ 4096 := by omega
  have hb9 : b.size ≤ 4096 := by omega
  clear hla hlb hlt
  rcases Nat.eq_zero_or_pos a.size with h0 | h0
  ·have HTr : Hid (bsT a = Ad.trim1 (bsT a)) := lh (trim_no (fun m hm => by omega))
   have d0 : decide (0 < (a.size : Int)) = false := decide_eq_false (by omega)
   go_upto_region 6 with (fail)
   clear d0
   go_upto_region 7 with (go_at_call 183; refine (rsplit_any a 47 _ (by omega)).mono ?_; rintro e w1 ⟨A1, c1, ls, rfl, hcut, ho1, hl1, hx1⟩)
   have hps : ls.map bsT = Ad.pieces 47 (bsT a) := Ad.pieces_of hcut
   rw [pieces_cutB, HTr.out] at hps
   have HLf : Hid (Ad.leftN (bsT s) = Ad.cutB 47 (Ad.trim1 (bsT a))) := lh (by unfold Ad.leftN; rw [HHd.out])
   rw [← HLf.out] at hps
   cases ls with
   | nil => cases hps
   | cons x0 rest =>
    rw [List.map_cons] at hps
    injection hps with hp0 hp1
    have HPt : Hid (Ad.pathN (bsT s) = Ad.resAll (rest.map bsT)) := lh (by
     rw [hp1]; unfold Ad.pathN
     split
     ·rfl
     ·rfl)
    rw [HHd.out, ← hp0] at HE HA
    have hx0 : x0.size ≤ 4096 := by
     have h1 := piece_le 47 (bsT a) (bsT x0) (by rw [← Ad.pieces_of hcut]; simp)
     rw [bsT_size, bsT_size] at h1
     omega
    have hrz : ∀ x ∈ rest, x.size ≤ 4096 := fun x hx => by
     have h1 := piece_le 47 (bsT a) (bsT x) (by rw [← Ad.pieces_of hcut]; exact List.mem_map_of_mem (List.mem_cons_of_mem _ hx))
     rw [bsT_size, bsT_size] at h1
     omega
    have HRz := lh hrz
    have hrow1 := ((RowAt.new w #[.string ByteArray.empty, .slice none 0 0, .slice none 0 0, .int .i64 0] 254).later _).ext hx1
    have hxw1 := (((Ext.refl w).alloc _).onto _).trans hx1
    have HRw := lh hrow1
    have HXw := lh hxw1
    have hlr := hrow1.lt
    have hmr : roomOf w1 w.heap.size 0 4 = true := by rw [hrow1.room]; rfl
    have HO1 := lh ho1
    rcases ho1.cases with ⟨_, _, e⟩ | ⟨g, cur, rfl, hg1, hg2, hcap, hcm, _, _⟩
    ·cases e
    have hglt : g < w1.heap.size := (Array.getElem?_eq_some_iff.1 hg2).1
    obtain ⟨b9, off9, e9, _, d0⟩ := ReadsStr.cell (HO1.out.reads sE) 0 (by simp)
    injection e9 with e9
    injection e9 with e9 e10
    subst e9 e10
    rw [List.length_cons] at hcap hl1
    unfold maxLen at hcm
    simp only [List.getElem_cons_zero] at d0
    have HNm := lh (fun W => rname_any x0 W (by omega))
    clear hcut hp0 hp1 hx1 hrow1 hxw1 ho1 HLf HTr hrz hg2 HHd
    generalize Ad.leftN (bsT s) = LF at *
    cases hn : Tg.nameB (bsT x0) with
    | false =>
     have hn' : Tg.nameB x0.data.toList = false := hn
     rw [hn'] at HNm
     have HE' : Hid (PE = 3) := lh (by rw [HE.out, hn]; rfl)
     have HA' : Hid (PA = Ad.noAdr) := lh (by rw [HA.out, HE'.out]; rfl)
     clear HE HA hn hn'
     go_wp2_with (go_at_call 135; refine (HNm.out _).mono ?_; rintro e w' ⟨rfl, hxl⟩; obtain ⟨xn, rfl⟩ := hxl.asLater; clear hxl)
     rw [HE'.out, HA'.out]
     exact post_row rd_ty Tryz.results181 rfl rfl (RowAt.stored (n := 4) (ds := #[.string ByteArray.empty, .slice none 0 0, .slice none 0 0, .int .i64 3]) (HRw.out.later _) rfl rfl (by omega)) ⟨⟨⟨#[]⟩, none, 0, [], none, 0, [], rfl, rfl, Owns.nil _ _ _ _ _, Owns.nil _ _ _ _ _⟩, (by (with_reducible repeat first|exact HXw.out|exact eR _|apply eD|apply eN|apply eA|apply eO|apply eS|apply eC);all_goals first|omega|simp <;> omega)⟩
    | true =>
     have hn' : Tg.nameB x0.data.toList = true := hn
     rw [hn'] at HNm
     have HPp : Hid (∀ W, Ext w1 W → ∀ (A0 : Option Addr) (c0 : Nat), (rest.length = 0 ∨ A0 = some ⟨g, 1, none⟩) → Calls Tryz.prog 212 #[.slice A0 rest.length c0] W fun e w' => RslU (Ad.resAll (rest.map bsT)) W.heap.size e w' ∧ Ext W w') := lh (fun W hx A0 c0 h => by
      refine rpath_any A0 c0 rest W (by omega) HRz.out ?_
      rcases h with h | h
      ·intro h9; omega
      ·subst h; exact reads_tail (off := 0) ((HO1.out.reads sE).on hx))
     have HE2 : Hid (PE = if (Ad.resAll (rest.map bsT)).isSome = true ∧ (Ad.quN (bsT b)).isSome = true then (if 32 < ((Ad.resAll (rest.map bsT)).getD []).length ∨ 16 < ((Ad.quN (bsT b)).getD []).length then 2 else 0) else 3) := lh (by rw [HE.out, HPt.out, hn]; simp)
     have HA2 : Hid (PA = if PE = 0 then ⟨bsT x0, (Ad.resAll (rest.map bsT)).getD [], (Ad.quN (bsT b)).getD []⟩ else Ad.noAdr) := lh (by rw [HA.out, HPt.out])
     clear HE HA hn hn' HRz HPt
     generalize Ad.resAll (rest.map bsT) = PT at *
     rcases (show c1 = 1 ∨ 2 ≤ c1 by omega) with hc1 | hc1
     ·have hr0 : rest.length = 0 := by omega
      subst hc1
      go_wp2_with (first
       | (go_at_call 135; refine (HNm.out _).mono ?_; rintro e w' ⟨rfl, hxl⟩; obtain ⟨xn, rfl⟩ := hxl.asLater; clear hxl)
       | (go_at_call 212; refine (show Hid _ from ?_).out))
      refine lh ?_
      (try rw [← hr0])
      refine (HPp.out _ (ext_later _ _) _ _ (.inl hr0)).mono ?_
      rintro e w5 ⟨⟨Ap, cp, lp, one, rfl, hone, hlp, hop⟩, hx5⟩
      have hrow5 := (HRw.out.later _).ext hx5
      have HOne := lh hone
      have HLp := lh hlp
      clear hone hlp
      have HRw5 := lh hrow5
      have HXw5 := lh ((HXw.out.onto _).trans hx5)
      have HOp := lh hop
      have hl5 := hrow5.lt
      have hsz5 := hx5.size
      rw [later_size] at hsz5
      have d05 : w5.cell? ⟨g, 0, none⟩ = some (.string x0) := (hx5.cell (p := ⟨g, 0, none⟩) (by show g < _; rw [later_size]; omega)).trans (((ext_later _ _).cell (p := ⟨g, 0, none⟩) (by exact hglt)).trans d0)
      have hbs5 : w.heap.size + 1 ≤ (later w1 xn).heap.size := by rw [later_size]; omega
      clear hop hx5 hrow5
      go_wp2_with (go_at_call 213; refine (show Hid _ from ?_).out)
      refine lh ?_
      refine (rquery_any b _ hb9).mono ?_
      rintro e w7 ⟨⟨A2, c2, qs, two, rfl, htwo, hqs, hoq⟩, hx7⟩
      have hrow7 := HRw5.out.ext hx7
      have HRw7 := lh hrow7
      have HXw7 := lh (HXw5.out.trans hx7)
      have HOp7 := lh ((HOp.out.ext hx7).lower hbs5)
      have HOq7 := lh (hoq.lower (b2 := w.heap.size + 1) (by omega))
      have d07 : w7.cell? ⟨g, 0, none⟩ = some (.string x0) := (hx7.cell (p := ⟨g, 0, none⟩) (by show g < _; omega)).trans d05
      have hm7 : roomOf w7 w.heap.size 0 4 = true := by rw [hrow7.room]; rfl
      have hl7 := hrow7.lt
      have hsz7 := hx7.size
      have HE3 : Hid (PE = if one = true ∧ two = true then (if 32 < lp.length ∨ 16 < qs.length then 2 else 0) else 3) := lh (by
       have e1 : lp.length = (PT.getD []).length := by rw [← HLp.out, List.length_map]
       have e2 : qs.length = ((Ad.quN (bsT b)).getD []).length := by rw [← hqs, List.length_map]
       rw [HE2.out, HOne.out, htwo, e1, e2])
      have HA3 : Hid (PA = if PE = 0 then ⟨bsT x0, lp.map bsT, qs.map prB⟩ else Ad.noAdr) := lh (by rw [HA2.out, HLp.out, hqs])
      clear hoq hx7 hrow7 HOne HLp htwo hqs HE2 HA2 HPp HOp HRw5 HXw5 HRw HXw HO1
      cases one with
      | false =>
       have HE' : Hid (PE = 3) := lh (by rw [HE3.out]; rfl)
       have HA' : Hid (PA = Ad.noAdr) := lh (by rw [HA3.out, HE'.out]; rfl)
       clear HE3 HA3
       go_wp2
       rw [HE'.out, HA'.out]
       exact post_row rd_ty Tryz.results181 rfl rfl (RowAt.stored (n := 4) (ds := #[.string ByteArray.empty, .slice none 0 0, .slice none 0 0, .int .i64 3]) HRw7.out rfl rfl (by omega)) ⟨⟨⟨#[]⟩, none, 0, [], none, 0, [], rfl, rfl, Owns.nil _ _ _ _ _, Owns.nil _ _ _ _ _⟩, (by (with_reducible repeat first|exact HXw7.out|exact eR _|apply eD|apply eN|apply eA|apply eO|apply eS|apply eC);all_goals first|omega|simp <;> omega)⟩
      | true =>
       cases two with
       | false =>
        have HE' : Hid (PE = 3) := lh (by rw [HE3.out]; rfl)
        have HA' : Hid (PA = Ad.noAdr) := lh (by rw [HA3.out, HE'.out]; rfl)
        clear HE3 HA3
        go_wp2
        rw [HE'.out, HA'.out]
        exact post_row rd_ty Tryz.results181 rfl rfl (RowAt.stored (n := 4) (ds := #[.string ByteArray.empty, .slice none 0 0, .slice none 0 0, .int .i64 3]) HRw7.out rfl rfl (by omega)) ⟨⟨⟨#[]⟩, none, 0, [], none, 0, [], rfl, rfl, Owns.nil _ _ _ _ _, Owns.nil _ _ _ _ _⟩, (by (with_reducible repeat first|exact HXw7.out|exact eR _|apply eD|apply eN|apply eA|apply eO|apply eS|apply eC);all_goals first|omega|simp <;> omega)⟩
       | true =>
        by_cases h32 : 32 < lp.length
        ·have d32 : decide ((32 : Int) < (lp.length : Int)) = true := decide_eq_true (by omega)
         have HE' : Hid (PE = 2) := lh (by rw [HE3.out, if_pos ⟨rfl, rfl⟩, if_pos (.inl h32)])
         have HA' : Hid (PA = Ad.noAdr) := lh (by rw [HA3.out, HE'.out]; rfl)
         clear HE3 HA3
         go_wp2
         rw [HE'.out, HA'.out]
         exact post_row rd_ty Tryz.results181 rfl rfl (RowAt.stored (n := 4) (ds := #[.string ByteArray.empty, .slice none 0 0, .slice none 0 0, .int .i64 2]) HRw7.out rfl rfl (by omega)) ⟨⟨⟨#[]⟩, none, 0, [], none, 0, [], rfl, rfl, Owns.nil _ _ _ _ _, Owns.nil _ _ _ _ _⟩, (by (with_reducible repeat first|exact HXw7.out|exact eR _|apply eD|apply eN|apply eA|apply eO|apply eS|apply eC);all_goals first|omega|simp <;> omega)⟩
        ·have d32 : decide ((32 : Int) < (lp.length : Int)) = false := decide_eq_false (by omega)
         by_cases h16 : 16 < qs.length
         ·have d16 : decide ((16 : Int) < (qs.length : Int)) = true := decide_eq_true (by omega)
          have HE' : Hid (PE = 2) := lh (by rw [HE3.out, if_pos ⟨rfl, rfl⟩, if_pos (.inr h16)])
          have HA' : Hid (PA = Ad.noAdr) := lh (by rw [HA3.out, HE'.out]; rfl)
          clear HE3 HA3
          go_wp2
          rw [HE'.out, HA'.out]
          exact post_row rd_ty Tryz.results181 rfl rfl (RowAt.stored (n := 4) (ds := #[.string ByteArray.empty, .slice none 0 0, .slice none 0 0, .int .i64 2]) HRw7.out rfl rfl (by omega)) ⟨⟨⟨#[]⟩, none, 0, [], none, 0, [], rfl, rfl, Owns.nil _ _ _ _ _, Owns.nil _ _ _ _ _⟩, (by (with_reducible repeat first|exact HXw7.out|exact eR _|apply eD|apply eN|apply eA|apply eO|apply eS|apply eC);all_goals first|omega|simp <;> omega)⟩
         ·have d16 : decide ((16 : Int) < (qs.length : Int)) = false := decide_eq_false (by omega)
          have HE' : Hid (PE = 0) := lh (by rw [HE3.out, if_pos ⟨rfl, rfl⟩, if_neg (by omega)])
          have HA' : Hid (PA = ⟨bsT x0, lp.map bsT, qs.map prB⟩) := lh (by rw [HA3.out, HE'.out, if_pos rfl])
          clear HE3 HA3
          go_wp2
          rw [HE'.out, HA'.out]
          exact post_row rd_ty Tryz.results181 rfl rfl (RowAt.stored (n := 4) (ds := #[.string x0, .slice Ap lp.length cp, .slice A2 qs.length c2, .int .i64 0]) HRw7.out rfl rfl (by omega)) ⟨⟨x0, Ap, cp, lp, A2, c2, qs, rfl, rfl, (HOp7.out.others (by omega) 0 _).lower (by omega), (HOq7.out.others (by omega) 0 _).lower (by omega)⟩, (by (with_reducible repeat first|exact HXw7.out|exact eR _|apply eD|apply eN|apply eA|apply eO|apply eS|apply eC);all_goals first|omega|simp <;> omega)⟩
     ·go_wp2_with (first
       | (go_at_call 135; refine (HNm.out _).mono ?_; rintro e w' ⟨rfl, hxl⟩; obtain ⟨xn, rfl⟩ := hxl.asLater; clear hxl)
       | (go_at_call 212; refine (show Hid _ from ?_).out))
      refine lh ?_
      refine (HPp.out _ (ext_later _ _) _ _ (.inr rfl)).mono ?_
      rintro e w5 ⟨⟨Ap, cp, lp, one, rfl, hone, hlp, hop⟩, hx5⟩
      have hrow5 := (HRw.out.later _).ext hx5
      have HOne := lh hone
      have HLp := lh hlp
      clear hone hlp
      have HRw5 := lh hrow5
      have HXw5 := lh ((HXw.out.onto _).trans hx5)
      have HOp := lh hop
      have hl5 := hrow5.lt
      have hsz5 := hx5.size
      rw [later_size] at hsz5
      have d05 : w5.cell? ⟨g, 0, none⟩ = some (.string x0) := (hx5.cell (p := ⟨g, 0, none⟩) (by show g < _; rw [later_size]; omega)).trans (((ext_later _ _).cell (p := ⟨g, 0, none⟩) (by exact hglt)).trans d0)
      have hbs5 : w.heap.size + 1 ≤ (later w1 xn).heap.size := by rw [later_size]; omega
      clear hop hx5 hrow5
      go_wp2_with (go_at_call 213; refine (show Hid _ from ?_).out)
      refine lh ?_
      refine (rquery_any b _ hb9).mono ?_
      rintro e w7 ⟨⟨A2, c2, qs, two, rfl, htwo, hqs, hoq⟩, hx7⟩
      have hrow7 := HRw5.out.ext hx7
      have HRw7 := lh hrow7
      have HXw7 := lh (HXw5.out.trans hx7)
      have HOp7 := lh ((HOp.out.ext hx7).lower hbs5)
      have HOq7 := lh (hoq.lower (b2 := w.heap.size + 1) (by omega))
      have d07 : w7.cell? ⟨g, 0, none⟩ = some (.string x0) := (hx7.cell (p := ⟨g, 0, none⟩) (by show g < _; omega)).trans d05
      have hm7 : roomOf w7 w.heap.size 0 4 = true := by rw [hrow7.room]; rfl
      have hl7 := hrow7.lt
      have hsz7 := hx7.size
      have HE3 : Hid (PE = if one = true ∧ two = true then (if 32 < lp.length ∨ 16 < qs.length then 2 else 0) else 3) := lh (by
       have e1 : lp.length = (PT.getD []).length := by rw [← HLp.out, List.length_map]
       have e2 : qs.length = ((Ad.quN (bsT b)).getD []).length := by rw [← hqs, List.length_map]
       rw [HE2.out, HOne.out, htwo, e1, e2])
      have HA3 : Hid (PA = if PE = 0 then ⟨bsT x0, lp.map bsT, qs.map prB⟩ else Ad.noAdr) := lh (by rw [HA2.out, HLp.out, hqs])
      clear hoq hx7 hrow7 HOne HLp htwo hqs HE2 HA2 HPp HOp HRw5 HXw5 HRw HXw HO1
      cases one with
      | false =>
       have HE' : Hid (PE = 3) := lh (by rw [HE3.out]; rfl)
       have HA' : Hid (PA = Ad.noAdr) := lh (by rw [HA3.out, HE'.out]; rfl)
       clear HE3 HA3
       go_wp2
       rw [HE'.out, HA'.out]
       exact post_row rd_ty Tryz.results181 rfl rfl (RowAt.stored (n := 4) (ds := #[.string ByteArray.empty, .slice none 0 0, .slice none 0 0, .int .i64 3]) HRw7.out rfl rfl (by omega)) ⟨⟨⟨#[]⟩, none, 0, [], none, 0, [], rfl, rfl, Owns.nil _ _ _ _ _, Owns.nil _ _ _ _ _⟩, (by (with_reducible repeat first|exact HXw7.out|exact eR _|apply eD|apply eN|apply eA|apply eO|apply eS|apply eC);all_goals first|omega|simp <;> omega)⟩
      | true =>
       cases two with
       | false =>
        have HE' : Hid (PE = 3) := lh (by rw [HE3.out]; rfl)
        have HA' : Hid (PA = Ad.noAdr) := lh (by rw [HA3.out, HE'.out]; rfl)
        clear HE3 HA3
        go_wp2
        rw [HE'.out, HA'.out]
        exact post_row rd_ty Tryz.results181 rfl rfl (RowAt.stored (n := 4) (ds := #[.string ByteArray.empty, .slice none 0 0, .slice none 0 0, .int .i64 3]) HRw7.out rfl rfl (by omega)) ⟨⟨⟨#[]⟩, none, 0, [], none, 0, [], rfl, rfl, Owns.nil _ _ _ _ _, Owns.nil _ _ _ _ _⟩, (by (with_reducible repeat first|exact HXw7.out|exact eR _|apply eD|apply eN|apply eA|apply eO|apply eS|apply eC);all_goals first|omega|simp <;> omega)⟩
       | true =>
        by_cases h32 : 32 < lp.length
        ·have d32 : decide ((32 : Int) < (lp.length : Int)) = true := decide_eq_true (by omega)
         have HE' : Hid (PE = 2) := lh (by rw [HE3.out, if_pos ⟨rfl, rfl⟩, if_pos (.inl h32)])
         have HA' : Hid (PA = Ad.noAdr) := lh (by rw [HA3.out, HE'.out]; rfl)
         clear HE3 HA3
         go_wp2
         rw [HE'.out, HA'.out]
         exact post_row rd_ty Tryz.results181 rfl rfl (RowAt.stored (n := 4) (ds := #[.string ByteArray.empty, .slice none 0 0, .slice none 0 0, .int .i64 2]) HRw7.out rfl rfl (by omega)) ⟨⟨⟨#[]⟩, none, 0, [], none, 0, [], rfl, rfl, Owns.nil _ _ _ _ _, Owns.nil _ _ _ _ _⟩, (by (with_reducible repeat first|exact HXw7.out|exact eR _|apply eD|apply eN|apply eA|apply eO|apply eS|apply eC);all_goals first|omega|simp <;> omega)⟩
        ·have d32 : decide ((32 : Int) < (lp.length : Int)) = false := decide_eq_false (by omega)
         by_cases h16 : 16 < qs.length
         ·have d16 : decide ((16 : Int) < (qs.length : Int)) = true := decide_eq_true (by omega)
          have HE' : Hid (PE = 2) := lh (by rw [HE3.out, if_pos ⟨rfl, rfl⟩, if_pos (.inr h16)])
          have HA' : Hid (PA = Ad.noAdr) := lh (by rw [HA3.out, HE'.out]; rfl)
          clear HE3 HA3
          go_wp2
          rw [HE'.out, HA'.out]
          exact post_row rd_ty Tryz.results181 rfl rfl (RowAt.stored (n := 4) (ds := #[.string ByteArray.empty, .slice none 0 0, .slice none 0 0, .int .i64 2]) HRw7.out rfl rfl (by omega)) ⟨⟨⟨#[]⟩, none, 0, [], none, 0, [], rfl, rfl, Owns.nil _ _ _ _ _, Owns.nil _ _ _ _ _⟩, (by (with_reducible repeat first|exact HXw7.out|exact eR _|apply eD|apply eN|apply eA|apply eO|apply eS|apply eC);all_goals first|omega|simp <;> omega)⟩
         ·have d16 : decide ((16 : Int) < (qs.length : Int)) = false := decide_eq_false (by omega)
          have HE' : Hid (PE = 0) := lh (by rw [HE3.out, if_pos ⟨rfl, rfl⟩, if_neg (by omega)])
          have HA' : Hid (PA = ⟨bsT x0, lp.map bsT, qs.map prB⟩) := lh (by rw [HA3.out, HE'.out, if_pos rfl])
          clear HE3 HA3
          go_wp2
          rw [HE'.out, HA'.out]
          exact post_row rd_ty Tryz.results181 rfl rfl (RowAt.stored (n := 4) (ds := #[.string x0, .slice Ap lp.length cp, .slice A2 qs.length c2, .int .i64 0]) HRw7.out rfl rfl (by omega)) ⟨⟨x0, Ap, cp, lp, A2, c2, qs, rfl, rfl, (HOp7.out.others (by omega) 0 _).lower (by omega), (HOq7.out.others (by omega) 0 _).lower (by omega)⟩, (by (with_reducible repeat first|exact HXw7.out|exact eR _|apply eD|apply eN|apply eA|apply eO|apply eS|apply eC);all_goals first|omega|simp <;> omega)⟩
  ·obtain ⟨m, hm⟩ : ∃ m, a.size = m + 1 := ⟨a.size - 1, by omega⟩
   by_cases h47 : a[m]'(by omega) = 47
   ·have hb7 : (((a[m]'(by omega)).toNat : Int) == 47) = true := by rw [h47]; rfl
    have HTr := lh (trim_at hm h47)
    have hu9 : (a.extract 0 m).size ≤ 4096 := by rw [ByteArray.size_extract]; omega
    go_upto_region 6 with (fail)
    generalize a.extract 0 m = u at *
    clear hb7 h47
    go_upto_region 7 with (go_at_call 183; refine (rsplit_any u 47 _ (by omega)).mono ?_; rintro e w1 ⟨A1, c1, ls, rfl, hcut, ho1, hl1, hx1⟩)
    have hps : ls.map bsT = Ad.pieces 47 (bsT u) := Ad.pieces_of hcut
    rw [pieces_cutB, HTr.out] at hps
    have HLf : Hid (Ad.leftN (bsT s) = Ad.cutB 47 (Ad.trim1 (bsT a))) := lh (by unfold Ad.leftN; rw [HHd.out])
    rw [← HLf.out] at hps
    cases ls with
    | nil => cases hps
    | cons x0 rest =>
     rw [List.map_cons] at hps
     injection hps with hp0 hp1
     have HPt : Hid (Ad.pathN (bsT s) = Ad.resAll (rest.map bsT)) := lh (by
      rw [hp1]; unfold Ad.pathN
      split
      ·rfl
      ·rfl)
     rw [HHd.out, ← hp0] at HE HA
     have hx0 : x0.size ≤ 4096 := by
      have h1 := piece_le 47 (bsT u) (bsT x0) (by rw [← Ad.pieces_of hcut]; simp)
      rw [bsT_size, bsT_size] at h1
      omega
     have hrz : ∀ x ∈ rest, x.size ≤ 4096 := fun x hx => by
      have h1 := piece_le 47 (bsT u) (bsT x) (by rw [← Ad.pieces_of hcut]; exact List.mem_map_of_mem (List.mem_cons_of_mem _ hx))
      rw [bsT_size, bsT_size] at h1
      omega
     have HRz := lh hrz
     have hrow1 := ((RowAt.new w #[.string ByteArray.empty, .slice none 0 0, .slice none 0 0, .int .i64 0] 254).later _).ext hx1
     have hxw1 := (((Ext.refl w).alloc _).onto _).trans hx1
     have HRw := lh hrow1
     have HXw := lh hxw1
     have hlr := hrow1.lt
     have hmr : roomOf w1 w.heap.size 0 4 = true := by rw [hrow1.room]; rfl
     have HO1 := lh ho1
     rcases ho1.cases with ⟨_, _, e⟩ | ⟨g, cur, rfl, hg1, hg2, hcap, hcm, _, _⟩
     ·cases e
     have hglt : g < w1.heap.size := (Array.getElem?_eq_some_iff.1 hg2).1
     obtain ⟨b9, off9, e9, _, d0⟩ := ReadsStr.cell (HO1.out.reads sE) 0 (by simp)
     injection e9 with e9
     injection e9 with e9 e10
     subst e9 e10
     rw [List.length_cons] at hcap hl1
     unfold maxLen at hcm
     simp only [List.getElem_cons_zero] at d0
     have HNm := lh (fun W => rname_any x0 W (by omega))
     clear hcut hp0 hp1 hx1 hrow1 hxw1 ho1 HLf HTr hrz hg2 HHd
     generalize Ad.leftN (bsT s) = LF at *
     cases hn : Tg.nameB (bsT x0) with
     | false =>
      have hn' : Tg.nameB x0.data.toList = false := hn
      rw [hn'] at HNm
      have HE' : Hid (PE = 3) := lh (by rw [HE.out, hn]; rfl)
      have HA' : Hid (PA = Ad.noAdr) := lh (by rw [HA.out, HE'.out]; rfl)
      clear HE HA hn hn'
      go_wp2_with (go_at_call 135; refine (HNm.out _).mono ?_; rintro e w' ⟨rfl, hxl⟩; obtain ⟨xn, rfl⟩ := hxl.asLater; clear hxl)
      rw [HE'.out, HA'.out]
      exact post_row rd_ty Tryz.results181 rfl rfl (RowAt.stored (n := 4) (ds := #[.string ByteArray.empty, .slice none 0 0, .slice none 0 0, .int .i64 3]) (HRw.out.later _) rfl rfl (by omega)) ⟨⟨⟨#[]⟩, none, 0, [], none, 0, [], rfl, rfl, Owns.nil _ _ _ _ _, Owns.nil _ _ _ _ _⟩, (by (with_reducible repeat first|exact HXw.out|exact eR _|apply eD|apply eN|apply eA|apply eO|apply eS|apply eC);all_goals first|omega|simp <;> omega)⟩
     | true =>
      have hn' : Tg.nameB x0.data.toList = true := hn
      rw [hn'] at HNm
      have HPp : Hid (∀ W, Ext w1 W → ∀ (A0 : Option Addr) (c0 : Nat), (rest.length = 0 ∨ A0 = some ⟨g, 1, none⟩) → Calls Tryz.prog 212 #[.slice A0 rest.length c0] W fun e w' => RslU (Ad.resAll (rest.map bsT)) W.heap.size e w' ∧ Ext W w') := lh (fun W hx A0 c0 h => by
       refine rpath_any A0 c0 rest W (by omega) HRz.out ?_
       rcases h with h | h
       ·intro h9; omega
       ·subst h; exact reads_tail (off := 0) ((HO1.out.reads sE).on hx))
      have HE2 : Hid (PE = if (Ad.resAll (rest.map bsT)).isSome = true ∧ (Ad.quN (bsT b)).isSome = true then (if 32 < ((Ad.resAll (rest.map bsT)).getD []).length ∨ 16 < ((Ad.quN (bsT b)).getD []).length then 2 else 0) else 3) := lh (by rw [HE.out, HPt.out, hn]; simp)
      have HA2 : Hid (PA = if PE = 0 then ⟨bsT x0, (Ad.resAll (rest.map bsT)).getD [], (Ad.quN (bsT b)).getD []⟩ else Ad.noAdr) := lh (by rw [HA.out, HPt.out])
      clear HE HA hn hn' HRz HPt
      generalize Ad.resAll (rest.map bsT) = PT at *
      rcases (show c1 = 1 ∨ 2 ≤ c1 by omega) with hc1 | hc1
      ·have hr0 : rest.length = 0 := by omega
       subst hc1
       go_wp2_with (first
        | (go_at_call 135; refine (HNm.out _).mono ?_; rintro e w' ⟨rfl, hxl⟩; obtain ⟨xn, rfl⟩ := hxl.asLater; clear hxl)
        | (go_at_call 212; refine (show Hid _ from ?_).out))
       refine lh ?_
       (try rw [← hr0])
       refine (HPp.out _ (ext_later _ _) _ _ (.inl hr0)).mono ?_
       rintro e w5 ⟨⟨Ap, cp, lp, one, rfl, hone, hlp, hop⟩, hx5⟩
       have hrow5 := (HRw.out.later _).ext hx5
       have HOne := lh hone
       have HLp := lh hlp
       clear hone hlp
       have HRw5 := lh hrow5
       have HXw5 := lh ((HXw.out.onto _).trans hx5)
       have HOp := lh hop
       have hl5 := hrow5.lt
       have hsz5 := hx5.size
       rw [later_size] at hsz5
       have d05 : w5.cell? ⟨g, 0, none⟩ = some (.string x0) := (hx5.cell (p := ⟨g, 0, none⟩) (by show g < _; rw [later_size]; omega)).trans (((ext_later _ _).cell (p := ⟨g, 0, none⟩) (by exact hglt)).trans d0)
       have hbs5 : w.heap.size + 1 ≤ (later w1 xn).heap.size := by rw [later_size]; omega
       clear hop hx5 hrow5
       go_wp2_with (go_at_call 213; refine (show Hid _ from ?_).out)
       refine lh ?_
       refine (rquery_any b _ hb9).mono ?_
       rintro e w7 ⟨⟨A2, c2, qs, two, rfl, htwo, hqs, hoq⟩, hx7⟩
       have hrow7 := HRw5.out.ext hx7
       have HRw7 := lh hrow7
       have HXw7 := lh (HXw5.out.trans hx7)
       have HOp7 := lh ((HOp.out.ext hx7).lower hbs5)
       have HOq7 := lh (hoq.lower (b2 := w.heap.size + 1) (by omega))
       have d07 : w7.cell? ⟨g, 0, none⟩ = some (.string x0) := (hx7.cell (p := ⟨g, 0, none⟩) (by show g < _; omega)).trans d05
       have hm7 : roomOf w7 w.heap.size 0 4 = true := by rw [hrow7.room]; rfl
       have hl7 := hrow7.lt
       have hsz7 := hx7.size
       have HE3 : Hid (PE = if one = true ∧ two = true then (if 32 < lp.length ∨ 16 < qs.length then 2 else 0) else 3) := lh (by
        have e1 : lp.length = (PT.getD []).length := by rw [← HLp.out, List.length_map]
        have e2 : qs.length = ((Ad.quN (bsT b)).getD []).length := by rw [← hqs, List.length_map]
        rw [HE2.out, HOne.out, htwo, e1, e2])
       have HA3 : Hid (PA = if PE = 0 then ⟨bsT x0, lp.map bsT, qs.map prB⟩ else Ad.noAdr) := lh (by rw [HA2.out, HLp.out, hqs])
       clear hoq hx7 hrow7 HOne HLp htwo hqs HE2 HA2 HPp HOp HRw5 HXw5 HRw HXw HO1
       cases one with
       | false =>
        have HE' : Hid (PE = 3) := lh (by rw [HE3.out]; rfl)
        have HA' : Hid (PA = Ad.noAdr) := lh (by rw [HA3.out, HE'.out]; rfl)
        clear HE3 HA3
        go_wp2
        rw [HE'.out, HA'.out]
        exact post_row rd_ty Tryz.results181 rfl rfl (RowAt.stored (n := 4) (ds := #[.string ByteArray.empty, .slice none 0 0, .slice none 0 0, .int .i64 3]) HRw7.out rfl rfl (by omega)) ⟨⟨⟨#[]⟩, none, 0, [], none, 0, [], rfl, rfl, Owns.nil _ _ _ _ _, Owns.nil _ _ _ _ _⟩, (by (with_reducible repeat first|exact HXw7.out|exact eR _|apply eD|apply eN|apply eA|apply eO|apply eS|apply eC);all_goals first|omega|simp <;> omega)⟩
       | true =>
        cases two with
        | false =>
         have HE' : Hid (PE = 3) := lh (by rw [HE3.out]; rfl)
         have HA' : Hid (PA = Ad.noAdr) := lh (by rw [HA3.out, HE'.out]; rfl)
         clear HE3 HA3
         go_wp2
         rw [HE'.out, HA'.out]
         exact post_row rd_ty Tryz.results181 rfl rfl (RowAt.stored (n := 4) (ds := #[.string ByteArray.empty, .slice none 0 0, .slice none 0 0, .int .i64 3]) HRw7.out rfl rfl (by omega)) ⟨⟨⟨#[]⟩, none, 0, [], none, 0, [], rfl, rfl, Owns.nil _ _ _ _ _, Owns.nil _ _ _ _ _⟩, (by (with_reducible repeat first|exact HXw7.out|exact eR _|apply eD|apply eN|apply eA|apply eO|apply eS|apply eC);all_goals first|omega|simp <;> omega)⟩
        | true =>
         by_cases h32 : 32 < lp.length
         ·have d32 : decide ((32 : Int) < (lp.length : Int)) = true := decide_eq_true (by omega)
          have HE' : Hid (PE = 2) := lh (by rw [HE3.out, if_pos ⟨rfl, rfl⟩, if_pos (.inl h32)])
          have HA' : Hid (PA = Ad.noAdr) := lh (by rw [HA3.out, HE'.out]; rfl)
          clear HE3 HA3
          go_wp2
          rw [HE'.out, HA'.out]
          exact post_row rd_ty Tryz.results181 rfl rfl (RowAt.stored (n := 4) (ds := #[.string ByteArray.empty, .slice none 0 0, .slice none 0 0, .int .i64 2]) HRw7.out rfl rfl (by omega)) ⟨⟨⟨#[]⟩, none, 0, [], none, 0, [], rfl, rfl, Owns.nil _ _ _ _ _, Owns.nil _ _ _ _ _⟩, (by (with_reducible repeat first|exact HXw7.out|exact eR _|apply eD|apply eN|apply eA|apply eO|apply eS|apply eC);all_goals first|omega|simp <;> omega)⟩
         ·have d32 : decide ((32 : Int) < (lp.length : Int)) = false := decide_eq_false (by omega)
          by_cases h16 : 16 < qs.length
          ·have d16 : decide ((16 : Int) < (qs.length : Int)) = true := decide_eq_true (by omega)
           have HE' : Hid (PE = 2) := lh (by rw [HE3.out, if_pos ⟨rfl, rfl⟩, if_pos (.inr h16)])
           have HA' : Hid (PA = Ad.noAdr) := lh (by rw [HA3.out, HE'.out]; rfl)
           clear HE3 HA3
           go_wp2
           rw [HE'.out, HA'.out]
           exact post_row rd_ty Tryz.results181 rfl rfl (RowAt.stored (n := 4) (ds := #[.string ByteArray.empty, .slice none 0 0, .slice none 0 0, .int .i64 2]) HRw7.out rfl rfl (by omega)) ⟨⟨⟨#[]⟩, none, 0, [], none, 0, [], rfl, rfl, Owns.nil _ _ _ _ _, Owns.nil _ _ _ _ _⟩, (by (with_reducible repeat first|exact HXw7.out|exact eR _|apply eD|apply eN|apply eA|apply eO|apply eS|apply eC);all_goals first|omega|simp <;> omega)⟩
          ·have d16 : decide ((16 : Int) < (qs.length : Int)) = false := decide_eq_false (by omega)
           have HE' : Hid (PE = 0) := lh (by rw [HE3.out, if_pos ⟨rfl, rfl⟩, if_neg (by omega)])
           have HA' : Hid (PA = ⟨bsT x0, lp.map bsT, qs.map prB⟩) := lh (by rw [HA3.out, HE'.out, if_pos rfl])
           clear HE3 HA3
           go_wp2
           rw [HE'.out, HA'.out]
           exact post_row rd_ty Tryz.results181 rfl rfl (RowAt.stored (n := 4) (ds := #[.string x0, .slice Ap lp.length cp, .slice A2 qs.length c2, .int .i64 0]) HRw7.out rfl rfl (by omega)) ⟨⟨x0, Ap, cp, lp, A2, c2, qs, rfl, rfl, (HOp7.out.others (by omega) 0 _).lower (by omega), (HOq7.out.others (by omega) 0 _).lower (by omega)⟩, (by (with_reducible repeat first|exact HXw7.out|exact eR _|apply eD|apply eN|apply eA|apply eO|apply eS|apply eC);all_goals first|omega|simp <;> omega)⟩
      ·go_wp2_with (first
        | (go_at_call 135; refine (HNm.out _).mono ?_; rintro e w' ⟨rfl, hxl⟩; obtain ⟨xn, rfl⟩ := hxl.asLater; clear hxl)
        | (go_at_call 212; refine (show Hid _ from ?_).out))
       refine lh ?_
       refine (HPp.out _ (ext_later _ _) _ _ (.inr rfl)).mono ?_
       rintro e w5 ⟨⟨Ap, cp, lp, one, rfl, hone, hlp, hop⟩, hx5⟩
       have hrow5 := (HRw.out.later _).ext hx5
       have HOne := lh hone
       have HLp := lh hlp
       clear hone hlp
       have HRw5 := lh hrow5
       have HXw5 := lh ((HXw.out.onto _).trans hx5)
       have HOp := lh hop
       have hl5 := hrow5.lt
       have hsz5 := hx5.size
       rw [later_size] at hsz5
       have d05 : w5.cell? ⟨g, 0, none⟩ = some (.string x0) := (hx5.cell (p := ⟨g, 0, none⟩) (by show g < _; rw [later_size]; omega)).trans (((ext_later _ _).cell (p := ⟨g, 0, none⟩) (by exact hglt)).trans d0)
       have hbs5 : w.heap.size + 1 ≤ (later w1 xn).heap.size := by rw [later_size]; omega
       clear hop hx5 hrow5
       go_wp2_with (go_at_call 213; refine (show Hid _ from ?_).out)
       refine lh ?_
       refine (rquery_any b _ hb9).mono ?_
       rintro e w7 ⟨⟨A2, c2, qs, two, rfl, htwo, hqs, hoq⟩, hx7⟩
       have hrow7 := HRw5.out.ext hx7
       have HRw7 := lh hrow7
       have HXw7 := lh (HXw5.out.trans hx7)
       have HOp7 := lh ((HOp.out.ext hx7).lower hbs5)
       have HOq7 := lh (hoq.lower (b2 := w.heap.size + 1) (by omega))
       have d07 : w7.cell? ⟨g, 0, none⟩ = some (.string x0) := (hx7.cell (p := ⟨g, 0, none⟩) (by show g < _; omega)).trans d05
       have hm7 : roomOf w7 w.heap.size 0 4 = true := by rw [hrow7.room]; rfl
       have hl7 := hrow7.lt
       have hsz7 := hx7.size
       have HE3 : Hid (PE = if one = true ∧ two = true then (if 32 < lp.length ∨ 16 < qs.length then 2 else 0) else 3) := lh (by
        have e1 : lp.length = (PT.getD []).length := by rw [← HLp.out, List.length_map]
        have e2 : qs.length = ((Ad.quN (bsT b)).getD []).length := by rw [← hqs, List.length_map]
        rw [HE2.out, HOne.out, htwo, e1, e2])
       have HA3 : Hid (PA = if PE = 0 then ⟨bsT x0, lp.map bsT, qs.map prB⟩ else Ad.noAdr) := lh (by rw [HA2.out, HLp.out, hqs])
       clear hoq hx7 hrow7 HOne HLp htwo hqs HE2 HA2 HPp HOp HRw5 HXw5 HRw HXw HO1
       cases one with
       | false =>
        have HE' : Hid (PE = 3) := lh (by rw [HE3.out]; rfl)
        have HA' : Hid (PA = Ad.noAdr) := lh (by rw [HA3.out, HE'.out]; rfl)
        clear HE3 HA3
        go_wp2
        rw [HE'.out, HA'.out]
        exact post_row rd_ty Tryz.results181 rfl rfl (RowAt.stored (n := 4) (ds := #[.string ByteArray.empty, .slice none 0 0, .slice none 0 0, .int .i64 3]) HRw7.out rfl rfl (by omega)) ⟨⟨⟨#[]⟩, none, 0, [], none, 0, [], rfl, rfl, Owns.nil _ _ _ _ _, Owns.nil _ _ _ _ _⟩, (by (with_reducible repeat first|exact HXw7.out|exact eR _|apply eD|apply eN|apply eA|apply eO|apply eS|apply eC);all_goals first|omega|simp <;> omega)⟩
       | true =>
        cases two with
        | false =>
         have HE' : Hid (PE = 3) := lh (by rw [HE3.out]; rfl)
         have HA' : Hid (PA = Ad.noAdr) := lh (by rw [HA3.out, HE'.out]; rfl)
         clear HE3 HA3
         go_wp2
         rw [HE'.out, HA'.out]
         exact post_row rd_ty Tryz.results181 rfl rfl (RowAt.stored (n := 4) (ds := #[.string ByteArray.empty, .slice none 0 0, .slice none 0 0, .int .i64 3]) HRw7.out rfl rfl (by omega)) ⟨⟨⟨#[]⟩, none, 0, [], none, 0, [], rfl, rfl, Owns.nil _ _ _ _ _, Owns.nil _ _ _ _ _⟩, (by (with_reducible repeat first|exact HXw7.out|exact eR _|apply eD|apply eN|apply eA|apply eO|apply eS|apply eC);all_goals first|omega|simp <;> omega)⟩
        | true =>
         by_cases h32 : 32 < lp.length
         ·have d32 : decide ((32 : Int) < (lp.length : Int)) = true := decide_eq_true (by omega)
          have HE' : Hid (PE = 2) := lh (by rw [HE3.out, if_pos ⟨rfl, rfl⟩, if_pos (.inl h32)])
          have HA' : Hid (PA = Ad.noAdr) := lh (by rw [HA3.out, HE'.out]; rfl)
          clear HE3 HA3
          go_wp2
          rw [HE'.out, HA'.out]
          exact post_row rd_ty Tryz.results181 rfl rfl (RowAt.stored (n := 4) (ds := #[.string ByteArray.empty, .slice none 0 0, .slice none 0 0, .int .i64 2]) HRw7.out rfl rfl (by omega)) ⟨⟨⟨#[]⟩, none, 0, [], none, 0, [], rfl, rfl, Owns.nil _ _ _ _ _, Owns.nil _ _ _ _ _⟩, (by (with_reducible repeat first|exact HXw7.out|exact eR _|apply eD|apply eN|apply eA|apply eO|apply eS|apply eC);all_goals first|omega|simp <;> omega)⟩
         ·have d32 : decide ((32 : Int) < (lp.length : Int)) = false := decide_eq_false (by omega)
          by_cases h16 : 16 < qs.length
          ·have d16 : decide ((16 : Int) < (qs.length : Int)) = true := decide_eq_true (by omega)
           have HE' : Hid (PE = 2) := lh (by rw [HE3.out, if_pos ⟨rfl, rfl⟩, if_pos (.inr h16)])
           have HA' : Hid (PA = Ad.noAdr) := lh (by rw [HA3.out, HE'.out]; rfl)
           clear HE3 HA3
           go_wp2
           rw [HE'.out, HA'.out]
           exact post_row rd_ty Tryz.results181 rfl rfl (RowAt.stored (n := 4) (ds := #[.string ByteArray.empty, .slice none 0 0, .slice none 0 0, .int .i64 2]) HRw7.out rfl rfl (by omega)) ⟨⟨⟨#[]⟩, none, 0, [], none, 0, [], rfl, rfl, Owns.nil _ _ _ _ _, Owns.nil _ _ _ _ _⟩, (by (with_reducible repeat first|exact HXw7.out|exact eR _|apply eD|apply eN|apply eA|apply eO|apply eS|apply eC);all_goals first|omega|simp <;> omega)⟩
          ·have d16 : decide ((16 : Int) < (qs.length : Int)) = false := decide_eq_false (by omega)
           have HE' : Hid (PE = 0) := lh (by rw [HE3.out, if_pos ⟨rfl, rfl⟩, if_neg (by omega)])
           have HA' : Hid (PA = ⟨bsT x0, lp.map bsT, qs.map prB⟩) := lh (by rw [HA3.out, HE'.out, if_pos rfl])
           clear HE3 HA3
           go_wp2
           rw [HE'.out, HA'.out]
           exact post_row rd_ty Tryz.results181 rfl rfl (RowAt.stored (n := 4) (ds := #[.string x0, .slice Ap lp.length cp, .slice A2 qs.length c2, .int .i64 0]) HRw7.out rfl rfl (by omega)) ⟨⟨x0, Ap, cp, lp, A2, c2, qs, rfl, rfl, (HOp7.out.others (by omega) 0 _).lower (by omega), (HOq7.out.others (by omega) 0 _).lower (by omega)⟩, (by (with_reducible repeat first|exact HXw7.out|exact eR _|apply eD|apply eN|apply eA|apply eO|apply eS|apply eC);all_goals first|omega|simp <;> omega)⟩
   ·have hb7 : (((a[m]'(by omega)).toNat : Int) == 47) = false := by
     rw [beq_eq_false_iff_ne]
     exact fun h => h47 (UInt8.toNat_inj.1 (by rw [show (47 : UInt8).toNat = 47 from rfl]; omega))
    have HTr : Hid (bsT a = Ad.trim1 (bsT a)) := lh (trim_no (fun m' hm' => same_last hm hm' h47))
    go_upto_region 6 with (fail)
    clear hb7 h47
    go_upto_region 7 with (go_at_call 183; refine (rsplit_any a 47 _ (by omega)).mono ?_; rintro e w1 ⟨A1, c1, ls, rfl, hcut, ho1, hl1, hx1⟩)
    have hps : ls.map bsT = Ad.pieces 47 (bsT a) := Ad.pieces_of hcut
    rw [pieces_cutB, HTr.out] at hps
    have HLf : Hid (Ad.leftN (bsT s) = Ad.cutB 47 (Ad.trim1 (bsT a))) := lh (by unfold Ad.leftN; rw [HHd.out])
    rw [← HLf.out] at hps
    cases ls with
    | nil => cases hps
    | cons x0 rest =>
     rw [List.map_cons] at hps
     injection hps with hp0 hp1
     have HPt : Hid (Ad.pathN (bsT s) = Ad.resAll (rest.map bsT)) := lh (by
      rw [hp1]; unfold Ad.pathN
      split
      ·rfl
      ·rfl)
     rw [HHd.out, ← hp0] at HE HA
     have hx0 : x0.size ≤ 4096 := by
      have h1 := piece_le 47 (bsT a) (bsT x0) (by rw [← Ad.pieces_of hcut]; simp)
      rw [bsT_size, bsT_size] at h1
      omega
     have hrz : ∀ x ∈ rest, x.size ≤ 4096 := fun x hx => by
      have h1 := piece_le 47 (bsT a) (bsT x) (by rw [← Ad.pieces_of hcut]; exact List.mem_map_of_mem (List.mem_cons_of_mem _ hx))
      rw [bsT_size, bsT_size] at h1
      omega
     have HRz := lh hrz
     have hrow1 := ((RowAt.new w #[.string ByteArray.empty, .slice none 0 0, .slice none 0 0, .int .i64 0] 254).later _).ext hx1
     have hxw1 := (((Ext.refl w).alloc _).onto _).trans hx1
     have HRw := lh hrow1
     have HXw := lh hxw1
     have hlr := hrow1.lt
     have hmr : roomOf w1 w.heap.size 0 4 = true := by rw [hrow1.room]; rfl
     have HO1 := lh ho1
     rcases ho1.cases with ⟨_, _, e⟩ | ⟨g, cur, rfl, hg1, hg2, hcap, hcm, _, _⟩
     ·cases e
     have hglt : g < w1.heap.size := (Array.getElem?_eq_some_iff.1 hg2).1
     obtain ⟨b9, off9, e9, _, d0⟩ := ReadsStr.cell (HO1.out.reads sE) 0 (by simp)
     injection e9 with e9
     injection e9 with e9 e10
     subst e9 e10
     rw [List.length_cons] at hcap hl1
     unfold maxLen at hcm
     simp only [List.getElem_cons_zero] at d0
     have HNm := lh (fun W => rname_any x0 W (by omega))
     clear hcut hp0 hp1 hx1 hrow1 hxw1 ho1 HLf HTr hrz hg2 HHd
     generalize Ad.leftN (bsT s) = LF at *
     cases hn : Tg.nameB (bsT x0) with
     | false =>
      have hn' : Tg.nameB x0.data.toList = false := hn
      rw [hn'] at HNm
      have HE' : Hid (PE = 3) := lh (by rw [HE.out, hn]; rfl)
      have HA' : Hid (PA = Ad.noAdr) := lh (by rw [HA.out, HE'.out]; rfl)
      clear HE HA hn hn'
      go_wp2_with (go_at_call 135; refine (HNm.out _).mono ?_; rintro e w' ⟨rfl, hxl⟩; obtain ⟨xn, rfl⟩ := hxl.asLater; clear hxl)
      rw [HE'.out, HA'.out]
      exact post_row rd_ty Tryz.results181 rfl rfl (RowAt.stored (n := 4) (ds := #[.string ByteArray.empty, .slice none 0 0, .slice none 0 0, .int .i64 3]) (HRw.out.later _) rfl rfl (by omega)) ⟨⟨⟨#[]⟩, none, 0, [], none, 0, [], rfl, rfl, Owns.nil _ _ _ _ _, Owns.nil _ _ _ _ _⟩, (by (with_reducible repeat first|exact HXw.out|exact eR _|apply eD|apply eN|apply eA|apply eO|apply eS|apply eC);all_goals first|omega|simp <;> omega)⟩
     | true =>
      have hn' : Tg.nameB x0.data.toList = true := hn
      rw [hn'] at HNm
      have HPp : Hid (∀ W, Ext w1 W → ∀ (A0 : Option Addr) (c0 : Nat), (rest.length = 0 ∨ A0 = some ⟨g, 1, none⟩) → Calls Tryz.prog 212 #[.slice A0 rest.length c0] W fun e w' => RslU (Ad.resAll (rest.map bsT)) W.heap.size e w' ∧ Ext W w') := lh (fun W hx A0 c0 h => by
       refine rpath_any A0 c0 rest W (by omega) HRz.out ?_
       rcases h with h | h
       ·intro h9; omega
       ·subst h; exact reads_tail (off := 0) ((HO1.out.reads sE).on hx))
      have HE2 : Hid (PE = if (Ad.resAll (rest.map bsT)).isSome = true ∧ (Ad.quN (bsT b)).isSome = true then (if 32 < ((Ad.resAll (rest.map bsT)).getD []).length ∨ 16 < ((Ad.quN (bsT b)).getD []).length then 2 else 0) else 3) := lh (by rw [HE.out, HPt.out, hn]; simp)
      have HA2 : Hid (PA = if PE = 0 then ⟨bsT x0, (Ad.resAll (rest.map bsT)).getD [], (Ad.quN (bsT b)).getD []⟩ else Ad.noAdr) := lh (by rw [HA.out, HPt.out])
      clear HE HA hn hn' HRz HPt
      generalize Ad.resAll (rest.map bsT) = PT at *
      rcases (show c1 = 1 ∨ 2 ≤ c1 by omega) with hc1 | hc1
      ·have hr0 : rest.length = 0 := by omega
       subst hc1
       go_wp2_with (first
        | (go_at_call 135; refine (HNm.out _).mono ?_; rintro e w' ⟨rfl, hxl⟩; obtain ⟨xn, rfl⟩ := hxl.asLater; clear hxl)
        | (go_at_call 212; refine (show Hid _ from ?_).out))
       refine lh ?_
       (try rw [← hr0])
       refine (HPp.out _ (ext_later _ _) _ _ (.inl hr0)).mono ?_
       rintro e w5 ⟨⟨Ap, cp, lp, one, rfl, hone, hlp, hop⟩, hx5⟩
       have hrow5 := (HRw.out.later _).ext hx5
       have HOne := lh hone
       have HLp := lh hlp
       clear hone hlp
       have HRw5 := lh hrow5
       have HXw5 := lh ((HXw.out.onto _).trans hx5)
       have HOp := lh hop
       have hl5 := hrow5.lt
       have hsz5 := hx5.size
       rw [later_size] at hsz5
       have d05 : w5.cell? ⟨g, 0, none⟩ = some (.string x0) := (hx5.cell (p := ⟨g, 0, none⟩) (by show g < _; rw [later_size]; omega)).trans (((ext_later _ _).cell (p := ⟨g, 0, none⟩) (by exact hglt)).trans d0)
       have hbs5 : w.heap.size + 1 ≤ (later w1 xn).heap.size := by rw [later_size]; omega
       clear hop hx5 hrow5
       go_wp2_with (go_at_call 213; refine (show Hid _ from ?_).out)
       refine lh ?_
       refine (rquery_any b _ hb9).mono ?_
       rintro e w7 ⟨⟨A2, c2, qs, two, rfl, htwo, hqs, hoq⟩, hx7⟩
       have hrow7 := HRw5.out.ext hx7
       have HRw7 := lh hrow7
       have HXw7 := lh (HXw5.out.trans hx7)
       have HOp7 := lh ((HOp.out.ext hx7).lower hbs5)
       have HOq7 := lh (hoq.lower (b2 := w.heap.size + 1) (by omega))
       have d07 : w7.cell? ⟨g, 0, none⟩ = some (.string x0) := (hx7.cell (p := ⟨g, 0, none⟩) (by show g < _; omega)).trans d05
       have hm7 : roomOf w7 w.heap.size 0 4 = true := by rw [hrow7.room]; rfl
       have hl7 := hrow7.lt
       have hsz7 := hx7.size
       have HE3 : Hid (PE = if one = true ∧ two = true then (if 32 < lp.length ∨ 16 < qs.length then 2 else 0) else 3) := lh (by
        have e1 : lp.length = (PT.getD []).length := by rw [← HLp.out, List.length_map]
        have e2 : qs.length = ((Ad.quN (bsT b)).getD []).length := by rw [← hqs, List.length_map]
        rw [HE2.out, HOne.out, htwo, e1, e2])
       have HA3 : Hid (PA = if PE = 0 then ⟨bsT x0, lp.map bsT, qs.map prB⟩ else Ad.noAdr) := lh (by rw [HA2.out, HLp.out, hqs])
       clear hoq hx7 hrow7 HOne HLp htwo hqs HE2 HA2 HPp HOp HRw5 HXw5 HRw HXw HO1
       cases one with
       | false =>
        have HE' : Hid (PE = 3) := lh (by rw [HE3.out]; rfl)
        have HA' : Hid (PA = Ad.noAdr) := lh (by rw [HA3.out, HE'.out]; rfl)
        clear HE3 HA3
        go_wp2
        rw [HE'.out, HA'.out]
        exact post_row rd_ty Tryz.results181 rfl rfl (RowAt.stored (n := 4) (ds := #[.string ByteArray.empty, .slice none 0 0, .slice none 0 0, .int .i64 3]) HRw7.out rfl rfl (by omega)) ⟨⟨⟨#[]⟩, none, 0, [], none, 0, [], rfl, rfl, Owns.nil _ _ _ _ _, Owns.nil _ _ _ _ _⟩, (by (with_reducible repeat first|exact HXw7.out|exact eR _|apply eD|apply eN|apply eA|apply eO|apply eS|apply eC);all_goals first|omega|simp <;> omega)⟩
       | true =>
        cases two with
        | false =>
         have HE' : Hid (PE = 3) := lh (by rw [HE3.out]; rfl)
         have HA' : Hid (PA = Ad.noAdr) := lh (by rw [HA3.out, HE'.out]; rfl)
         clear HE3 HA3
         go_wp2
         rw [HE'.out, HA'.out]
         exact post_row rd_ty Tryz.results181 rfl rfl (RowAt.stored (n := 4) (ds := #[.string ByteArray.empty, .slice none 0 0, .slice none 0 0, .int .i64 3]) HRw7.out rfl rfl (by omega)) ⟨⟨⟨#[]⟩, none, 0, [], none, 0, [], rfl, rfl, Owns.nil _ _ _ _ _, Owns.nil _ _ _ _ _⟩, (by (with_reducible repeat first|exact HXw7.out|exact eR _|apply eD|apply eN|apply eA|apply eO|apply eS|apply eC);all_goals first|omega|simp <;> omega)⟩
        | true =>
         by_cases h32 : 32 < lp.length
         ·have d32 : decide ((32 : Int) < (lp.length : Int)) = true := decide_eq_true (by omega)
          have HE' : Hid (PE = 2) := lh (by rw [HE3.out, if_pos ⟨rfl, rfl⟩, if_pos (.inl h32)])
          have HA' : Hid (PA = Ad.noAdr) := lh (by rw [HA3.out, HE'.out]; rfl)
          clear HE3 HA3
          go_wp2
          rw [HE'.out, HA'.out]
          exact post_row rd_ty Tryz.results181 rfl rfl (RowAt.stored (n := 4) (ds := #[.string ByteArray.empty, .slice none 0 0, .slice none 0 0, .int .i64 2]) HRw7.out rfl rfl (by omega)) ⟨⟨⟨#[]⟩, none, 0, [], none, 0, [], rfl, rfl, Owns.nil _ _ _ _ _, Owns.nil _ _ _ _ _⟩, (by (with_reducible repeat first|exact HXw7.out|exact eR _|apply eD|apply eN|apply eA|apply eO|apply eS|apply eC);all_goals first|omega|simp <;> omega)⟩
         ·have d32 : decide ((32 : Int) < (lp.length : Int)) = false := decide_eq_false (by omega)
          by_cases h16 : 16 < qs.length
          ·have d16 : decide ((16 : Int) < (qs.length : Int)) = true := decide_eq_true (by omega)
           have HE' : Hid (PE = 2) := lh (by rw [HE3.out, if_pos ⟨rfl, rfl⟩, if_pos (.inr h16)])
           have HA' : Hid (PA = Ad.noAdr) := lh (by rw [HA3.out, HE'.out]; rfl)
           clear HE3 HA3
           go_wp2
           rw [HE'.out, HA'.out]
           exact post_row rd_ty Tryz.results181 rfl rfl (RowAt.stored (n := 4) (ds := #[.string ByteArray.empty, .slice none 0 0, .slice none 0 0, .int .i64 2]) HRw7.out rfl rfl (by omega)) ⟨⟨⟨#[]⟩, none, 0, [], none, 0, [], rfl, rfl, Owns.nil _ _ _ _ _, Owns.nil _ _ _ _ _⟩, (by (with_reducible repeat first|exact HXw7.out|exact eR _|apply eD|apply eN|apply eA|apply eO|apply eS|apply eC);all_goals first|omega|simp <;> omega)⟩
          ·have d16 : decide ((16 : Int) < (qs.length : Int)) = false := decide_eq_false (by omega)
           have HE' : Hid (PE = 0) := lh (by rw [HE3.out, if_pos ⟨rfl, rfl⟩, if_neg (by omega)])
           have HA' : Hid (PA = ⟨bsT x0, lp.map bsT, qs.map prB⟩) := lh (by rw [HA3.out, HE'.out, if_pos rfl])
           clear HE3 HA3
           go_wp2
           rw [HE'.out, HA'.out]
           exact post_row rd_ty Tryz.results181 rfl rfl (RowAt.stored (n := 4) (ds := #[.string x0, .slice Ap lp.length cp, .slice A2 qs.length c2, .int .i64 0]) HRw7.out rfl rfl (by omega)) ⟨⟨x0, Ap, cp, lp, A2, c2, qs, rfl, rfl, (HOp7.out.others (by omega) 0 _).lower (by omega), (HOq7.out.others (by omega) 0 _).lower (by omega)⟩, (by (with_reducible repeat first|exact HXw7.out|exact eR _|apply eD|apply eN|apply eA|apply eO|apply eS|apply eC);all_goals first|omega|simp <;> omega)⟩
      ·go_wp2_with (first
        | (go_at_call 135; refine (HNm.out _).mono ?_; rintro e w' ⟨rfl, hxl⟩; obtain ⟨xn, rfl⟩ := hxl.asLater; clear hxl)
        | (go_at_call 212; refine (show Hid _ from ?_).out))
       refine lh ?_
       refine (HPp.out _ (ext_later _ _) _ _ (.inr rfl)).mono ?_
       rintro e w5 ⟨⟨Ap, cp, lp, one, rfl, hone, hlp, hop⟩, hx5⟩
       have hrow5 := (HRw.out.later _).ext hx5
       have HOne := lh hone
       have HLp := lh hlp
       clear hone hlp
       have HRw5 := lh hrow5
       have HXw5 := lh ((HXw.out.onto _).trans hx5)
       have HOp := lh hop
       have hl5 := hrow5.lt
       have hsz5 := hx5.size
       rw [later_size] at hsz5
       have d05 : w5.cell? ⟨g, 0, none⟩ = some (.string x0) := (hx5.cell (p := ⟨g, 0, none⟩) (by show g < _; rw [later_size]; omega)).trans (((ext_later _ _).cell (p := ⟨g, 0, none⟩) (by exact hglt)).trans d0)
       have hbs5 : w.heap.size + 1 ≤ (later w1 xn).heap.size := by rw [later_size]; omega
       clear hop hx5 hrow5
       go_wp2_with (go_at_call 213; refine (show Hid _ from ?_).out)
       refine lh ?_
       refine (rquery_any b _ hb9).mono ?_
       rintro e w7 ⟨⟨A2, c2, qs, two, rfl, htwo, hqs, hoq⟩, hx7⟩
       have hrow7 := HRw5.out.ext hx7
       have HRw7 := lh hrow7
       have HXw7 := lh (HXw5.out.trans hx7)
       have HOp7 := lh ((HOp.out.ext hx7).lower hbs5)
       have HOq7 := lh (hoq.lower (b2 := w.heap.size + 1) (by omega))
       have d07 : w7.cell? ⟨g, 0, none⟩ = some (.string x0) := (hx7.cell (p := ⟨g, 0, none⟩) (by show g < _; omega)).trans d05
       have hm7 : roomOf w7 w.heap.size 0 4 = true := by rw [hrow7.room]; rfl
       have hl7 := hrow7.lt
       have hsz7 := hx7.size
       have HE3 : Hid (PE = if one = true ∧ two = true then (if 32 < lp.length ∨ 16 < qs.length then 2 else 0) else 3) := lh (by
        have e1 : lp.length = (PT.getD []).length := by rw [← HLp.out, List.length_map]
        have e2 : qs.length = ((Ad.quN (bsT b)).getD []).length := by rw [← hqs, List.length_map]
        rw [HE2.out, HOne.out, htwo, e1, e2])
       have HA3 : Hid (PA = if PE = 0 then ⟨bsT x0, lp.map bsT, qs.map prB⟩ else Ad.noAdr) := lh (by rw [HA2.out, HLp.out, hqs])
       clear hoq hx7 hrow7 HOne HLp htwo hqs HE2 HA2 HPp HOp HRw5 HXw5 HRw HXw HO1
       cases one with
       | false =>
        have HE' : Hid (PE = 3) := lh (by rw [HE3.out]; rfl)
        have HA' : Hid (PA = Ad.noAdr) := lh (by rw [HA3.out, HE'.out]; rfl)
        clear HE3 HA3
        go_wp2
        rw [HE'.out, HA'.out]
        exact post_row rd_ty Tryz.results181 rfl rfl (RowAt.stored (n := 4) (ds := #[.string ByteArray.empty, .slice none 0 0, .slice none 0 0, .int .i64 3]) HRw7.out rfl rfl (by omega)) ⟨⟨⟨#[]⟩, none, 0, [], none, 0, [], rfl, rfl, Owns.nil _ _ _ _ _, Owns.nil _ _ _ _ _⟩, (by (with_reducible repeat first|exact HXw7.out|exact eR _|apply eD|apply eN|apply eA|apply eO|apply eS|apply eC);all_goals first|omega|simp <;> omega)⟩
       | true =>
        cases two with
        | false =>
         have HE' : Hid (PE = 3) := lh (by rw [HE3.out]; rfl)
         have HA' : Hid (PA = Ad.noAdr) := lh (by rw [HA3.out, HE'.out]; rfl)
         clear HE3 HA3
         go_wp2
         rw [HE'.out, HA'.out]
         exact post_row rd_ty Tryz.results181 rfl rfl (RowAt.stored (n := 4) (ds := #[.string ByteArray.empty, .slice none 0 0, .slice none 0 0, .int .i64 3]) HRw7.out rfl rfl (by omega)) ⟨⟨⟨#[]⟩, none, 0, [], none, 0, [], rfl, rfl, Owns.nil _ _ _ _ _, Owns.nil _ _ _ _ _⟩, (by (with_reducible repeat first|exact HXw7.out|exact eR _|apply eD|apply eN|apply eA|apply eO|apply eS|apply eC);all_goals first|omega|simp <;> omega)⟩
        | true =>
         by_cases h32 : 32 < lp.length
         ·have d32 : decide ((32 : Int) < (lp.length : Int)) = true := decide_eq_true (by omega)
          have HE' : Hid (PE = 2) := lh (by rw [HE3.out, if_pos ⟨rfl, rfl⟩, if_pos (.inl h32)])
          have HA' : Hid (PA = Ad.noAdr) := lh (by rw [HA3.out, HE'.out]; rfl)
          clear HE3 HA3
          go_wp2
          rw [HE'.out, HA'.out]
          exact post_row rd_ty Tryz.results181 rfl rfl (RowAt.stored (n := 4) (ds := #[.string ByteArray.empty, .slice none 0 0, .slice none 0 0, .int .i64 2]) HRw7.out rfl rfl (by omega)) ⟨⟨⟨#[]⟩, none, 0, [], none, 0, [], rfl, rfl, Owns.nil _ _ _ _ _, Owns.nil _ _ _ _ _⟩, (by (with_reducible repeat first|exact HXw7.out|exact eR _|apply eD|apply eN|apply eA|apply eO|apply eS|apply eC);all_goals first|omega|simp <;> omega)⟩
         ·have d32 : decide ((32 : Int) < (lp.length : Int)) = false := decide_eq_false (by omega)
          by_cases h16 : 16 < qs.length
          ·have d16 : decide ((16 : Int) < (qs.length : Int)) = true := decide_eq_true (by omega)
           have HE' : Hid (PE = 2) := lh (by rw [HE3.out, if_pos ⟨rfl, rfl⟩, if_pos (.inr h16)])
           have HA' : Hid (PA = Ad.noAdr) := lh (by rw [HA3.out, HE'.out]; rfl)
           clear HE3 HA3
           go_wp2
           rw [HE'.out, HA'.out]
           exact post_row rd_ty Tryz.results181 rfl rfl (RowAt.stored (n := 4) (ds := #[.string ByteArray.empty, .slice none 0 0, .slice none 0 0, .int .i64 2]) HRw7.out rfl rfl (by omega)) ⟨⟨⟨#[]⟩, none, 0, [], none, 0, [], rfl, rfl, Owns.nil _ _ _ _ _, Owns.nil _ _ _ _ _⟩, (by (with_reducible repeat first|exact HXw7.out|exact eR _|apply eD|apply eN|apply eA|apply eO|apply eS|apply eC);all_goals first|omega|simp <;> omega)⟩
          ·have d16 : decide ((16 : Int) < (qs.length : Int)) = false := decide_eq_false (by omega)
           have HE' : Hid (PE = 0) := lh (by rw [HE3.out, if_pos ⟨rfl, rfl⟩, if_neg (by omega)])
           have HA' : Hid (PA = ⟨bsT x0, lp.map bsT, qs.map prB⟩) := lh (by rw [HA3.out, HE'.out, if_pos rfl])
           clear HE3 HA3
           go_wp2
           rw [HE'.out, HA'.out]
           exact post_row rd_ty Tryz.results181 rfl rfl (RowAt.stored (n := 4) (ds := #[.string x0, .slice Ap lp.length cp, .slice A2 qs.length c2, .int .i64 0]) HRw7.out rfl rfl (by omega)) ⟨⟨x0, Ap, cp, lp, A2, c2, qs, rfl, rfl, (HOp7.out.others (by omega) 0 _).lower (by omega), (HOq7.out.others (by omega) 0 _).lower (by omega)⟩, (by (with_reducible repeat first|exact HXw7.out|exact eR _|apply eD|apply eN|apply eA|apply eO|apply eS|apply eC);all_goals first|omega|simp <;> omega)⟩
end Go.Proofs.YtpfhmcdcmepfdaaGreatDoor

namespace Go.Proofs.YtpfhmcdcmepfdaaGreatDoor
open Go.RowKit Go.Shelf
open Go.Proofs
theorem bs_eq {a : ByteArray} {l : List UInt8} (h : bsT a = l) : a = ⟨l.toArray⟩ := by
 rw [← h]; exact (bs_mk a).symm
theorem rtext_any (cu : ByteArray) (A : Option Addr) (c : Nat) (ls : List ByteArray) (A2 : Option Addr) (c2 : Nat) (qs : List PrB) (w : World) (h1 : cu.size ≤ 64) (h2 : ∀ x ∈ ls, x.size ≤ 64) (h3 : ∀ x ∈ qs, x.1.size ≤ 64 ∧ x.2.size ≤ 64) (hl : ls.length ≤ 32) (hq : qs.length ≤ 16)
  (hr : ReadsStr w w.heap.size A ls) (hr2 : ReadsPr w w.heap.size A2 qs) :
  Calls Tryz.prog 215 #[.agg #[.string cu, .slice A ls.length c, .slice A2 qs.length c2]] w fun e w' => e = .returned (.string ⟨(Ad.textT ⟨bsT cu, ls.map bsT, qs.map prB⟩).toArray⟩) ∧ Ext w w' := by
 have HR := lh hr
 have HR2 := lh hr2
 have H2 := lh h2
 have H3 := lh h3
 clear hr hr2 h2 h3
 go_enter Tryz.func215, Tryz.ntmps215
 go_wp2
 refine wp_world (fun W => Ext w W ∧ RowAt W w.heap.size #[.string cu, .slice A ls.length c, .slice A2 qs.length c2]) ⟨(by (with_reducible repeat first|exact eR _|apply eD|apply eN|apply eA|apply eO|apply eS|apply eC);all_goals first|omega|simp <;> omega), RowAt.new _ _ _⟩ ?_
 rintro W1 ⟨x1, r1⟩
 have HX1 := lh x1
 have HA1 := lh r1
 clear x1 r1
 go_loopw [3, 4] (fun o i wr => ∃ (k : Nat) (out : ByteArray), k ≤ ls.length ∧ o = .string out ∧ i = .int .i64 k ∧ Hid (bsT out = bsT cu ++ Ad.pathT ((ls.take k).map bsT)) ∧ Hid (Ext w wr) ∧ Hid (RowAt wr w.heap.size #[.string cu, .slice A ls.length c, .slice A2 qs.length c2]) ∧ out.size ≤ 64 + 65 * k) (fun _ i _ => ls.length - (intOf i).toNat)
 case atStart => exact ⟨0, cu, Nat.zero_le _, rfl, rfl, lh (by simp [Ad.pathT]), HX1, HA1, by omega⟩
 case round =>
  obtain ⟨k, out, hk, rfl, rfl, HB, HX, HA, hln⟩ := hrel
  have a1 := HA.out.cell 1
  have hlr := HA.out.lt
  by_cases hlt : k < ls.length
  ·obtain ⟨b, off, rfl, hb, d1⟩ := ReadsStr.cell (HR.out.ext HX.out (Nat.le_refl _)) k hlt
   have hx64 := H2.out _ (List.getElem_mem hlt)
   have HN : Hid (bsT (out ++ ⟨#[47]⟩ ++ ls[k]) = bsT cu ++ Ad.pathT ((ls.take (k + 1)).map bsT)) := lh (by
    have h := pathT_succ (ls.map bsT) k (by simpa using hlt)
    rw [List.map_take, h, bsT_app, bsT_app, HB.out, List.getElem_map, List.map_take]
    simp [bsT])
   generalize ls[k] = x at *
   have hsx : (out ++ ⟨#[47]⟩ ++ x).size ≤ 64 + 65 * (k + 1) := by
    simp only [ByteArray.size_append]; have : (⟨#[47]⟩ : ByteArray).size = 1 := rfl; omega
   go_wp2
   go_roundw
   case rel => exact ⟨k + 1, out ++ ⟨#[47]⟩ ++ x, by omega, rfl, by go_num, HN, HX, HA, hsx⟩
   case measure => simp [intOf]; omega
  ·have e : k = ls.length := by omega
   subst e
   rw [List.take_of_length_le (Nat.le_refl _)] at HB
   have a2 := HA.out.cell 2
   obtain ⟨L, hL⟩ : ∃ L, bsT cu ++ Ad.pathT (ls.map bsT) = L := ⟨_, rfl⟩
   have HT : Hid (Ad.textT ⟨bsT cu, ls.map bsT, qs.map prB⟩ = L ++ Ad.quT (qs.map prB)) := lh (by rw [← hL]; rfl)
   rw [hL] at HB
   clear hL
   go_wp2
   go_loopw [3, 5] (fun o i wr => ∃ (k : Nat) (out : ByteArray), k ≤ qs.length ∧ o = .string out ∧ i = .int .i64 k ∧ Hid (bsT out = L ++ Ad.quT ((qs.map prB).take k)) ∧ Hid (Ext w wr) ∧ Hid (RowAt wr w.heap.size #[.string cu, .slice A ls.length c, .slice A2 qs.length c2]) ∧ out.size ≤ 2200 + 140 * k) (fun _ i _ => qs.length - (intOf i).toNat)
   case atStart => exact ⟨0, out, Nat.zero_le _, rfl, rfl, lh (by simpa [Ad.quT] using HB.out), HX, HA, by omega⟩
   clear HB HX HA a1 a2 hlr hln
   case round =>
    obtain ⟨k, out, hk, rfl, rfl, HB, HX, HA, hln⟩ := hrel
    have a2 := HA.out.cell 2
    have hlr := HA.out.lt
    by_cases hlt : k < qs.length
    ·obtain ⟨b, off, rfl, hb, d1, d2⟩ := ReadsPr.cell (HR2.out.ext HX.out (Nat.le_refl _)) k hlt
     obtain ⟨hx1, hx2⟩ := H3.out _ (List.getElem_mem hlt)
     have HN : Hid (bsT (out ++ sepS k ++ qs[k].1 ++ ⟨#[61]⟩ ++ qs[k].2) = L ++ Ad.quT ((qs.map prB).take (k + 1))) := lh (by
      rw [quT_succ (qs.map prB) k (by simpa using hlt), List.getElem_map, bsT_app, bsT_app, bsT_app, bsT_app, sepS_bs, HB.out]
      simp only [List.append_assoc, prB, Ad.pairT]
      rfl)
     have hsx : (out ++ sepS k ++ qs[k].1 ++ ⟨#[61]⟩ ++ qs[k].2).size ≤ 2200 + 140 * (k + 1) := by
      have hsk := sepS_size k
      have : (⟨#[61]⟩ : ByteArray).size = 1 := rfl
      simp only [ByteArray.size_append]; omega
     generalize qs[k] = p at *
     obtain ⟨p1, p2⟩ := p
     simp only [] at d1 d2 hx1 hx2 HN hsx
     rcases Nat.eq_zero_or_pos k with hk0 | hk0
     ·subst hk0
      rw [show sepS 0 = ⟨#[63]⟩ from rfl] at HN hsx
      simp only [Nat.zero_mul, Nat.add_zero] at d1 d2
      go_wp2
      refine wp_region_later (by kernel_rfl) (by kernel_rfl) ?_
      repeat (first | go_big_quiet_step (fail) | quiet_step (fail))
      refine wpQuiet_nil ?_
      rintro _ ⟨xq, rfl⟩
      go_wp2
      go_roundw
      case rel => exact ⟨0 + 1, out ++ ⟨#[63]⟩ ++ p1 ++ ⟨#[61]⟩ ++ p2, by omega, rfl, by go_num, HN, lh (HX.out.onto _), lh (HA.out.later _), hsx⟩
      case measure => simp [intOf]; omega
     ·rw [show sepS k = ⟨#[38]⟩ from if_neg (by omega)] at HN hsx
      have e0 : ((k : Int) == 0) = false := by rw [beq_eq_false_iff_ne]; omega
      go_wp2
      refine wp_region_later (by kernel_rfl) (by kernel_rfl) ?_
      repeat (first | go_big_quiet_step (fail) | quiet_step (fail))
      refine wpQuiet_nil ?_
      rintro _ ⟨xq, rfl⟩
      go_wp2
      go_roundw
      case rel => exact ⟨k + 1, out ++ ⟨#[38]⟩ ++ p1 ++ ⟨#[61]⟩ ++ p2, by omega, rfl, by go_num, HN, lh (HX.out.onto _), lh (HA.out.later _), hsx⟩
      case measure => simp [intOf]; omega
    ·have e : k = qs.length := by omega
     subst e
     rw [List.take_of_length_le (by rw [List.length_map]; exact Nat.le_refl _), ← HT.out] at HB
     have HS := lh (bs_eq HB.out)
     go_wp2
     go_ret
     exact ⟨by rw [← HS.out]; rfl, HX.out⟩
theorem rformed_any (cu : ByteArray) (A : Option Addr) (c : Nat) (ls : List ByteArray) (A2 : Option Addr) (c2 : Nat) (qs : List PrB) (w : World) (hn : Tg.nameB (bsT cu) = true) (hw : ∀ x ∈ ls, Tg.wordB (bsT x) = true) (hg : ∀ p ∈ qs, Ad.goodP (prB p) = true) (ha : Ad.AscP (qs.map prB)) (hl : ls.length ≤ 32) (hq : qs.length ≤ 16)
  (hr : ReadsStr w w.heap.size A ls) (hr2 : ReadsPr w w.heap.size A2 qs) :
  Calls Tryz.prog 214 #[.agg #[.string cu, .slice A ls.length c, .slice A2 qs.length c2]] w fun e w' => e = .returned (.bool (decide ((Ad.textT ⟨bsT cu, ls.map bsT, qs.map prB⟩).length ≤ 4096))) ∧ Ext w w' := by
 have hcu : Tg.wordB (bsT cu) = true := by simp only [Tg.nameB, Bool.and_eq_true] at hn; exact hn.1
 have hgw : ∀ p ∈ qs, Tg.nameB (bsT p.1) = true ∧ Tg.wordB (bsT p.2) = true := fun p hp => by
  have := hg p hp
  simp only [Ad.goodP, Bool.and_eq_true, prB] at this
  exact this
 have HTx := lh (fun (W : World) (hx : Ext w W) => rtext_any cu A c ls A2 c2 qs W (word_size hcu) (fun x hx => word_size (hw x hx)) (fun p hp => ⟨word_size (by have := (hgw p hp).1; simp only [Tg.nameB, Bool.and_eq_true] at this; exact this.1), word_size (hgw p hp).2⟩) hl hq (hr.on hx) (hr2.on hx))
 obtain ⟨T, hT⟩ : ∃ T, Ad.textT ⟨bsT cu, ls.map bsT, qs.map prB⟩ = T := ⟨_, rfl⟩
 rw [hT] at HTx ⊢
 have HNc := lh (fun W => rname_any cu W (by have := word_size hcu; omega))
 rw [show Tg.nameB cu.data.toList = true from hn] at HNc
 have HR := lh hr
 have HR2 := lh hr2
 have HW := lh hw
 have HG := lh hgw
 have HAs := lh ha
 clear hr hr2 hw hg hgw ha hn hcu hT
 go_enter Tryz.func214, Tryz.ntmps214
 go_upto_region 1 with (fail)
 refine wp_world (fun W => Ext w W ∧ RowAt W w.heap.size #[.string cu, .slice A ls.length c, .slice A2 qs.length c2]) ⟨(by (with_reducible repeat first|exact eR _|apply eD|apply eN|apply eA|apply eO|apply eS|apply eC);all_goals first|omega|simp <;> omega), RowAt.new _ _ _⟩ ?_
 rintro W1 ⟨x1, r1⟩
 have HX1 := lh x1
 have HA1 := lh r1
 have a0 := r1.cell 0
 have a1 := r1.cell 1
 have a2 := r1.cell 2
 have hl1 := r1.lt
 clear x1 r1
 go_wp2_with (go_at_call 135; refine (HNc.out _).mono ?_; rintro e w' ⟨rfl, hxl⟩; obtain ⟨xn, rfl⟩ := hxl.asLater; clear hxl)
 have HX2 : Hid (Ext w (later W1 xn)) := lh (HX1.out.onto xn)
 have HA2 := lh (HA1.out.later xn)
 clear a0 a1 a2 hl1 HX1 HA1
 go_loopw [3] (fun i wr => ∃ k : Nat, k ≤ ls.length ∧ i = .int .i64 k ∧ Hid (Ext w wr) ∧ Hid (RowAt wr w.heap.size #[.string cu, .slice A ls.length c, .slice A2 qs.length c2])) (fun i _ => ls.length - (intOf i).toNat)
 case atStart => exact ⟨0, Nat.zero_le _, rfl, HX2, HA2⟩
 case round =>
  obtain ⟨k, hk, rfl, HX, HA⟩ := hrel
  clear HX2 HA2
  have a1 := HA.out.cell 1
  have hlr := HA.out.lt
  by_cases hlt : k < ls.length
  ·obtain ⟨b, off, rfl, hb, d1⟩ := ReadsStr.cell (HR.out.ext HX.out (Nat.le_refl _)) k hlt
   have hx := HW.out _ (List.getElem_mem hlt)
   generalize ls[k] = x at *
   have HWd := lh (fun W => rword_any x W (by have := word_size hx; omega))
   rw [show Tg.wordB x.data.toList = true from hx] at HWd
   clear hx
   go_wp2_with (go_at_call 165; refine (HWd.out _).mono ?_; rintro e w' ⟨rfl, hxl⟩; obtain ⟨xn, rfl⟩ := hxl.asLater; clear hxl)
   go_roundw
   case rel => exact ⟨k + 1, by omega, by go_num, lh (HX.out.onto _), lh (HA.out.later _)⟩
   case measure => simp [intOf]; omega
  ·have e : k = ls.length := by omega
   subst e
   go_wp2
   go_loopw [4] (fun i wr => ∃ k : Nat, k ≤ qs.length ∧ i = .int .i64 k ∧ Hid (Ext w wr) ∧ Hid (RowAt wr w.heap.size #[.string cu, .slice A ls.length c, .slice A2 qs.length c2])) (fun i _ => qs.length - (intOf i).toNat)
   case atStart => exact ⟨0, Nat.zero_le _, rfl, HX, HA⟩
   case round =>
    clear HX HA a1 hlr hlt
    obtain ⟨k, hk, rfl, HX, HA⟩ := hrel
    have a2 := HA.out.cell 2
    have hlr := HA.out.lt
    by_cases hlt : k < qs.length
    ·obtain ⟨b, off, rfl, hb, d1, d2⟩ := ReadsPr.cell (HR2.out.ext HX.out (Nat.le_refl _)) k hlt
     obtain ⟨g1, g2⟩ := HG.out _ (List.getElem_mem hlt)
     rcases Nat.eq_zero_or_pos k with hk0 | hk0
     ·subst hk0
      simp only [Nat.zero_mul, Nat.add_zero] at d1 d2
      generalize qs[0] = p at *
      have HK := lh (fun W => rname_any p.1 W (by have h := g1; simp only [Tg.nameB, Bool.and_eq_true] at h; have := word_size h.1; omega))
      rw [show Tg.nameB p.1.data.toList = true from g1] at HK
      have HV := lh (fun W => rword_any p.2 W (by have := word_size g2; omega))
      rw [show Tg.wordB p.2.data.toList = true from g2] at HV
      clear g1 g2
      go_wp2
      refine wp_region_later (by kernel_rfl) (by kernel_rfl) ?_
      repeat (first | go_big_quiet_step ((first
             | (go_at_call 135; exact quietE (HK.out _))
             | (go_at_call 165; exact quietE (HV.out _)))) | quiet_step ((first
             | (go_at_call 135; exact quietE (HK.out _))
             | (go_at_call 165; exact quietE (HV.out _)))))
      refine wpQuiet_nil ?_
      rintro _ ⟨xq, rfl⟩
      go_wp2
      go_roundw
      case rel => exact ⟨0 + 1, by omega, by go_num, lh (HX.out.onto _), lh (HA.out.later _)⟩
      case measure => simp [intOf]; omega
     ·obtain ⟨b', off', e1, _, d5, _⟩ := ReadsPr.cell (HR2.out.ext HX.out (Nat.le_refl _)) (k - 1) (by omega)
      injection e1 with e1
      injection e1 with e1 e2
      subst e1 e2
      have hasc := asc_at HAs.out k hk0 hlt
      have HLE := lh (le_walk qs[k].1 (qs[k - 1]'(by omega)).1)
      generalize (qs[k - 1]'(by omega)).1 = pk at *
      generalize qs[k] = p at *
      obtain ⟨p1, p2⟩ := p
      simp only [] at d1 d2 g1 g2 HLE hasc
      have hle : (Op.bytesLess p1.toList pk.toList || p1.toList == pk.toList) = false := by
       rw [HLE.out, decide_eq_false_iff_not]
       exact fun h => List.not_lt.2 h hasc
      have z0 : decide (0 < k) = true := by simpa using hk0
      have z1 : decide ((0 : Int) < (k : Int)) = true := by simp; omega
      have HK := lh (fun W => rname_any p1 W (by have h := g1; simp only [Tg.nameB, Bool.and_eq_true] at h; have := word_size h.1; omega))
      rw [show Tg.nameB p1.data.toList = true from g1] at HK
      have HV := lh (fun W => rword_any p2 W (by have := word_size g2; omega))
      rw [show Tg.wordB p2.data.toList = true from g2] at HV
      clear hasc HLE g1 g2
      go_wp2
      refine wp_region_later (by kernel_rfl) (by kernel_rfl) ?_
      repeat (first | go_big_quiet_step ((first
             | (go_at_call 135; exact quietE (HK.out _))
             | (go_at_call 165; exact quietE (HV.out _)))) | quiet_step ((first
             | (go_at_call 135; exact quietE (HK.out _))
             | (go_at_call 165; exact quietE (HV.out _)))))
      refine wpQuiet_nil ?_
      rintro _ ⟨xq, rfl⟩
      go_wp2
      go_roundw
      case rel => exact ⟨k + 1, by omega, by go_num, lh (HX.out.onto _), lh (HA.out.later _)⟩
      case measure => simp [intOf]; omega
    ·have e : k = qs.length := by omega
     subst e
     have hrow := HA.out.all (n := 3) rfl (by omega)
     have hz : ((⟨T.toArray⟩ : ByteArray)).size = T.length := by simp [ByteArray.size]
     have hdd : decide ((T.length : Int) ≤ 4096) = decide (T.length ≤ 4096) := by
      by_cases h : T.length ≤ 4096
      ·rw [decide_eq_true h, decide_eq_true (by omega)]
      ·rw [decide_eq_false h, decide_eq_false (by omega)]
     go_wp2_with (go_at_call 215; refine (HTx.out _ (by (with_reducible repeat first|exact HX.out|exact eR _|apply eD|apply eN|apply eA|apply eO|apply eS|apply eC);all_goals first|omega|simp <;> omega)).mono ?_; rintro e w' ⟨rfl, hxl⟩; obtain ⟨xn, rfl⟩ := hxl.asLater; clear hxl)
     go_ret
     exact ⟨ret_bool (by simp [hz, hdd]), (by (with_reducible repeat first|exact HX.out|exact eR _|apply eD|apply eN|apply eA|apply eO|apply eS|apply eC);all_goals first|omega|simp <;> omega)⟩
theorem rtextW_any (cu : ByteArray) (A : Option Addr) (c : Nat) (ls : List ByteArray) (A2 : Option Addr) (c2 : Nat) (qs : List PrB) (w : World) (hn : Tg.nameB (bsT cu) = true) (hw : ∀ x ∈ ls, Tg.wordB (bsT x) = true) (hg : ∀ p ∈ qs, Ad.goodP (prB p) = true) (ha : Ad.AscP (qs.map prB)) (hl : ls.length ≤ 32) (hq : qs.length ≤ 16)
  (hr : ReadsStr w w.heap.size A ls) (hr2 : ReadsPr w w.heap.size A2 qs) :
  Calls Tryz.prog 182 #[.agg #[.string cu, .slice A ls.length c, .slice A2 qs.length c2]] w fun e w' => e = .returned (.agg #[.string ⟨(txS ⟨bsT cu, ls.map bsT, qs.map prB⟩).toArray⟩, .int .i64 (txE ⟨bsT cu, ls.map bsT, qs.map prB⟩)]) ∧ Ext w w' := by
 have hcu : Tg.wordB (bsT cu) = true := by simp only [Tg.nameB, Bool.and_eq_true] at hn; exact hn.1
 have hgw : ∀ p ∈ qs, Tg.nameB (bsT p.1) = true ∧ Tg.wordB (bsT p.2) = true := fun p hp => by
  have := hg p hp
  simp only [Ad.goodP, Bool.and_eq_true, prB] at this
  exact this
 have HTx := lh (fun (W : World) (hx : Ext w W) => rtext_any cu A c ls A2 c2 qs W (word_size hcu) (fun x hx => word_size (hw x hx)) (fun p hp => ⟨word_size (by have := (hgw p hp).1; simp only [Tg.nameB, Bool.and_eq_true] at this; exact this.1), word_size (hgw p hp).2⟩) hl hq (hr.on hx) (hr2.on hx))
 have HFm := lh (fun (W : World) (hx : Ext w W) => rformed_any cu A c ls A2 c2 qs W hn hw hg ha hl hq (hr.on hx) (hr2.on hx))
 obtain ⟨T, hT⟩ : ∃ T, Ad.textT ⟨bsT cu, ls.map bsT, qs.map prB⟩ = T := ⟨_, rfl⟩
 have HE : Hid (txE ⟨bsT cu, ls.map bsT, qs.map prB⟩ = if 4096 < T.length then 1 else 0) := lh (by unfold txE; rw [hT])
 have HS : Hid (txS ⟨bsT cu, ls.map bsT, qs.map prB⟩ = if txE ⟨bsT cu, ls.map bsT, qs.map prB⟩ = 0 then T else []) := lh (by unfold txS; rw [hT])
 rw [hT] at HTx HFm
 generalize txS ⟨bsT cu, ls.map bsT, qs.map prB⟩ = tS at *
 generalize txE ⟨bsT cu, ls.map bsT, qs.map prB⟩ = tE at *
 clear hr hr2 hw hg hgw ha hn hcu hT
 go_enter Tryz.func182, Tryz.ntmps182
 go_upto_region 1 with (fail)
 refine wp_world (fun W => Ext w W ∧ RowAt W w.heap.size #[.string cu, .slice A ls.length c, .slice A2 qs.length c2] ∧ RowAt W (w.heap.size + 1) #[.string ⟨#[]⟩, .int .i64 0]) ⟨(by (with_reducible repeat first|exact eR _|apply eD|apply eN|apply eA|apply eO|apply eS|apply eC);all_goals first|omega|simp <;> omega), (RowAt.new _ _ _).alloc _, RowAt.newAt (by simp)⟩ ?_
 rintro W1 ⟨x1, r1, r2⟩
 have HX1 := lh x1
 have HR2 := lh r2
 have hrow := r1.all (n := 3) rfl (by omega)
 have hl1 := r1.lt
 have hl2 := r2.lt
 have q0 := r2.cell 0
 have q1 := r2.cell 1
 have qf := r2.free
 clear x1 r1 r2
 by_cases h4 : 4096 < T.length
 ·have hE : tE = 1 := by rw [HE.out, if_pos h4]
  have hS : tS = [] := by rw [HS.out, hE]; rfl
  subst hE hS
  have hdd : decide (T.length ≤ 4096) = false := decide_eq_false (by omega)
  rw [hdd] at HFm
  clear HE HS hdd
  go_wp2_with (go_at_call 214; refine (HFm.out _ (by (with_reducible repeat first|exact HX1.out|exact eR _|apply eD|apply eN|apply eA|apply eO|apply eS|apply eC);all_goals first|omega|simp <;> omega)).mono ?_; rintro e w' ⟨rfl, hxl⟩; obtain ⟨xn, rfl⟩ := hxl.asLater; clear hxl)
  exact post_row wri_ty Tryz.results182 rfl rfl ((RowAt.set2A (HR2.out.later _) _ _).all rfl (by omega)) ⟨rfl, (by (with_reducible repeat first|exact HX1.out|exact eR _|apply eD|apply eN|apply eA|apply eO|apply eS|apply eC);all_goals first|omega|simp <;> omega)⟩
 ·have hE : tE = 0 := by rw [HE.out, if_neg h4]
  have hS : tS = T := by rw [HS.out, hE]; rfl
  subst hE hS
  have hdd : decide (tS.length ≤ 4096) = true := decide_eq_true (by omega)
  rw [hdd] at HFm
  clear HE HS hdd
  go_wp2_with (first
   | (go_at_call 214; refine (HFm.out _ (by (with_reducible repeat first|exact HX1.out|exact eR _|apply eD|apply eN|apply eA|apply eO|apply eS|apply eC);all_goals first|omega|simp <;> omega)).mono ?_; rintro e w' ⟨rfl, hxl⟩; obtain ⟨xn, rfl⟩ := hxl.asLater; clear hxl)
   | (go_at_call 215; refine (HTx.out _ (by (with_reducible repeat first|exact HX1.out|exact eR _|apply eD|apply eN|apply eA|apply eO|apply eS|apply eC);all_goals first|omega|simp <;> omega)).mono ?_; rintro e w' ⟨rfl, hxl⟩; obtain ⟨xn, rfl⟩ := hxl.asLater; clear hxl))
  exact post_row wri_ty Tryz.results182 rfl rfl ((RowAt.set2A (HR2.out.later _) _ _).all rfl (by omega)) ⟨rfl, (by (with_reducible repeat first|exact HX1.out|exact eR _|apply eD|apply eN|apply eA|apply eO|apply eS|apply eC);all_goals first|omega|simp <;> omega)⟩
attribute [local go_sem] rd_fits
theorem rcanonical_any (s : ByteArray) (w : World) (hs : s.size ≤ 900000) :
  Calls Tryz.prog 148 #[.string s] w fun e w' => e = .returned (.agg #[.string ⟨(Ad.canonT (bsT s)).toArray⟩, .int .i64 (Ad.canonE (bsT s))]) ∧ Ext w w' := by
 have HP := lh (fun W => r6parse_any s W hs)
 have HE : Hid (Ad.canonE (bsT s) = if Ad.parseE (bsT s) = 0 then txE (Ad.parseA (bsT s)) else Ad.parseE (bsT s)) := lh rfl
 have HT : Hid (Ad.parseE (bsT s) = 0 → Ad.canonT (bsT s) = txS (Ad.parseA (bsT s))) := lh (fun h => by unfold Ad.canonT txS; rw [HE.out, if_pos h])
 have HT2 : Hid (Ad.canonE (bsT s) ≠ 0 → Ad.canonT (bsT s) = []) := lh (fun h => if_neg h)
 have HGd := lh (Ad.parseA_good (s := bsT s))
 generalize Ad.canonT (bsT s) = CT at *
 generalize Ad.canonE (bsT s) = CE at *
 generalize Ad.parseE (bsT s) = PE at *
 generalize Ad.parseA (bsT s) = PA at *
 go_enter Tryz.func148, Tryz.ntmps148
 go_upto_region 2 with (go_at_call 181; refine (HP.out _).mono ?_; rintro e w5 ⟨⟨cu, Ap, cp, lp, A2, c2, qs, rfl, hadr, hop, hoq⟩, hx5⟩)
 have hrow0 := (RowAt.new w #[.string ⟨#[]⟩, .int .i64 0] 219).ext hx5
 refine wp_world (fun W => Ext w5 W ∧ RowAt W w.heap.size #[.string ⟨#[]⟩, .int .i64 0] ∧ RowAt W w5.heap.size #[.string cu, .slice Ap lp.length cp, .slice A2 qs.length c2, .int .i64 PE]) ⟨((Ext.refl w5).alloc _).setCells (Nat.le_refl _) _ _, ?_, ?_⟩ ?_
 ·have hlw := hrow0.lt
  exact (hrow0.alloc _).others (by omega) 0 _
 ·exact (RowAt.new w5 _ _).store (ds := #[.string cu, .slice Ap lp.length cp, .slice A2 qs.length c2, .int .i64 PE]) rfl
 rintro W6 ⟨x6, r6, r7⟩
 have HX6 := lh (((((Ext.refl w).alloc _).trans hx5)).trans x6)
 have HR6 := lh r6
 have HOp := lh ((hop.reads sE).on x6)
 have HOq := lh ((hoq.reads prE).on x6)
 have hl6 := r6.lt
 have hl7 := r7.lt
 have q0 := r6.cell 0
 have q1 := r6.cell 1
 have qf := r6.free
 have e3 : W6.cell? ⟨w5.heap.size, 3, none⟩ = some (.int .i64 PE) := r7.cell 3
 have row3 : rowOf W6 w5.heap.size 0 3 = some #[.string cu, .slice Ap lp.length cp, .slice A2 qs.length c2] := by rw [r7.row, if_neg (by omega)]; rfl
 clear x6 r6 r7 hx5 hop hoq hrow0 HP
 by_cases h0 : PE = 0
 ·subst h0
  subst hadr
  have hCE : CE = txE ⟨bsT cu, lp.map bsT, qs.map prB⟩ := by rw [HE.out]; rfl
  have hCT : CT = txS ⟨bsT cu, lp.map bsT, qs.map prB⟩ := HT.out rfl
  obtain ⟨g1, g2, g3, g4, g5, g6⟩ := HGd.out rfl
  have HTx := lh (fun (W : World) (hx : Ext W6 W) => rtextW_any cu Ap cp lp A2 c2 qs W g1 (fun x hx => g4 _ (List.mem_map_of_mem hx)) (fun p hp => g6 _ (List.mem_map_of_mem hp)) g5 (by simpa using g2) (by simpa using g3) (HOp.out.on hx) (HOq.out.on hx))
  rw [← hCE, ← hCT] at HTx
  clear HE HT HT2 HGd g1 g2 g3 g4 g5 g6 HOp HOq hCE hCT
  go_wp2_with (go_at_call 182; refine (HTx.out _ (by (with_reducible repeat first|exact eR _|apply eD|apply eN|apply eA|apply eO|apply eS|apply eC);all_goals first|omega|simp <;> omega)).mono ?_; rintro e w' ⟨rfl, hxl⟩; obtain ⟨xn, rfl⟩ := hxl.asLater; clear hxl)
  exact post_row wri_ty Tryz.results148 rfl rfl ((RowAt.set2A (HR6.out.later _) _ _).all rfl (by omega)) ⟨rfl, (by (with_reducible repeat first|exact HX6.out|exact eR _|apply eD|apply eN|apply eA|apply eO|apply eS|apply eC);all_goals first|omega|simp <;> omega)⟩
 ·have hCE : CE = PE := by rw [HE.out, if_neg h0]
  subst hCE
  have hCT := HT2.out h0
  subst hCT
  have d0 : (CE != 0) = true := by simpa using h0
  clear HE HT HT2 HGd HOp HOq
  go_wp2
  exact post_row wri_ty Tryz.results148 rfl rfl ((RowAt.set2A HR6.out _ _).all rfl (by omega)) ⟨rfl, (by (with_reducible repeat first|exact HX6.out|exact eR _|apply eD|apply eN|apply eA|apply eO|apply eS|apply eC);all_goals first|omega|simp <;> omega)⟩
theorem rcanon_any (s : ByteArray) (w : World) (hs : s.size ≤ 900000) :
  Calls Tryz.prog 110 #[.string s] w fun e w' => e = .returned (.bool (Ad.canonB (bsT s))) ∧ Ext w w' := by
 have HC := lh (fun W => rcanonical_any s W hs)
 have HB : Hid (Ad.canonB (bsT s) = (decide (Ad.canonE (bsT s) = 0) && decide (Ad.canonT (bsT s) = bsT s))) := lh rfl
 obtain ⟨T, hT⟩ : ∃ T, Ad.canonT (bsT s) = T := ⟨_, rfl⟩
 rw [hT] at HC HB
 clear hT
 obtain ⟨t, ht⟩ : ∃ t, (⟨T.toArray⟩ : ByteArray) = t := ⟨_, rfl⟩
 have hbt : bsT t = T := by rw [← ht]; rfl
 have HW := lh (eq_walk t s)
 rw [hbt] at HW
 rw [ht] at HC
 clear ht hbt
 generalize Ad.canonB (bsT s) = B at *
 generalize Ad.canonE (bsT s) = E at *
 go_enter Tryz.func110, Tryz.ntmps110
 go_wp2_with (go_at_call 148; refine (HC.out _).mono ?_; rintro e w' ⟨rfl, hxl⟩; obtain ⟨xn, rfl⟩ := hxl.asLater; clear hxl)
 all_goals
  go_ret
  exact ⟨ret_bool (by rw [HB.out, ← HW.out]; simp [*]), (by (with_reducible repeat first|exact eR _|apply eD|apply eN|apply eA|apply eO|apply eS|apply eC);all_goals first|omega|simp <;> omega)⟩
end Go.Proofs.YtpfhmcdcmepfdaaGreatDoor

namespace Go.Proofs.YtpfhmcdcmepfdaaGreatDoor
open Go.RowKit Go.Shelf
open Go.Proofs
def okPu (p : Pu) : Bool :=
 if p.kind = 1 then Ad.canonB (bsT p.what)
 else if p.kind = 2 then Ad.canonB (bsT p.what) && !((bsT p.what).contains 63)
 else if p.kind = 3 then (Ad.cutB 58 (bsT p.what)).2.2 && decide ((p.what.size : Int) ≤ 4096) && Tg.nameB (Ad.cutB 58 (bsT p.what)).1 && Tg.nameB (Ad.cutB 58 (bsT p.what)).2.1
 else false
def okEp (e : Ep) : Bool := decide (e.num ≥ 1) && decide (e.num ≤ 1099511627776) && okClk ⟨e.lo, e.hi⟩ && decide (max (e.pu.length : Int) (e.rv.length : Int) ≤ 1000) && e.pu.all okPu
theorem ecanon_any (s : ByteArray) (w : World) (hs : s.size ≤ 900000) :
  Calls Tryz.prog 152 #[.string s] w fun e w' => e = .returned (.bool (Ad.canonB (bsT s))) ∧ Ext w w' := by
 have HC := lh (fun W => canon_all s W hs)
 have HB : Hid (Ad.canonB (bsT s) = (decide (Ad.canonE (bsT s) = 0) && decide (Ad.canonT (bsT s) = bsT s))) := lh rfl
 obtain ⟨T, hT⟩ : ∃ T, Ad.canonT (bsT s) = T := ⟨_, rfl⟩
 rw [hT] at HC HB
 clear hT
 obtain ⟨t, ht⟩ : ∃ t, (⟨T.toArray⟩ : ByteArray) = t := ⟨_, rfl⟩
 have hbt : bsT t = T := by rw [← ht]; rfl
 have HW := lh (eq_walk t s)
 rw [hbt] at HW
 rw [ht] at HC
 generalize Ad.canonB (bsT s) = R at *
 generalize Ad.canonE (bsT s) = E at *
 generalize decide (T = bsT s) = D at *
 clear ht hbt
 by_cases h : E = 0
 ·subst h
  go_enter Tryz.func152, Tryz.ntmps152
  go_wp2_with (go_at_call 108; refine (HC.out _).mono ?_; rintro e w' ⟨rfl, hxl⟩; obtain ⟨xl, rfl⟩ := hxl.asLater; clear hxl)
  go_ret
  exact ⟨ret_bool (by rw [HB.out, HW.out]; simp), (by (with_reducible repeat first|exact eR _|apply eD|apply eN|apply eA|apply eO|apply eS|apply eC);all_goals first|omega|simp <;> omega)⟩
 ·have e0 : (E == 0) = false := by simpa using h
  have HR : Hid (R = false) := lh (by rw [HB.out]; simp [h])
  clear HB h
  go_enter Tryz.func152, Tryz.ntmps152
  go_wp2_with (go_at_call 108; refine (HC.out _).mono ?_; rintro e w' ⟨rfl, hxl⟩; obtain ⟨xl, rfl⟩ := hxl.asLater; clear hxl)
  go_ret
  exact ⟨ret_bool HR.out.symm, (by (with_reducible repeat first|exact eR _|apply eD|apply eN|apply eA|apply eO|apply eS|apply eC);all_goals first|omega|simp <;> omega)⟩
theorem set_one (s : ByteArray) : setBs [s] = [bsT s] := by
 have h1 := setBs_len [s]
 have h2 := (setBs_mem [s] (bsT s)).2 (by simp)
 generalize setBs [s] = l at *
 match l, h1, h2 with
 | [x], _, h2 => simp at h2; rw [h2]
theorem tag_one (s : ByteArray) : tagN [s] = (if Tg.nameB (bsT s) then 0 else 1) := by
 unfold tagN
 cases h : Tg.nameB (bsT s) with
 | true =>
  have hb : badB [s] = false := by simp [badB, h]
  have := tagTx_len [s] hb
  rw [hb, if_neg (by decide), if_neg (by simp at this; omega), if_pos rfl]
 | false =>
  have hb : badB [s] = true := by simp [badB, h]
  rw [hb, if_pos rfl, if_neg (by decide)]
theorem tagS_one (s : ByteArray) (h : Tg.nameB (bsT s) = true) : tagS [s] = bsT s := by
 unfold tagS
 rw [tag_one, if_pos h, if_pos rfl]
 unfold tagTx
 rw [set_one, Lib.join_one]
theorem enamed_any (s : ByteArray) (w : World) :
  Calls Tryz.prog 155 #[.string s] w fun e w' => e = .returned (.bool (Tg.nameB (bsT s))) ∧ Ext w w' := by
 have HT : Hid (∀ (b : Nat) (W : World) (t : TypeId), b = W.heap.size → Calls Tryz.prog 169 #[.slice (some ⟨b, 0, none⟩) 1 1] (W.alloc (.cells #[.string s] t)) fun e w' => e = .returned (.tuple #[.string ⟨(tagS [s]).toArray⟩, .int .i64 (tagN [s])]) ∧ Ext (W.alloc (.cells #[.string s] t)) w') := lh (fun b W t hb => by
  subst hb
  exact ptags_any _ 1 [s] _ (by simp) (by simp) (reads_fresh sE [s] W _ t rfl))
 cases h : Tg.nameB (bsT s) with
 | true =>
  rw [tag_one, tagS_one s h, if_pos h, bs_mk] at HT
  clear h
  go_enter Tryz.func155, Tryz.ntmps155
  go_wp2_with (go_at_call 169; refine (HT.out _ _ _ rfl).mono ?_; rintro e w' ⟨rfl, hxl⟩; obtain ⟨xl, rfl⟩ := hxl.asLater; clear hxl)
  go_ret
  exact ⟨ret_bool (by simp), (by (with_reducible repeat first|exact eR _|apply eD|apply eN|apply eA|apply eO|apply eS|apply eC);all_goals first|omega|simp <;> omega)⟩
 | false =>
  rw [tag_one, if_neg (by rw [h]; decide)] at HT
  generalize (⟨(tagS [s]).toArray⟩ : ByteArray) = T at *
  clear h
  go_enter Tryz.func155, Tryz.ntmps155
  go_wp2_with (go_at_call 169; refine (HT.out _ _ _ rfl).mono ?_; rintro e w' ⟨rfl, hxl⟩; obtain ⟨xl, rfl⟩ := hxl.asLater; clear hxl)
  go_ret
  exact ⟨rfl, (by (with_reducible repeat first|exact eR _|apply eD|apply eN|apply eA|apply eO|apply eS|apply eC);all_goals first|omega|simp <;> omega)⟩
theorem eright_any (p : Pu) (w : World) (hw : p.what.size ≤ 900000) :
  Calls Tryz.prog 116 #[.agg (puC p)] w fun e w' => e = .returned (.bool (okPu p)) ∧ Ext w w' := by
 have HC := lh (fun W => ecanon_any p.what W hw)
 have HK := lh (fun W => contains_one p.what 63 W)
 have HT := lh (fun W => scut_any p.what 58 W hw)
 have HN := lh enamed_any
 have hft := pu_fits p
 by_cases k1 : p.kind = 1
 ·have HO : Hid (okPu p = Ad.canonB (bsT p.what)) := lh (by rw [okPu, if_pos k1])
  have d1 : (p.kind == 1) = true := by simpa using k1
  generalize okPu p = R at *
  generalize Ad.canonB (bsT p.what) = C at *
  clear k1 hw
  go_enter Tryz.func116, Tryz.ntmps116
  go_wp2_with (go_at_call 152; refine (HC.out _).mono ?_; rintro e w' ⟨rfl, hxl⟩; obtain ⟨xl, rfl⟩ := hxl.asLater; clear hxl)
  go_ret
  exact ⟨ret_bool HO.out.symm, (by (with_reducible repeat first|exact eR _|apply eD|apply eN|apply eA|apply eO|apply eS|apply eC);all_goals first|omega|simp <;> omega)⟩
 have d1 : (p.kind == 1) = false := by simpa using k1
 by_cases k2 : p.kind = 2
 ·have HO : Hid (okPu p = (Ad.canonB (bsT p.what) && !((bsT p.what).contains 63))) := lh (by rw [okPu, if_neg k1, if_pos k2])
  have d2 : (p.kind == 2) = true := by simpa using k2
  replace HK : Hid (∀ W, Calls Tryz.prog 153 #[.string p.what, .string ⟨#[63]⟩] W fun e w' => e = .returned (.bool ((bsT p.what).contains 63)) ∧ w' = W) := HK
  generalize okPu p = R at *
  generalize (bsT p.what).contains 63 = K at *
  generalize Ad.canonB (bsT p.what) = C at *
  clear k1 k2 hw
  cases C
  all_goals
   go_enter Tryz.func116, Tryz.ntmps116
   go_wp2_with (first
    | (go_at_call 152; refine (HC.out _).mono ?_; rintro e w' ⟨rfl, hxl⟩; obtain ⟨xl, rfl⟩ := hxl.asLater; clear hxl)
    | (go_at_call 153; refine (HK.out _).mono ?_; rintro e w' ⟨rfl, rfl⟩))
   go_ret
   exact ⟨ret_bool (by rw [HO.out]; simp), (by (with_reducible repeat first|exact eR _|apply eD|apply eN|apply eA|apply eO|apply eS|apply eC);all_goals first|omega|simp <;> omega)⟩
 have d2 : (p.kind == 2) = false := by simpa using k2
 by_cases k3 : p.kind = 3
 ·have d3 : (p.kind == 3) = true := by simpa using k3
  have HO : Hid (okPu p = ((Ad.cutB 58 (bsT p.what)).2.2 && decide ((p.what.size : Int) ≤ 4096) && Tg.nameB (Ad.cutB 58 (bsT p.what)).1 && Tg.nameB (Ad.cutB 58 (bsT p.what)).2.1)) := lh (by rw [okPu, if_neg k1, if_neg k2, if_pos k3])
  generalize okPu p = R at *
  clear k1 k2 k3 HC HK
  go_enter Tryz.func116, Tryz.ntmps116
  go_upto_region 8 with (go_at_call 154; refine (HT.out _).mono ?_; rintro e w' ⟨⟨a, b, f, rfl, h1, h2, h3⟩, hxl⟩; have HA := lh h1; clear h1; obtain ⟨xl, rfl⟩ := hxl.asLater; clear hxl)
  have HA' : Hid (R = (f && decide ((p.what.size : Int) ≤ 4096) && Tg.nameB (bsT a) && Tg.nameB (bsT b))) := lh (by rw [HO.out, ← HA.out])
  have hsz : p.what.size < 9223372036854775808 := by omega
  clear HO HA HT hw
  by_cases hf : f = true
  ·subst hf
   by_cases hl : (p.what.size : Int) ≤ 4096
   ·have dl : decide ((p.what.size : Int) ≤ 4096) = true := by simpa using hl
    rw [dl] at HA'
    cases ea : Tg.nameB (bsT a)
    all_goals
     rw [ea] at HA'
     have EA := lh ea
     clear ea
     go_wp2_with (go_at_call 155; refine (HN.out _ _).mono ?_; rintro e w' ⟨rfl, hxl⟩; (first | rw [EA.out] | skip); obtain ⟨xm, rfl⟩ := hxl.asLater; clear hxl)
     go_ret
     exact ⟨ret_bool (by rw [HA'.out]; simp), (by (with_reducible repeat first|exact eR _|apply eD|apply eN|apply eA|apply eO|apply eS|apply eC);all_goals first|omega|simp <;> omega)⟩
   ·have dl : decide ((p.what.size : Int) ≤ 4096) = false := by simpa using hl
    have HR : Hid (R = false) := lh (by rw [HA'.out, dl]; simp)
    clear HA'
    go_wp2
    go_ret
    exact ⟨ret_bool HR.out.symm, (by (with_reducible repeat first|exact eR _|apply eD|apply eN|apply eA|apply eO|apply eS|apply eC);all_goals first|omega|simp <;> omega)⟩
  ·have hf' : f = false := by simpa using hf
   subst hf'
   have HR : Hid (R = false) := lh (by rw [HA'.out]; simp)
   clear HA' hf
   go_wp2
   go_ret
   exact ⟨ret_bool HR.out.symm, (by (with_reducible repeat first|exact eR _|apply eD|apply eN|apply eA|apply eO|apply eS|apply eC);all_goals first|omega|simp <;> omega)⟩
 have d3 : (p.kind == 3) = false := by simpa using k3
 have HO : Hid (okPu p = false) := lh (by rw [okPu, if_neg k1, if_neg k2, if_neg k3])
 rw [HO.out]
 clear k1 k2 k3 hw HC HK HT HN
 go_enter Tryz.func116, Tryz.ntmps116
 go_wp2
 go_ret
 exact ⟨rfl, (by (with_reducible repeat first|exact eR _|apply eD|apply eN|apply eA|apply eO|apply eS|apply eC);all_goals first|omega|simp <;> omega)⟩
theorem evalid1_any (p : Pu) (w : World) (hw : p.what.size ≤ 900000) :
  Calls Tryz.prog 115 #[.agg (puC p)] w fun e w' => e = .returned (.bool (!okPu p)) ∧ Ext w w' := by
 have H := lh (fun W => eright_any p W hw)
 have hft := pu_fits p
 generalize okPu p = R at *
 clear hw
 go_enter Tryz.func115, Tryz.ntmps115
 go_wp2_with (go_at_call 116; refine (H.out _).mono ?_; rintro e w' ⟨rfl, hxl⟩; obtain ⟨xl, rfl⟩ := hxl.asLater; clear hxl)
 go_ret
 exact ⟨rfl, (by (with_reducible repeat first|exact eR _|apply eD|apply eN|apply eA|apply eO|apply eS|apply eC);all_goals first|omega|simp <;> omega)⟩
theorem pidx_any (A : Option Addr) (c : Nat) (ls : List Pu) (w : World) (hlen : ls.length ≤ 140737488355328) (hr : Reads 3 puL w w.heap.size A ls) (hw : ∀ p ∈ ls, (p.what.size ≤ 900000)) :
  Calls Tryz.prog 151 #[.slice A ls.length c, .func (.func 115) #[] #[]] w fun e w' => ∃ i : Int, e = .returned (.int .i64 i) ∧ (ls.any (fun p => !okPu p) = true → 0 ≤ i) ∧ (ls.any (fun p => !okPu p) = false → i = -1) ∧ Ext w w' := by
 have HR := lh hr
 have HT := lh (fun (k : Nat) (h : k < ls.length) (W : World) => evalid1_any ls[k] W (hw _ (List.getElem_mem h)))
 clear hr hw
 go_enter Tryz.func151, Tryz.ntmps151
 go_wp2
 go_loopw [8] (fun i wr => ∃ k : Nat, k ≤ ls.length ∧ i = .int .i64 k ∧ Ext w wr ∧ Hid ((ls.take k).any (fun p => !okPu p) = false)) (fun i _ => ls.length - (intOf i).toNat)
 case atStart => exact ⟨0, Nat.zero_le _, rfl, eR _, lh rfl⟩
 case round =>
  obtain ⟨k, hk, rfl, hx, HJ⟩ := hrel
  have HX := lh hx
  have hsz := hx.size
  by_cases hlt : k < ls.length
  ·obtain ⟨b, off, rfl, hb, c1⟩ := reads_row puE (HR.out.on hx) k hlt
   have HT1 := lh (HT.out k hlt)
   have HN : Hid ((fun p => !okPu p) ls[k] = false → (ls.take (k + 1)).any (fun p => !okPu p) = false) := lh (fun h => by rw [List.take_succ_eq_append_getElem hlt, List.any_append, HJ.out]; simpa using h)
   have HM : Hid ((fun p => !okPu p) ls[k] = true → ls.any (fun p => !okPu p) = true) := lh (fun h => by
    rw [List.any_eq_true]; exact ⟨ls[k], List.getElem_mem hlt, h⟩)
   change Hid (∀ W, Calls Tryz.prog 115 #[.agg ((puL ls[k]).toArray)] W fun e w' => e = .returned (.bool ((fun p => !okPu p) ls[k])) ∧ Ext W w') at HT1
   generalize (fun p => !okPu p) ls[k] = pk at *
   generalize (puL ls[k]).toArray = s at *
   clear hx
   cases pk with
   | false =>
    have HN2 := lh (HN.out rfl)
    clear HN HM
    go_wp2_with (go_at_call 115; refine (HT1.out _).mono ?_; rintro e w' ⟨rfl, hxl⟩; obtain ⟨xl, rfl⟩ := hxl.asLater; clear hxl)
    go_roundw
    case rel => exact ⟨k + 1, by omega, by go_num, (by (with_reducible repeat first|exact HX.out|exact eR _|apply eD|apply eN|apply eA|apply eO|apply eS|apply eC);all_goals first|omega|simp <;> omega), HN2⟩
    case measure => simp [intOf]; omega
   | true =>
    have HM2 := lh (HM.out rfl)
    clear HN HM
    go_wp2_with (go_at_call 115; refine (HT1.out _).mono ?_; rintro e w' ⟨rfl, hxl⟩; obtain ⟨xl, rfl⟩ := hxl.asLater; clear hxl)
    go_ret
    exact ⟨k, rfl, fun _ => by omega, fun h => (by rw [HM2.out] at h; cases h), (by (with_reducible repeat first|exact HX.out|exact eR _|apply eD|apply eN|apply eA|apply eO|apply eS|apply eC);all_goals first|omega|simp <;> omega)⟩
  ·have HQ : Hid (ls.any (fun p => !okPu p) = false) := lh (by have h := HJ.out; rwa [List.take_of_length_le (by omega)] at h)
   go_wp2
   go_ret
   exact ⟨-1, rfl, fun h => (by rw [HQ.out] at h; cases h), fun _ => rfl, HX.out⟩
theorem pcont_any (A : Option Addr) (c : Nat) (ls : List Pu) (w : World) (hlen : ls.length ≤ 140737488355328) (hr : Reads 3 puL w w.heap.size A ls) (hw : ∀ p ∈ ls, (p.what.size ≤ 900000)) :
  Calls Tryz.prog 114 #[.slice A ls.length c, .func (.func 115) #[] #[]] w fun e w' => e = .returned (.bool (ls.any (fun p => !okPu p))) ∧ Ext w w' := by
 have H := lh (pidx_any A c ls w hlen hr hw)
 clear hr hw
 generalize ls.any (fun p => !okPu p) = R at *
 cases R with
 | true =>
  go_enter Tryz.func114, Tryz.ntmps114
  go_wp2_with (go_at_call 151; refine H.out.mono ?_; rintro e w' ⟨i, rfl, h1, h2, hxl⟩; have h3 := h1 rfl; clear h1 h2; obtain ⟨xl, rfl⟩ := hxl.asLater; clear hxl)
  go_ret
  exact ⟨ret_bool (by first | (simp; done) | (simp; omega)), (by (with_reducible repeat first|exact eR _|apply eD|apply eN|apply eA|apply eO|apply eS|apply eC);all_goals first|omega|simp <;> omega)⟩
 | false =>
  go_enter Tryz.func114, Tryz.ntmps114
  go_wp2_with (go_at_call 151; refine H.out.mono ?_; rintro e w' ⟨i, rfl, h1, h2, hxl⟩; obtain rfl := h2 rfl; clear h1 h2; obtain ⟨xl, rfl⟩ := hxl.asLater; clear hxl)
  go_ret
  exact ⟨rfl, (by (with_reducible repeat first|exact eR _|apply eD|apply eN|apply eA|apply eO|apply eS|apply eC);all_goals first|omega|simp <;> omega)⟩
theorem evalid_any (e : Ep) (w : World) (ha : EpAt w e) (hl : e.pu.length ≤ 100000) (hr : e.rv.length ≤ 9223372036854775807) (hw : ∀ p ∈ e.pu, p.what.size ≤ 900000) :
  Calls Tryz.prog 57 #[.agg (epC e)] w fun e' w' => e' = .returned (.bool (okEp e)) ∧ Ext w w' := by
 have HC := lh (fun (W : World) (hx : Ext w W) => pcont_any e.PA e.pc e.pu W (by omega) (ha.pu.on hx) hw)
 have HV : Hid (∀ W : World, Calls Tryz.prog 49 #[.agg #[.int .i64 e.lo, .int .i64 e.hi]] W fun e' w' => e' = .returned (.bool (okClk ⟨e.lo, e.hi⟩)) ∧ Ext W w') := lh (fun W => cvalid_any ⟨e.lo, e.hi⟩ W)
 have HO : Hid (okEp e = (decide (e.num ≥ 1) && decide (e.num ≤ 1099511627776) && okClk ⟨e.lo, e.hi⟩ && decide (max (e.pu.length : Int) (e.rv.length : Int) ≤ 1000) && e.pu.all okPu)) := lh rfl
 have HA : Hid ((e.pu.any fun p => !okPu p) = !(e.pu.all okPu)) := lh (by simp [List.all_eq_not_any_not])
 rw [HA.out] at HC
 have hft := ep_fits e
 generalize okEp e = R at *
 generalize okClk ⟨e.lo, e.hi⟩ = C at *
 generalize e.pu.all okPu = P at *
 clear ha hw HA
 go_enter Tryz.func57, Tryz.ntmps57
 cases C
 all_goals
  go_wp2_with (first
   | (go_at_call 49; refine (HV.out _).mono ?_; rintro e w' ⟨rfl, hxl⟩; obtain ⟨xm, rfl⟩ := hxl.asLater; clear hxl)
   | (go_at_call 114; refine (HC.out _ (by (with_reducible repeat first|exact eR _|apply eD|apply eN|apply eA|apply eO|apply eS|apply eC);all_goals first|omega|simp <;> omega)).mono ?_; rintro e w' ⟨rfl, hxl⟩; obtain ⟨xn, rfl⟩ := hxl.asLater; clear hxl))
 all_goals
  go_ret
  exact ⟨ret_bool (by have h := HO.out; clear HO; subst h; first | rfl | (simp [*]; done) | (simp [*]; omega) | omega), (by (with_reducible repeat first|exact eR _|apply eD|apply eN|apply eA|apply eO|apply eS|apply eC);all_goals first|omega|simp <;> omega)⟩
def rcC (a b : ByteArray) (f : Bool) : Array Value := #[.string a, .string b, .bool f]
theorem rc_size (a b : ByteArray) (f : Bool) : (rcC a b f).size = 3 := rfl
theorem rc_all (a b : ByteArray) (f : Bool) : rowSub (rcC a b f) 0 3 = some (rcC a b f) := rowSub_all _ _ rfl
theorem rc_fits (a b : ByteArray) (f : Bool) : fitsRow 3 (rcC a b f) = true := by kernel_rfl
theorem rc_g0 (a b : ByteArray) (f : Bool) : (rcC a b f)[0]? = some (.string a) := rfl
theorem rc_g1 (a b : ByteArray) (f : Bool) : (rcC a b f)[1]? = some (.string b) := rfl
theorem rc_g2 (a b : ByteArray) (f : Bool) : (rcC a b f)[2]? = some (.bool f) := rfl
attribute [go_sem] rc_size rc_all rc_fits rc_g0 rc_g1 rc_g2
theorem rct_ty : RowTy Tryz.prog 193 3 := ⟨by kernel_rfl, by kernel_rfl⟩
theorem rct_ld (w : World) (b o : Nat) : (rowLoad 193 3 (.pointer (some ⟨b, o, none⟩))).run Tryz.prog w = rowLoadR Tryz.prog w 193 3 b o (rowOf w b o 3) := run_rowLoad rct_ty w b o
theorem rct_st (w : World) (b o : Nat) (cells : Array Value) : (rowStore 193 3 (.pointer (some ⟨b, o, none⟩)) (.agg cells)).run Tryz.prog w = rowStoreR Tryz.prog w 193 3 b o cells (roomOf w b o 3 && fitsRow 3 cells) := run_rowStore rct_ty w b o cells
theorem rct_al (w : World) : (rowAlloc 193).run Tryz.prog w = .ok (.value (.pointer (some ⟨w.heap.size, 0, none⟩))) (w.alloc (.cells (rcC ByteArray.empty ByteArray.empty false) 193)) := run_rowAlloc (by kernel_rfl) w
theorem rct_xl (ρ : Operand → Value) (dst : Option Tmp) (x : Operand) (t : TypeId) (pos : String) (after : Array Edge) (guard : Option (Nat × Bool)) : execOp ρ { dst, op := .load 193 x, type := t, pos, after, guard } = rowLoad 193 3 (ρ x) := rfl
theorem rct_xs (ρ : Operand → Value) (dst : Option Tmp) (x y : Operand) (t : TypeId) (pos : String) (after : Array Edge) (guard : Option (Nat × Bool)) : execOp ρ { dst, op := .store 193 x y, type := t, pos, after, guard } = rowStore 193 3 (ρ x) (ρ y) := rfl
theorem rct_xa (ρ : Operand → Value) (dst : Option Tmp) (t : TypeId) (pos : String) (after : Array Edge) (guard : Option (Nat × Bool)) : execOp ρ { dst, op := .alloc 193, type := t, pos, after, guard } = rowAlloc 193 := rfl
attribute [go_sem ↓] rct_xl rct_xs rct_xa
attribute [go_sem] rct_ld rct_st rct_al
def rcB3 (x y z : Value) : Sem Next := do pure (.value (← Instr.build 193 #[(0, x), (1, y), (2, z)]))
theorem rcB3_x (ρ : Operand → Value) (dst : Option Tmp) (x y z : Operand) (t : TypeId) (pos : String) (after : Array Edge) (guard : Option (Nat × Bool)) : execOp ρ { dst, op := .build 193 #[(0, x), (1, y), (2, z)], type := t, pos, after, guard } = rcB3 (ρ x) (ρ y) (ρ z) := by kernel_rfl
theorem rcB3_run (a b : ByteArray) (f : Bool) (W : World) : (rcB3 (.string a) (.string b) (.bool f)).run Tryz.prog W = .ok (.value (.agg (rcC a b f))) W := by kernel_rfl
def rcB1 (x : Value) : Sem Next := do pure (.value (← Instr.build 193 #[(0, x)]))
theorem rcB1_x (ρ : Operand → Value) (dst : Option Tmp) (x : Operand) (t : TypeId) (pos : String) (after : Array Edge) (guard : Option (Nat × Bool)) : execOp ρ { dst, op := .build 193 #[(0, x)], type := t, pos, after, guard } = rcB1 (ρ x) := by kernel_rfl
theorem rcB1_run (a : ByteArray) (W : World) : (rcB1 (.string a)).run Tryz.prog W = .ok (.value (.agg (rcC a ByteArray.empty false))) W := by kernel_rfl
attribute [go_sem ↓] rcB3_x rcB1_x
attribute [go_sem] rcB3_run rcB1_run
def RCutIs (c : UInt8) (s : ByteArray) (e : Ending) : Prop := ∃ (a b : ByteArray) (f : Bool), e = .returned (.agg (rcC a b f)) ∧ (bsT a, bsT b, f) = Ad.cutB c (bsT s) ∧ a.size ≤ s.size ∧ b.size ≤ s.size
theorem r31split_any (s : ByteArray) (sep : UInt8) (w : World) (hs : s.size ≤ 900000) :
  Calls Tryz.prog 134 #[.string s, .int .u8 sep.toNat] w fun e w' => RCutIs sep s e ∧ Ext w w' := by
 have hsb := sep.toNat_lt
 go_enter Tryz.func134, Tryz.ntmps134
 go_wp2
 refine wp_world (fun W => Ext w W ∧ RowAt W w.heap.size (rcC ByteArray.empty ByteArray.empty false) ∧ W.heap.size = w.heap.size + 1) ⟨(by (with_reducible repeat first|exact eR _|apply eD|apply eN|apply eA|apply eO|apply eS|apply eC);all_goals first|omega|simp <;> omega), RowAt.new _ _ _, by simp⟩ ?_
 obtain ⟨B, hB⟩ : ∃ B, w.heap.size = B := ⟨_, rfl⟩
 rw [hB]
 rintro W1 ⟨x1, u0, hs1⟩
 have HX1 := lh x1
 have HU0 := lh u0
 clear x1 u0
 go_loopw [5] (fun i wr => ∃ k : Nat, i = .int .i64 k ∧ k ≤ s.size ∧ Hid (∀ j (hj : j < (bsT s).length), j < k → (bsT s)[j] ≠ sep) ∧ Hid (Ext W1 wr)) (fun i _ => s.size - (intOf i).toNat)
 case atStart => exact ⟨0, rfl, Nat.zero_le _, lh (fun j _ h => absurd h (by omega)), lh (eR _)⟩
 case round =>
  obtain ⟨k, rfl, hk, HN, HX⟩ := hrel
  have hsz := HX.out.size
  have HU := lh (HU0.out.ext HX.out)
  by_cases hlt : k < s.size
  ·have hl : k < (bsT s).length := by rw [bsT_size]; exact hlt
   have hg : (bsT s)[k] = s[k] := by simp only [bsT, Array.getElem_toList]; rfl
   by_cases hc : s[k] = sep
   ·have hcc : ((s[k].toNat : Int) == (sep.toNat : Int)) = true := by rw [hc]; simp
    have HC : Hid ((bsT (s.extract 0 k), bsT (s.extract (k + 1) s.size), true) = Ad.cutB sep (bsT s)) := lh (by rw [bsT_take, bsT_rest, Ad.cutB_hit hl (hg.trans hc) HN.out])
    have hz1 : (s.extract 0 k).size ≤ s.size := by rw [ByteArray.size_extract]; omega
    have hz2 : (s.extract (k + 1) s.size).size ≤ s.size := by rw [ByteArray.size_extract]; omega
    clear hc hg
    go_upto_region 5 with (fail)
    refine wp_region_soft 8 (softsL [.eq (.string s), .eq (.int .i64 k), .eq (.string (s.extract 0 k)), .eq (.string s), .eq (.int .i64 k), .eq (.int .i64 (k + 1)), .eq (.string (s.extract (k + 1) s.size)), .eq (.agg (rcC (s.extract 0 k) (s.extract (k + 1) s.size) true))]) (by kernel_rfl) (by kernel_rfl) (lt_cons ?_ (lt_cons ?_ (lt_cons ?_ (lt_cons ?_ (lt_cons ?_ (lt_cons ?_ (lt_cons ?_ (lt_cons ?_ (lt_none))))))))) ?_
    any_goals (refine sop rfl fun xs W HW hsW HD Q' HQ => ?_; simp only [fillAt, dstOf, lc0, lcs, obs, Act.put, lsa, lsz, lss, nz, Nat.reduceAdd] at HQ ⊢)
    ·
     go_wp2
     exact HQ.out _ _ (eR _) rfl
    ·
     go_wp2
     exact HQ.out _ _ (eR _) rfl
    ·
     have hd0 : xs 0 = .string s := (HD.out 0 (dk (by kernel_rfl)))
     generalize xs 0 = x0 at hd0 HQ ⊢; subst hd0
     have hd1 : xs 1 = .int .i64 k := (HD.out 1 (dk (by kernel_rfl)))
     generalize xs 1 = x1 at hd1 HQ ⊢; subst hd1
     go_wp2
     exact HQ.out _ _ (eR _) rfl
    ·
     go_wp2
     exact HQ.out _ _ (eR _) rfl
    ·
     go_wp2
     exact HQ.out _ _ (eR _) rfl
    ·
     have hd4 : xs 4 = .int .i64 k := (HD.out 4 (dk (by kernel_rfl)))
     generalize xs 4 = x4 at hd4 HQ ⊢; subst hd4
     go_wp2
     exact HQ.out _ _ (eR _) rfl
    ·
     have hd3 : xs 3 = .string s := (HD.out 3 (dk (by kernel_rfl)))
     generalize xs 3 = x3 at hd3 HQ ⊢; subst hd3
     have hd5 : xs 5 = .int .i64 (k + 1) := (HD.out 5 (dk (by kernel_rfl)))
     generalize xs 5 = x5 at hd5 HQ ⊢; subst hd5
     go_wp2
     exact HQ.out _ _ (eR _) rfl
    ·
     have hd2 : xs 2 = .string (s.extract 0 k) := (HD.out 2 (dk (by kernel_rfl)))
     generalize xs 2 = x2 at hd2 HQ ⊢; subst hd2
     have hd6 : xs 6 = .string (s.extract (k + 1) s.size) := (HD.out 6 (dk (by kernel_rfl)))
     generalize xs 6 = x6 at hd6 HQ ⊢; subst hd6
     go_wp2
     exact HQ.out _ _ (eR _) rfl
    intro xs W3 hW hS
    have h7 : xs 7 = .agg (rcC (s.extract 0 k) (s.extract (k + 1) s.size) true) := hS 7 (by omega)
    simp only [fillAt, dstOf, lc0, lcs, obs, Act.put, lsa, lsz, lss, nz, Nat.reduceAdd, List.drop_succ_cons, List.drop_zero, List.drop_nil]
    generalize xs 7 = x7 at *; subst h7
    have HW3 := lh (HX.out.trans hW)
    have HWW3 := lh hW
    clear hS hW 
    generalize s.extract 0 k = a at *
    generalize s.extract (k + 1) s.size = b at *
    have HU3 := lh (HU.out.ext HWW3.out)
    have hm : roomOf W3 B 0 3 = true := by rw [HU3.out.room]; rfl
    have hs3 := HWW3.out.size
    have hft := rc_fits a b true
    go_wp2
    exact post_row rct_ty Tryz.results134 rfl rfl (RowAt.stored (n := 3) (ds := rcC a b true) HU3.out rfl rfl (by omega)) ⟨⟨a, b, true, rfl, HC.out, hz1, hz2⟩, (by (with_reducible repeat first|exact HX1.out.trans HW3.out|exact eR _|apply eD|apply eN|apply eA|apply eO|apply eS|apply eC);all_goals first|omega|simp <;> omega)⟩
   ·have hcc : ((s[k].toNat : Int) == (sep.toNat : Int)) = false := by
     rw [beq_eq_false_iff_ne]
     exact fun h => hc (UInt8.toNat_inj.1 (by omega))
    have HN2 : Hid (∀ j (hj : j < (bsT s).length), j < k + 1 → (bsT s)[j] ≠ sep) := lh (fun j hj h => by
     by_cases e : j = k
     ·subst e; rw [hg]; exact hc
     ·exact HN.out j hj (by omega))
    clear hc hg HN
    go_wp2
    go_roundw
    case rel => exact ⟨k + 1, by go_num, by omega, HN2, HX⟩
    case measure => simp [intOf]; omega
  ·have HC : Hid ((bsT s, bsT ByteArray.empty, false) = Ad.cutB sep (bsT s)) := lh (by
    rw [Ad.cutB_miss (fun hm => by
     obtain ⟨j, hj, e⟩ := List.mem_iff_getElem.1 hm
     exact HN.out j hj (by rw [bsT_size] at hj; omega) e)]
    rfl)
   have hm : roomOf wr B 0 3 = true := by rw [HU.out.room]; rfl
   have hft := rc_fits s ByteArray.empty false
   clear HN
   go_wp2
   exact post_row rct_ty Tryz.results134 rfl rfl (RowAt.stored (n := 3) (ds := rcC s ByteArray.empty false) HU.out rfl rfl (by omega)) ⟨⟨s, ByteArray.empty, false, rfl, HC.out, Nat.le_refl _, Nat.zero_le _⟩, (by (with_reducible repeat first|exact HX1.out.trans HX.out|exact eR _|apply eD|apply eN|apply eA|apply eO|apply eS|apply eC);all_goals first|omega|simp <;> omega)⟩
theorem cut_in (c : UInt8) (s : List UInt8) : (Ad.cutB c s).2.2 = s.contains c := by
 by_cases h : c ∈ s
 ·have h1 : s.contains c = true := by simpa using h
  rcases Ad.cutB_index c s with ⟨_, _, h2⟩ | ⟨i, _, _, h2, _⟩
  ·exact absurd h h2
  ·rw [h1, h2]
 ·rw [Ad.cutB_miss h]
  have : s.contains c = false := by simpa using h
  rw [this]
theorem r31right_any (p : Pu) (w : World) (hw : p.what.size ≤ 4096) :
  Calls Tryz.prog 91 #[.agg (puC p)] w fun e w' => e = .returned (.bool (okPu p)) ∧ Ext w w' := by
 have HC := lh (fun W => rcanon_any p.what W (by omega))
 have HK := lh (fun W => r31split_any p.what 63 W (by omega))
 have HT := lh (fun W => r31split_any p.what 58 W (by omega))
 have HNm := lh (fun (s : ByteArray) (W : World) (h : s.size ≤ 4096) => rname_any s W (by omega))
 replace HNm : Hid (∀ (s : ByteArray) (W : World) (h : s.size ≤ 4096), Calls Tryz.prog 135 #[.string s] W fun e w' => e = .returned (.bool (Tg.nameB (bsT s))) ∧ Ext W w') := HNm
 replace HK : Hid (∀ W, Calls Tryz.prog 134 #[.string p.what, .int .u8 63] W fun e w' => RCutIs 63 p.what e ∧ Ext W w') := HK
 replace HT : Hid (∀ W, Calls Tryz.prog 134 #[.string p.what, .int .u8 58] W fun e w' => RCutIs 58 p.what e ∧ Ext W w') := HT
 have hft := pu_fits p
 have d0 : decide (4096 < (p.what.size : Int)) = false := by simp; omega
 have d00 : ¬ 4096 < p.what.size := by omega
 by_cases k1 : p.kind = 1
 ·have HO : Hid (okPu p = Ad.canonB (bsT p.what)) := lh (by rw [okPu, if_pos k1])
  have d1 : (p.kind == 1) = true := by simpa using k1
  generalize okPu p = R at *
  generalize Ad.canonB (bsT p.what) = C at *
  clear k1 HK HT HNm
  go_enter Tryz.func91, Tryz.ntmps91
  go_wp2_with (go_at_call 110; refine (HC.out _).mono ?_; rintro e w' ⟨rfl, hxl⟩; obtain ⟨xl, rfl⟩ := hxl.asLater; clear hxl)
  go_ret
  exact ⟨ret_bool HO.out.symm, (by (with_reducible repeat first|exact eR _|apply eD|apply eN|apply eA|apply eO|apply eS|apply eC);all_goals first|omega|simp <;> omega)⟩
 have d1 : (p.kind == 1) = false := by simpa using k1
 by_cases k2 : p.kind = 2
 ·have HO : Hid (okPu p = (Ad.canonB (bsT p.what) && !((Ad.cutB 63 (bsT p.what)).2.2))) := lh (by rw [okPu, if_neg k1, if_pos k2, cut_in])
  have d2 : (p.kind == 2) = true := by simpa using k2
  generalize okPu p = R at *
  generalize Ad.canonB (bsT p.what) = C at *
  clear k1 k2 HT HNm
  go_enter Tryz.func91, Tryz.ntmps91
  go_upto_region 8 with (go_at_call 134; refine (HK.out _).mono ?_; rintro e w' ⟨⟨a, b, f, rfl, h1, h2, h3⟩, hxl⟩; have HA := lh h1; clear h1; obtain ⟨xl, rfl⟩ := hxl.asLater; clear hxl)
  have HA' : Hid (R = (C && !f)) := lh (by rw [HO.out, ← HA.out])
  clear HO HA HK
  cases f
  all_goals
   go_wp2_with (go_at_call 110; refine (HC.out _).mono ?_; rintro e w' ⟨rfl, hxl⟩; obtain ⟨xm, rfl⟩ := hxl.asLater; clear hxl)
   go_ret
   exact ⟨ret_bool (by have h := HA'.out; clear HA'; subst h; first | rfl | (simp; done) | (cases C <;> rfl)), (by (with_reducible repeat first|exact eR _|apply eD|apply eN|apply eA|apply eO|apply eS|apply eC);all_goals first|omega|simp <;> omega)⟩
 have d2 : (p.kind == 2) = false := by simpa using k2
 by_cases k3 : p.kind = 3
 ·have d3 : (p.kind == 3) = true := by simpa using k3
  have hdl : decide ((p.what.size : Int) ≤ 4096) = true := by simp; omega
  have HO : Hid (okPu p = ((Ad.cutB 58 (bsT p.what)).2.2 && Tg.nameB (Ad.cutB 58 (bsT p.what)).1 && Tg.nameB (Ad.cutB 58 (bsT p.what)).2.1)) := lh (by rw [okPu, if_neg k1, if_neg k2, if_pos k3, hdl, Bool.and_true])
  generalize okPu p = R at *
  clear k1 k2 k3 HC HK hdl
  go_enter Tryz.func91, Tryz.ntmps91
  go_upto_region 11 with (go_at_call 134; refine (HT.out _).mono ?_; rintro e w' ⟨⟨a, b, f, rfl, h1, h2, h3⟩, hxl⟩; have HA := lh h1; clear h1; obtain ⟨xl, rfl⟩ := hxl.asLater; clear hxl)
  have HA' : Hid (R = (f && Tg.nameB (bsT a) && Tg.nameB (bsT b))) := lh (by rw [HO.out, ← HA.out])
  clear HO HA HT
  cases f with
  | true =>
   cases ea : Tg.nameB (bsT a)
   all_goals
    rw [ea] at HA'
    have EA := lh ea
    clear ea
    go_wp2_with (go_at_call 135; refine (HNm.out _ _ (by omega)).mono ?_; rintro e w' ⟨rfl, hxl⟩; (first | rw [EA.out] | skip); obtain ⟨xm, rfl⟩ := hxl.asLater; clear hxl)
    go_ret
    exact ⟨ret_bool (by rw [HA'.out]; simp), (by (with_reducible repeat first|exact eR _|apply eD|apply eN|apply eA|apply eO|apply eS|apply eC);all_goals first|omega|simp <;> omega)⟩
  | false =>
   have HR : Hid (R = false) := lh (by rw [HA'.out]; simp)
   clear HA'
   go_wp2
   go_ret
   exact ⟨ret_bool HR.out.symm, (by (with_reducible repeat first|exact eR _|apply eD|apply eN|apply eA|apply eO|apply eS|apply eC);all_goals first|omega|simp <;> omega)⟩
 have d3 : (p.kind == 3) = false := by simpa using k3
 have HO : Hid (okPu p = false) := lh (by rw [okPu, if_neg k1, if_neg k2, if_neg k3])
 rw [HO.out]
 clear k1 k2 k3 HC HK HT HNm
 go_enter Tryz.func91, Tryz.ntmps91
 go_wp2
 go_ret
 exact ⟨rfl, (by (with_reducible repeat first|exact eR _|apply eD|apply eN|apply eA|apply eO|apply eS|apply eC);all_goals first|omega|simp <;> omega)⟩
theorem perclk32 (lo hi : Int) : perB lo hi = okClk ⟨lo, hi⟩ := by
 rw [Bool.eq_iff_iff, perB_iff]
 simp only [okClk, Bool.and_eq_true, decide_eq_true_eq]
 omega
theorem all_snoc {α : Type} (p : α → Bool) (l : List α) (k : Nat) (h : k < l.length) (h0 : (l.take k).all p = true) (h1 : p l[k] = true) : (l.take (k + 1)).all p = true := by
 rw [List.take_succ_eq_append_getElem h, List.all_append, h0]
 simpa using h1
theorem all_no {α : Type} (p : α → Bool) (l : List α) (k : Nat) (h : k < l.length) (h1 : p l[k] = false) : l.all p = false := by
 rw [List.all_eq_false]
 exact ⟨l[k], List.getElem_mem h, by simpa using h1⟩
theorem revalid_any (e : Ep) (w : World) (ha : EpAt w e) (hl : e.pu.length ≤ 100000) (hr : e.rv.length ≤ 9223372036854775807) (hw : ∀ p ∈ e.pu, p.what.size ≤ 4096) :
  Calls Tryz.prog 35 #[.agg (epC e)] w fun e' w' => e' = .returned (.bool (okEp e)) ∧ Ext w w' := by
 have HV : Hid (∀ W : World, Calls Tryz.prog 34 #[.agg #[.int .i64 e.lo, .int .i64 e.hi]] W fun e' w' => e' = .returned (.bool (okClk ⟨e.lo, e.hi⟩)) ∧ Ext W w') := lh (fun W => by rw [← perclk32]; exact rper_any e.lo e.hi W)
 have HP := lh (fun (k : Nat) (h : k < e.pu.length) (W : World) => r31right_any e.pu[k] W (hw _ (List.getElem_mem h)))
 have HAp := lh ha.pu
 have HO : Hid (okEp e = (decide (e.num ≥ 1) && decide (e.num ≤ 1099511627776) && okClk ⟨e.lo, e.hi⟩ && decide (max (e.pu.length : Int) (e.rv.length : Int) ≤ 1000) && e.pu.all okPu)) := lh rfl
 have hft := ep_fits e
 generalize okEp e = R at *
 generalize okClk ⟨e.lo, e.hi⟩ = C at *
 clear ha hw
 by_cases b : 1 ≤ e.num ∧ e.num ≤ 1099511627776 ∧ C = true ∧ e.pu.length ≤ 1000 ∧ e.rv.length ≤ 1000
 ·obtain ⟨b0, b1, rfl, b3, b4⟩ := b
  have HO' : Hid (R = e.pu.all okPu) := lh (by rw [HO.out, decide_eq_true (show e.num ≥ 1 from b0), decide_eq_true b1, decide_eq_true (show max (e.pu.length : Int) (e.rv.length : Int) ≤ 1000 by omega)]; simp)
  clear HO
  go_enter Tryz.func35, Tryz.ntmps35
  go_upto_region 3 with (go_at_call 34; refine (HV.out _).mono ?_; rintro e w' ⟨rfl, hxl⟩; obtain ⟨xm, rfl⟩ := hxl.asLater; clear hxl)
  refine wp_world (fun W => Ext w W ∧ RowAt W w.heap.size (epC e)) ⟨(by (with_reducible repeat first|exact eR _|apply eD|apply eN|apply eA|apply eO|apply eS|apply eC);all_goals first|omega|simp <;> omega), (RowAt.new _ _ _).later _⟩ ?_
  obtain ⟨B, hB⟩ : ∃ B, w.heap.size = B := ⟨_, rfl⟩
  rw [hB]
  rintro W1 ⟨x1, uB⟩
  have HX1 := lh x1
  have hlu := uB.lt
  have HQ19 : Hid (W1.cell? ⟨B, 19, none⟩ = some (.slice e.PA e.pu.length e.pc)) := lh ((uB.cell 19).trans (ep_g19 e))
  clear x1 uB HV b0 b1 b4
  generalize e.PA = PA at *
  go_wp2
  go_loopw [3] (fun i wr => ∃ k : Nat, k ≤ e.pu.length ∧ i = .int .i64 k ∧ Hid ((e.pu.take k).all okPu = true) ∧ Hid (Ext W1 wr)) (fun i _ => e.pu.length - (intOf i).toNat)
  case atStart => exact ⟨0, Nat.zero_le _, rfl, lh rfl, lh (eR _)⟩
  case round =>
   obtain ⟨k, hk, rfl, HK, HX⟩ := hrel
   have hsz := HX.out.size
   have qB_19 : wr.cell? ⟨B, 19, none⟩ = some (.slice PA e.pu.length e.pc) := (HX.out.cell (p := ⟨B, 19, none⟩) hlu).trans HQ19.out
   have hlw : B < wr.heap.size := by omega
   by_cases hlt : k < e.pu.length
   ·obtain ⟨b, off, rfl, hb, hrow⟩ := reads_row puE (HAp.out.ext (HX1.out.trans HX.out) (Nat.le_refl _)) k hlt
    have hb2 : b < wr.heap.size := by omega
    have HP1 := lh (HP.out k hlt)
    have HS := lh (all_snoc okPu e.pu k hlt HK.out)
    have HN := lh (all_no okPu e.pu k hlt)
    change rowOf wr b (off + k * 3) 3 = some (puC e.pu[k]) at hrow
    have hfp := pu_fits e.pu[k]
    clear HP
    generalize e.pu[k] = p at *
    cases hp : okPu p with
    | true =>
     have HS1 := lh (HS.out hp)
     rw [hp] at HP1
     clear HS HN hp
     go_wp2_with (go_at_call 91; refine (HP1.out _).mono ?_; rintro e w' ⟨rfl, hxl⟩; obtain ⟨xl, rfl⟩ := hxl.asLater; clear hxl)
     go_roundw
     case rel => exact ⟨k + 1, by omega, by go_num, HS1, lh (by (with_reducible repeat first|exact HX.out|exact eR _|apply eD|apply eN|apply eA|apply eO|apply eS|apply eC);all_goals first|omega|simp <;> omega)⟩
     case measure => simp [intOf]; omega
    | false =>
     have HN1 := lh (HN.out hp)
     rw [hp] at HP1
     clear HS HN hp
     go_wp2_with (go_at_call 91; refine (HP1.out _).mono ?_; rintro e w' ⟨rfl, hxl⟩; obtain ⟨xl, rfl⟩ := hxl.asLater; clear hxl)
     go_ret
     exact ⟨ret_bool (by rw [HO'.out, HN1.out]), (by (with_reducible repeat first|exact HX1.out.trans HX.out|exact eR _|apply eD|apply eN|apply eA|apply eO|apply eS|apply eC);all_goals first|omega|simp <;> omega)⟩
   ·have e1 : k = e.pu.length := by omega
    subst e1
    have HF : Hid (R = true) := lh (by have h := HK.out; rw [List.take_of_length_le (Nat.le_refl _)] at h; rw [HO'.out, h])
    go_wp2
    go_ret
    exact ⟨ret_bool HF.out.symm, (by (with_reducible repeat first|exact HX1.out.trans HX.out|exact eR _|apply eD|apply eN|apply eA|apply eO|apply eS|apply eC);all_goals first|omega|simp <;> omega)⟩
 ·have HR : Hid (R = false) := lh (by
   cases hR : R with
   | false => rfl
   | true =>
    exfalso
    apply b
    have h := HO.out
    rw [hR] at h
    have h' := h.symm
    simp only [Bool.and_eq_true, decide_eq_true_eq] at h'
    obtain ⟨⟨⟨⟨h1, h2⟩, h3⟩, h4⟩, _⟩ := h'
    exact ⟨by omega, h2, h3, by omega, by omega⟩)
  clear HO HAp HP
  have hneg : ∀ (h1 : 1 ≤ e.num) (h2 : e.num ≤ 1099511627776) (h3 : C = true) (h4 : e.pu.length ≤ 1000), 1000 < e.rv.length := fun h1 h2 h3 h4 => by
   by_cases h : e.rv.length ≤ 1000
   ·exact absurd ⟨h1, h2, h3, h4, h⟩ b
   ·omega
  clear b
  by_cases b0 : e.num < 1
  ·clear hneg
   go_enter Tryz.func35, Tryz.ntmps35
   go_wp2
   go_ret
   exact ⟨ret_bool HR.out.symm, (by (with_reducible repeat first|exact eR _|apply eD|apply eN|apply eA|apply eO|apply eS|apply eC);all_goals first|omega|simp <;> omega)⟩
  by_cases b1 : 1099511627776 < e.num
  ·clear hneg
   go_enter Tryz.func35, Tryz.ntmps35
   go_wp2
   go_ret
   exact ⟨ret_bool HR.out.symm, (by (with_reducible repeat first|exact eR _|apply eD|apply eN|apply eA|apply eO|apply eS|apply eC);all_goals first|omega|simp <;> omega)⟩
  cases C with
  | false =>
   clear hneg
   go_enter Tryz.func35, Tryz.ntmps35
   go_wp2_with (go_at_call 34; refine (HV.out _).mono ?_; rintro e w' ⟨rfl, hxl⟩; obtain ⟨xm, rfl⟩ := hxl.asLater; clear hxl)
   go_ret
   exact ⟨ret_bool HR.out.symm, (by (with_reducible repeat first|exact eR _|apply eD|apply eN|apply eA|apply eO|apply eS|apply eC);all_goals first|omega|simp <;> omega)⟩
  | true =>
   by_cases b3 : 1000 < e.pu.length
   ·clear hneg
    go_enter Tryz.func35, Tryz.ntmps35
    go_wp2_with (go_at_call 34; refine (HV.out _).mono ?_; rintro e w' ⟨rfl, hxl⟩; obtain ⟨xm, rfl⟩ := hxl.asLater; clear hxl)
    go_ret
    exact ⟨ret_bool HR.out.symm, (by (with_reducible repeat first|exact eR _|apply eD|apply eN|apply eA|apply eO|apply eS|apply eC);all_goals first|omega|simp <;> omega)⟩
   ·have b4 : 1000 < e.rv.length := hneg (by omega) (by omega) rfl (by omega)
    clear hneg
    go_enter Tryz.func35, Tryz.ntmps35
    go_wp2_with (go_at_call 34; refine (HV.out _).mono ?_; rintro e w' ⟨rfl, hxl⟩; obtain ⟨xm, rfl⟩ := hxl.asLater; clear hxl)
    go_ret
    exact ⟨ret_bool HR.out.symm, (by (with_reducible repeat first|exact eR _|apply eD|apply eN|apply eA|apply eO|apply eS|apply eC);all_goals first|omega|simp <;> omega)⟩
theorem rshortEp_any (e : Ep) (w : World) (ha : EpAt w e) (hl : e.pu.length ≤ 9223372036854775807) (hr : e.rv.length ≤ 9223372036854775807) (hw : ∀ p ∈ e.pu, p.what.size ≤ 9223372036854775807) :
  Calls Tryz.prog 67 #[.agg (epC e)] w fun e' w' => e' = .returned (.bool (shortEp e)) ∧ Ext w w' := by
 have HW := lh hw
 have HAp := lh ha.pu
 have HO : Hid (shortEp e = ((e.pu.all fun p => decide ((p.what.size : Int) ≤ 200)) && decide ((e.pu.length : Int) ≤ 10) && decide ((e.rv.length : Int) ≤ 10))) := lh rfl
 have hft := ep_fits e
 generalize shortEp e = R at *
 clear ha hw
 go_enter Tryz.func67, Tryz.ntmps67
 go_wp2
 refine wp_world (fun W => Ext w W ∧ RowAt W w.heap.size (epC e)) ⟨(by (with_reducible repeat first|exact eR _|apply eD|apply eN|apply eA|apply eO|apply eS|apply eC);all_goals first|omega|simp <;> omega), (RowAt.new _ _ _)⟩ ?_
 obtain ⟨B, hB⟩ : ∃ B, w.heap.size = B := ⟨_, rfl⟩
 rw [hB]
 rintro W1 ⟨x1, uB⟩
 have HX1 := lh x1
 have hlu := uB.lt
 have HQ19 : Hid (W1.cell? ⟨B, 19, none⟩ = some (.slice e.PA e.pu.length e.pc)) := lh ((uB.cell 19).trans (ep_g19 e))
 have HQ20 : Hid (W1.cell? ⟨B, 20, none⟩ = some (.slice e.RA e.rv.length e.rc)) := lh ((uB.cell 20).trans (ep_g20 e))
 clear x1 uB
 generalize e.PA = PA at *
 generalize e.RA = RA at *
 go_loopw [3] (fun i wr => ∃ k : Nat, k ≤ e.pu.length ∧ i = .int .i64 k ∧ Hid (((e.pu.take k).all fun p => decide ((p.what.size : Int) ≤ 200)) = true) ∧ Hid (Ext W1 wr)) (fun i _ => e.pu.length - (intOf i).toNat)
 case atStart => exact ⟨0, Nat.zero_le _, rfl, lh rfl, lh (eR _)⟩
 case round =>
  obtain ⟨k, hk, rfl, HK, HX⟩ := hrel
  have hsz := HX.out.size
  have qB_19 : wr.cell? ⟨B, 19, none⟩ = some (.slice PA e.pu.length e.pc) := (HX.out.cell (p := ⟨B, 19, none⟩) hlu).trans HQ19.out
  have hlw : B < wr.heap.size := by omega
  by_cases hlt : k < e.pu.length
  ·obtain ⟨b, off, rfl, hb, hrow⟩ := reads_row puE (HAp.out.ext (HX1.out.trans HX.out) (Nat.le_refl _)) k hlt
   have hb2 : b < wr.heap.size := by omega
   have hwk := HW.out _ (List.getElem_mem hlt)
   have HS := lh (all_snoc (fun p : Pu => decide ((p.what.size : Int) ≤ 200)) e.pu k hlt HK.out)
   have HN := lh (all_no (fun p : Pu => decide ((p.what.size : Int) ≤ 200)) e.pu k hlt)
   have q1 : wr.cell? ⟨b, off + k * 3 + 1, none⟩ = some (.string e.pu[k].what) := (rowOf_cell hrow (i := 1) (by omega)).trans (pu_g1 _)
   clear hrow
   generalize e.pu[k] = p at *
   generalize p.what = t at *
   by_cases h2 : 200 < t.size
   ·have HN1 := lh (HN.out (by simp; omega))
    have d1 : decide (200 < (t.size : Int)) = true := by simp; omega
    clear HS HN
    go_wp2
    go_ret
    exact ⟨ret_bool (by rw [HO.out, HN1.out]; simp), (by (with_reducible repeat first|exact HX1.out.trans HX.out|exact eR _|apply eD|apply eN|apply eA|apply eO|apply eS|apply eC);all_goals first|omega|simp <;> omega)⟩
   ·have HS1 := lh (HS.out (by simp; omega))
    have d1 : decide (200 < (t.size : Int)) = false := by simp; omega
    clear HS HN
    go_wp2
    go_roundw
    case rel => exact ⟨k + 1, by omega, by go_num, HS1, lh (by (with_reducible repeat first|exact HX.out|exact eR _|apply eD|apply eN|apply eA|apply eO|apply eS|apply eC);all_goals first|omega|simp <;> omega)⟩
    case measure => simp [intOf]; omega
  ·have e1 : k = e.pu.length := by omega
   subst e1
   have qB_20 : wr.cell? ⟨B, 20, none⟩ = some (.slice RA e.rv.length e.rc) := (HX.out.cell (p := ⟨B, 20, none⟩) hlu).trans HQ20.out
   have HF : Hid (R = (decide ((e.pu.length : Int) ≤ 10) && decide ((e.rv.length : Int) ≤ 10))) := lh (by have h := HK.out; rw [List.take_of_length_le (Nat.le_refl _)] at h; rw [HO.out, h, Bool.true_and])
   by_cases h1 : e.pu.length ≤ 10
   ·have d1 : decide ((e.pu.length : Int) ≤ 10) = true := by simp; omega
    go_wp2
    go_ret
    exact ⟨ret_bool (by rw [HF.out, d1]; simp), (by (with_reducible repeat first|exact HX1.out.trans HX.out|exact eR _|apply eD|apply eN|apply eA|apply eO|apply eS|apply eC);all_goals first|omega|simp <;> omega)⟩
   ·have d1 : decide ((e.pu.length : Int) ≤ 10) = false := by simp; omega
    go_wp2
    go_ret
    exact ⟨ret_bool (by rw [HF.out, d1]; simp), (by (with_reducible repeat first|exact HX1.out.trans HX.out|exact eR _|apply eD|apply eN|apply eA|apply eO|apply eS|apply eC);all_goals first|omega|simp <;> omega)⟩
def grB (latest : Int) (x : Gr) : Bool := siteB x.site && decide (0 ≤ x.heard) && decide (x.heard ≤ latest) && decide (0 ≤ x.until_) && decide (x.until_ ≤ 1099511627776)
theorem grB_is {latest : Int} {x : Gr} : grB latest x = true ↔ (0 ≤ x.site ∧ x.site < 64 ∧ 0 ≤ x.heard ∧ x.heard ≤ latest ∧ 0 ≤ x.until_ ∧ x.until_ ≤ 1099511627776) := by
 simp only [grB, siteB, Bool.and_eq_true, decide_eq_true_eq]
 omega
def lastG (l : List Gr) (k : Nat) : Int := if k = 0 then -1 else (l.getD (k - 1) noGr).site
def gAt (l : List Gr) (latest : Int) (i : Nat) : Bool := grB latest (l.getD i noGr) && decide (lastG l i < (l.getD i noGr).site)
def okGs (g : Gs) : Bool := decide (0 ≤ g.latest) && decide (g.latest ≤ 1099511627776) && decide (1 ≤ g.most) && decide (g.most ≤ 3600000) && (List.range g.l.length).all (gAt g.l g.latest)
theorem gget {l : List Gr} {k : Nat} (h : k < l.length) : l.getD k noGr = l[k] := by rw [List.getD_eq_getElem?_getD, List.getElem?_eq_getElem h]; rfl
theorem lastG_succ {l : List Gr} {k : Nat} (h : k < l.length) : lastG l (k + 1) = l[k].site := by
 unfold lastG
 rw [if_neg (by omega), Nat.add_sub_cancel, gget h]
theorem lastG_pos {l : List Gr} {k : Nat} (h : 0 < k) (hk : k < l.length) : lastG l k = (l[k - 1]'(by omega)).site := by
 unfold lastG
 rw [if_neg (by omega), gget (by omega)]
theorem gAt_is {l : List Gr} {latest : Int} {k : Nat} (h : k < l.length) : gAt l latest k = true ↔ (0 ≤ l[k].site ∧ l[k].site < 64 ∧ 0 ≤ l[k].heard ∧ l[k].heard ≤ latest ∧ 0 ≤ l[k].until_ ∧ l[k].until_ ≤ 1099511627776) ∧ lastG l k < l[k].site := by
 unfold gAt
 rw [gget h, Bool.and_eq_true, grB_is, decide_eq_true_eq]
theorem lvalid_any (g : Gs) (w : World) (hl : g.l.length ≤ 100000) (ha : Reads 3 grL w w.heap.size g.GA g.l) :
  Calls Tryz.prog 68 #[.agg (gsC g)] w fun e' w' => e' = .returned (.bool (okGs g)) ∧ Ext w w' := by
 have HA := lh ha
 have HS := lh lsite_any
 have HO : Hid (okGs g = (decide (0 ≤ g.latest) && decide (g.latest ≤ 1099511627776) && decide (1 ≤ g.most) && decide (g.most ≤ 3600000) && (List.range g.l.length).all (gAt g.l g.latest))) := lh rfl
 have hft := gs_fits g
 generalize okGs g = R at *
 clear ha
 go_enter Tryz.func68, Tryz.ntmps68
 go_upto_region 1 with (fail)
 refine wp_world (fun W => Ext w W ∧ RowAt W w.heap.size (gsC g)) ⟨(by (with_reducible repeat first|exact eR _|apply eD|apply eN|apply eA|apply eO|apply eS|apply eC);all_goals first|omega|simp <;> omega), (RowAt.new _ _ _)⟩ ?_
 obtain ⟨B, hB⟩ : ∃ B, w.heap.size = B := ⟨_, rfl⟩
 rw [hB]
 rintro W1 ⟨x1, uB⟩
 have HX1 := lh x1
 have hlu := uB.lt
 have qB_0 : W1.cell? ⟨B, 0, none⟩ = some (.int .i64 g.latest) := (uB.cell 0).trans (gs_g0 g)
 have qB_1 : W1.cell? ⟨B, 1, none⟩ = some (.int .i64 g.most) := (uB.cell 1).trans (gs_g1 g)
 have qB_2 : W1.cell? ⟨B, 2, none⟩ = some (.slice g.GA g.l.length g.gc) := (uB.cell 2).trans (gs_g2 g)
 have HQ0 := lh qB_0
 have HQ1 := lh qB_1
 clear x1 uB
 generalize g.GA = GA at *
 go_wp2
 clear qB_0 qB_1 qB_2
 go_loopw [3, 9] (fun t i wr => ∃ k : Nat, k ≤ g.l.length ∧ t = .int .i64 (lastG g.l k) ∧ i = .int .i64 k ∧ Hid ((List.range k).all (gAt g.l g.latest) = true) ∧ Hid (Ext W1 wr)) (fun _ i _ => g.l.length - (intOf i).toNat)
 case atStart => exact ⟨0, Nat.zero_le _, rfl, rfl, lh rfl, lh (eR _)⟩
 case round =>
  obtain ⟨k, hk, rfl, rfl, HK, HX⟩ := hrel
  have hsz := HX.out.size
  have qB_0 : wr.cell? ⟨B, 0, none⟩ = some (.int .i64 g.latest) := (HX.out.cell (p := ⟨B, 0, none⟩) hlu).trans HQ0.out
  have qB_1 : wr.cell? ⟨B, 1, none⟩ = some (.int .i64 g.most) := (HX.out.cell (p := ⟨B, 1, none⟩) hlu).trans HQ1.out
  have hlw : B < wr.heap.size := by omega
  by_cases hlt : k < g.l.length
  ·obtain ⟨b, off, rfl, hb, hrow⟩ := reads_row grE (HA.out.ext (HX1.out.trans HX.out) (Nat.le_refl _)) k hlt
   have hb2 : b < wr.heap.size := by omega
   have HG : Hid (gAt g.l g.latest k = true ↔ (0 ≤ g.l[k].site ∧ g.l[k].site < 64 ∧ 0 ≤ g.l[k].heard ∧ g.l[k].heard ≤ g.latest ∧ 0 ≤ g.l[k].until_ ∧ g.l[k].until_ ≤ 1099511627776) ∧ lastG g.l k < g.l[k].site) := lh (gAt_is hlt)
   have HN := lh (fun h => range_snoc (gAt g.l g.latest) k HK.out h)
   have HB := lh (fun h => range_no (gAt g.l g.latest) k g.l.length hlt h)
   have HL := lh (lastG_succ hlt)
   have HS1 := lh (fun W => HS.out g.l[k].site W)
   change rowOf wr b (off + k * 3) 3 = some (grC g.l[k]) at hrow
   have hfp := gr_fits g.l[k]
   generalize lastG g.l k = la at *
   generalize gAt g.l g.latest k = ok at *
   generalize g.l[k] = x at *
   by_cases hg : (0 ≤ x.site ∧ x.site < 64 ∧ 0 ≤ x.heard ∧ x.heard ≤ g.latest ∧ 0 ≤ x.until_ ∧ x.until_ ≤ 1099511627776) ∧ la < x.site
   ·have HN1 := lh (HN.out (HG.out.2 hg))
    obtain ⟨⟨g1, g2, g3, g4, g5, g6⟩, g7⟩ := hg
    have hsb : siteB x.site = true := siteB_is.2 ⟨g1, g2⟩
    rw [hsb] at HS1
    clear HG HN HB hsb
    go_wp2_with (go_at_call 125; refine (HS1.out _).mono ?_; rintro e w' ⟨rfl, hxl⟩; obtain ⟨xl, rfl⟩ := hxl.asLater; clear hxl)
    go_roundw
    case rel => exact ⟨k + 1, by omega, by rw [HL.out], by go_num, HN1, lh (by (with_reducible repeat first|exact HX.out|exact eR _|apply eD|apply eN|apply eA|apply eO|apply eS|apply eC);all_goals first|omega|simp <;> omega)⟩
    case measure => simp [intOf]; omega
   ·have HB1 := lh (HB.out (by
     cases hok : ok with
     | false => rfl
     | true => exact absurd (HG.out.1 hok) hg))
    have HR : Hid (R = false) := lh (by rw [HO.out, HB1.out, Bool.and_false])
    have HG' := lh hg
    clear HG HN HB HB1 hg HO
    cases hsb : siteB x.site with
    | false =>
     rw [hsb] at HS1
     clear hsb
     go_wp2_with (go_at_call 125; refine (HS1.out _).mono ?_; rintro e w' ⟨rfl, hxl⟩; obtain ⟨xl, rfl⟩ := hxl.asLater; clear hxl)
     go_ret
     exact ⟨ret_bool HR.out.symm, (by (with_reducible repeat first|exact HX1.out.trans HX.out|exact eR _|apply eD|apply eN|apply eA|apply eO|apply eS|apply eC);all_goals first|omega|simp <;> omega)⟩
    | true =>
     obtain ⟨s0, s1⟩ := siteB_is.1 hsb
     rw [hsb] at HS1
     clear hsb
     go_wp2_with (go_at_call 125; refine (HS1.out _).mono ?_; rintro e w' ⟨rfl, hxl⟩; obtain ⟨xl, rfl⟩ := hxl.asLater; clear hxl)
     all_goals first
      | (exfalso; have := HG'.out; omega)
      | (go_ret; exact ⟨ret_bool HR.out.symm, (by (with_reducible repeat first|exact HX1.out.trans HX.out|exact eR _|apply eD|apply eN|apply eA|apply eO|apply eS|apply eC);all_goals first|omega|simp <;> omega)⟩)
  ·have e1 : k = g.l.length := by omega
   subst e1
   have HF : Hid (R = (decide (0 ≤ g.latest) && decide (g.latest ≤ 1099511627776) && decide (1 ≤ g.most) && decide (g.most ≤ 3600000))) := lh (by rw [HO.out, HK.out, Bool.and_true])
   clear HO HK HA HS
   go_wp2
   all_goals
    go_ret
    exact ⟨ret_bool (by have h := HF.out; clear HF; subst h; first | rfl | (simp [*]; done) | (simp [*]; omega) | omega), (by (with_reducible repeat first|exact HX1.out.trans HX.out|exact eR _|apply eD|apply eN|apply eA|apply eO|apply eS|apply eC);all_goals first|omega|simp <;> omega)⟩
theorem r30valid_any (g : Gs) (w : World) (hl : g.l.length ≤ 100000) (ha : Reads 3 grL w w.heap.size g.GA g.l) :
  Calls Tryz.prog 77 #[.agg (gsC g)] w fun e' w' => e' = .returned (.bool (okGs g)) ∧ Ext w w' := by
 have HA := lh ha
 have HS := lh r30site_any
 have HO : Hid (okGs g = (decide (0 ≤ g.latest) && decide (g.latest ≤ 1099511627776) && decide (1 ≤ g.most) && decide (g.most ≤ 3600000) && (List.range g.l.length).all (gAt g.l g.latest))) := lh rfl
 have hft := gs_fits g
 generalize okGs g = R at *
 clear ha
 by_cases hgd : 0 ≤ g.latest ∧ g.latest ≤ 1099511627776 ∧ 1 ≤ g.most ∧ g.most ≤ 3600000
 ·obtain ⟨m0, m1, m2, m3⟩ := hgd
  have HO' : Hid (R = (List.range g.l.length).all (gAt g.l g.latest)) := lh (by rw [HO.out, decide_eq_true m0, decide_eq_true m1, decide_eq_true m2, decide_eq_true m3]; simp)
  clear HO
  go_enter Tryz.func77, Tryz.ntmps77
  go_upto_region 1 with (fail)
  refine wp_world (fun W => Ext w W ∧ RowAt W w.heap.size (gsC g)) ⟨(by (with_reducible repeat first|exact eR _|apply eD|apply eN|apply eA|apply eO|apply eS|apply eC);all_goals first|omega|simp <;> omega), (RowAt.new _ _ _)⟩ ?_
  obtain ⟨B, hB⟩ : ∃ B, w.heap.size = B := ⟨_, rfl⟩
  rw [hB]
  rintro W1 ⟨x1, uB⟩
  have HX1 := lh x1
  have hlu := uB.lt
  have qB_0 : W1.cell? ⟨B, 0, none⟩ = some (.int .i64 g.latest) := (uB.cell 0).trans (gs_g0 g)
  have qB_1 : W1.cell? ⟨B, 1, none⟩ = some (.int .i64 g.most) := (uB.cell 1).trans (gs_g1 g)
  have qB_2 : W1.cell? ⟨B, 2, none⟩ = some (.slice g.GA g.l.length g.gc) := (uB.cell 2).trans (gs_g2 g)
  have HQ0 := lh qB_0
  have HQ2 := lh qB_2
  clear x1 uB
  generalize g.GA = GA at *
  go_wp2
  clear qB_0 qB_1 qB_2
  go_loopw [3] (fun i wr => ∃ k : Nat, k ≤ g.l.length ∧ i = .int .i64 k ∧ Hid ((List.range k).all (gAt g.l g.latest) = true) ∧ Hid (Ext W1 wr)) (fun i _ => g.l.length - (intOf i).toNat)
  case atStart => exact ⟨0, Nat.zero_le _, rfl, lh rfl, lh (eR _)⟩
  case round =>
   obtain ⟨k, hk, rfl, HK, HX⟩ := hrel
   have hsz := HX.out.size
   have qB_0 : wr.cell? ⟨B, 0, none⟩ = some (.int .i64 g.latest) := (HX.out.cell (p := ⟨B, 0, none⟩) hlu).trans HQ0.out
   have qB_2 : wr.cell? ⟨B, 2, none⟩ = some (.slice GA g.l.length g.gc) := (HX.out.cell (p := ⟨B, 2, none⟩) hlu).trans HQ2.out
   have hlw : B < wr.heap.size := by omega
   by_cases hlt : k < g.l.length
   ·obtain ⟨b, off, rfl, hb, hrow⟩ := reads_row grE (HA.out.ext (HX1.out.trans HX.out) (Nat.le_refl _)) k hlt
    have hb2 : b < wr.heap.size := by omega
    have HPv : Hid (0 < k → wr.cell? ⟨b, off + (k - 1) * 3, none⟩ = some (.int .i64 (lastG g.l k))) := lh (fun h => by
     obtain ⟨b', off', e1, _, hrp⟩ := reads_row grE (HA.out.ext (HX1.out.trans HX.out) (Nat.le_refl _)) (k - 1) (by omega)
     injection e1 with e1
     injection e1 with e1 e2
     subst e1 e2
     rw [lastG_pos h hlt]
     exact (rowOf_cell hrp (i := 0) (by omega)).trans (gr_g0 _))
    have hk0 : k = 0 → lastG g.l k = -1 := fun h => by subst h; rfl
    have HG : Hid (gAt g.l g.latest k = true ↔ (0 ≤ g.l[k].site ∧ g.l[k].site < 64 ∧ 0 ≤ g.l[k].heard ∧ g.l[k].heard ≤ g.latest ∧ 0 ≤ g.l[k].until_ ∧ g.l[k].until_ ≤ 1099511627776) ∧ lastG g.l k < g.l[k].site) := lh (gAt_is hlt)
    have HN := lh (fun h => range_snoc (gAt g.l g.latest) k HK.out h)
    have HB := lh (fun h => range_no (gAt g.l g.latest) k g.l.length hlt h)
    have HS1 := lh (fun W => HS.out g.l[k].site W)
    change rowOf wr b (off + k * 3) 3 = some (grC g.l[k]) at hrow
    have hfp := gr_fits g.l[k]
    generalize lastG g.l k = la at *
    generalize gAt g.l g.latest k = ok at *
    generalize g.l[k] = x at *
    have HR0 : Hid (ok = false → R = false) := lh (fun h => by rw [HO'.out]; exact HB.out h)
    have hno : (¬ ((0 ≤ x.site ∧ x.site < 64 ∧ 0 ≤ x.heard ∧ x.heard ≤ g.latest ∧ 0 ≤ x.until_ ∧ x.until_ ≤ 1099511627776) ∧ la < x.site)) → ok = false := fun h => by
     cases hok : ok with
     | false => rfl
     | true => exact absurd (HG.out.1 hok) h
    clear HB HS HA
    cases hsb : siteB x.site with
    | false =>
     have HR := lh (HR0.out (hno (fun h => by rw [siteB_is.2 ⟨h.1.1, h.1.2.1⟩] at hsb; cases hsb)))
     rw [hsb] at HS1
     clear hsb hno HR0 HG HN HPv hk0
     go_upto_region 7 with (fail)
     refine wp_world (fun W => Ext wr W ∧ RowAt W wr.heap.size (grC x)) ⟨(by (with_reducible repeat first|exact eR _|apply eD|apply eN|apply eA|apply eO|apply eS|apply eC);all_goals first|omega|simp <;> omega), (RowAt.newAt (by simp)).store rfl⟩ ?_
     generalize hg9 : wr.heap.size = q
     rintro W5 ⟨x5, ug⟩
     have HX5 := lh x5
     have hl5 := ug.lt
     have hs5 := x5.size
     have qg_0 : W5.cell? ⟨q, 0, none⟩ = some (.int .i64 x.site) := (ug.cell 0).trans (gr_g0 x)
     have qg_1 : W5.cell? ⟨q, 1, none⟩ = some (.int .i64 x.heard) := (ug.cell 1).trans (gr_g1 x)
     have qg_2 : W5.cell? ⟨q, 2, none⟩ = some (.int .i64 x.until_) := (ug.cell 2).trans (gr_g2 x)
     have qC_0 : W5.cell? ⟨B, 0, none⟩ = some (.int .i64 g.latest) := (x5.cell (p := ⟨B, 0, none⟩) hlw).trans qB_0
     have qC_2 : W5.cell? ⟨B, 2, none⟩ = some (.slice (some ⟨b, off, none⟩) g.l.length g.gc) := (x5.cell (p := ⟨B, 2, none⟩) hlw).trans qB_2
     have hlw5 : B < W5.heap.size := by omega
     have hb5 : b < W5.heap.size := by omega
     clear ug hrow qB_0 qB_2
     clear x5
     refine wp_region_later (by kernel_rfl) (by kernel_rfl) ?_
     repeat (first | go_big_quiet_step ((go_at_call 127; exact quietE (HS1.out _))) | quiet_step ((go_at_call 127; exact quietE (HS1.out _))))
     refine wpQuiet_nil ?_
     rintro _ ⟨xq, rfl⟩
     go_wp2
     go_ret
     exact ⟨ret_bool HR.out.symm, (by (with_reducible repeat first|exact (HX1.out.trans HX.out).trans HX5.out|exact eR _|apply eD|apply eN|apply eA|apply eO|apply eS|apply eC);all_goals first|omega|simp <;> omega)⟩
    | true =>
     obtain ⟨s0, s1⟩ := siteB_is.1 hsb
     rw [hsb] at HS1
     clear hsb
     by_cases c1 : x.heard < 0
     ·have HR := lh (HR0.out (hno (fun h => by omega)))
      have d1 : decide (x.heard < 0) = true := by simpa using c1
      clear hno HR0 HG HN HPv hk0
      go_upto_region 7 with (fail)
      refine wp_world (fun W => Ext wr W ∧ RowAt W wr.heap.size (grC x)) ⟨(by (with_reducible repeat first|exact eR _|apply eD|apply eN|apply eA|apply eO|apply eS|apply eC);all_goals first|omega|simp <;> omega), (RowAt.newAt (by simp)).store rfl⟩ ?_
      generalize hg9 : wr.heap.size = q
      rintro W5 ⟨x5, ug⟩
      have HX5 := lh x5
      have hl5 := ug.lt
      have hs5 := x5.size
      have qg_0 : W5.cell? ⟨q, 0, none⟩ = some (.int .i64 x.site) := (ug.cell 0).trans (gr_g0 x)
      have qg_1 : W5.cell? ⟨q, 1, none⟩ = some (.int .i64 x.heard) := (ug.cell 1).trans (gr_g1 x)
      have qg_2 : W5.cell? ⟨q, 2, none⟩ = some (.int .i64 x.until_) := (ug.cell 2).trans (gr_g2 x)
      have qC_0 : W5.cell? ⟨B, 0, none⟩ = some (.int .i64 g.latest) := (x5.cell (p := ⟨B, 0, none⟩) hlw).trans qB_0
      have qC_2 : W5.cell? ⟨B, 2, none⟩ = some (.slice (some ⟨b, off, none⟩) g.l.length g.gc) := (x5.cell (p := ⟨B, 2, none⟩) hlw).trans qB_2
      have hlw5 : B < W5.heap.size := by omega
      have hb5 : b < W5.heap.size := by omega
      clear ug hrow qB_0 qB_2
      clear x5
      refine wp_region_later (by kernel_rfl) (by kernel_rfl) ?_
      repeat (first | go_big_quiet_step ((go_at_call 127; exact quietE (HS1.out _))) | quiet_step ((go_at_call 127; exact quietE (HS1.out _))))
      refine wpQuiet_nil ?_
      rintro _ ⟨xq, rfl⟩
      go_wp2
      go_ret
      exact ⟨ret_bool HR.out.symm, (by (with_reducible repeat first|exact (HX1.out.trans HX.out).trans HX5.out|exact eR _|apply eD|apply eN|apply eA|apply eO|apply eS|apply eC);all_goals first|omega|simp <;> omega)⟩
     have d1 : decide (x.heard < 0) = false := by simpa using c1
     by_cases c2 : g.latest < x.heard
     ·have HR := lh (HR0.out (hno (fun h => by omega)))
      have d2 : decide (g.latest < x.heard) = true := by simpa using c2
      clear hno HR0 HG HN HPv hk0
      go_upto_region 7 with (fail)
      refine wp_world (fun W => Ext wr W ∧ RowAt W wr.heap.size (grC x)) ⟨(by (with_reducible repeat first|exact eR _|apply eD|apply eN|apply eA|apply eO|apply eS|apply eC);all_goals first|omega|simp <;> omega), (RowAt.newAt (by simp)).store rfl⟩ ?_
      generalize hg9 : wr.heap.size = q
      rintro W5 ⟨x5, ug⟩
      have HX5 := lh x5
      have hl5 := ug.lt
      have hs5 := x5.size
      have qg_0 : W5.cell? ⟨q, 0, none⟩ = some (.int .i64 x.site) := (ug.cell 0).trans (gr_g0 x)
      have qg_1 : W5.cell? ⟨q, 1, none⟩ = some (.int .i64 x.heard) := (ug.cell 1).trans (gr_g1 x)
      have qg_2 : W5.cell? ⟨q, 2, none⟩ = some (.int .i64 x.until_) := (ug.cell 2).trans (gr_g2 x)
      have qC_0 : W5.cell? ⟨B, 0, none⟩ = some (.int .i64 g.latest) := (x5.cell (p := ⟨B, 0, none⟩) hlw).trans qB_0
      have qC_2 : W5.cell? ⟨B, 2, none⟩ = some (.slice (some ⟨b, off, none⟩) g.l.length g.gc) := (x5.cell (p := ⟨B, 2, none⟩) hlw).trans qB_2
      have hlw5 : B < W5.heap.size := by omega
      have hb5 : b < W5.heap.size := by omega
      clear ug hrow qB_0 qB_2
      clear x5
      refine wp_region_later (by kernel_rfl) (by kernel_rfl) ?_
      repeat (first | go_big_quiet_step ((go_at_call 127; exact quietE (HS1.out _))) | quiet_step ((go_at_call 127; exact quietE (HS1.out _))))
      refine wpQuiet_nil ?_
      rintro _ ⟨xq, rfl⟩
      go_wp2
      go_ret
      exact ⟨ret_bool HR.out.symm, (by (with_reducible repeat first|exact (HX1.out.trans HX.out).trans HX5.out|exact eR _|apply eD|apply eN|apply eA|apply eO|apply eS|apply eC);all_goals first|omega|simp <;> omega)⟩
     have d2 : decide (g.latest < x.heard) = false := by simpa using c2
     by_cases c3 : x.until_ < 0
     ·have HR := lh (HR0.out (hno (fun h => by omega)))
      have d3 : decide (x.until_ < 0) = true := by simpa using c3
      clear hno HR0 HG HN HPv hk0
      go_upto_region 7 with (fail)
      refine wp_world (fun W => Ext wr W ∧ RowAt W wr.heap.size (grC x)) ⟨(by (with_reducible repeat first|exact eR _|apply eD|apply eN|apply eA|apply eO|apply eS|apply eC);all_goals first|omega|simp <;> omega), (RowAt.newAt (by simp)).store rfl⟩ ?_
      generalize hg9 : wr.heap.size = q
      rintro W5 ⟨x5, ug⟩
      have HX5 := lh x5
      have hl5 := ug.lt
      have hs5 := x5.size
      have qg_0 : W5.cell? ⟨q, 0, none⟩ = some (.int .i64 x.site) := (ug.cell 0).trans (gr_g0 x)
      have qg_1 : W5.cell? ⟨q, 1, none⟩ = some (.int .i64 x.heard) := (ug.cell 1).trans (gr_g1 x)
      have qg_2 : W5.cell? ⟨q, 2, none⟩ = some (.int .i64 x.until_) := (ug.cell 2).trans (gr_g2 x)
      have qC_0 : W5.cell? ⟨B, 0, none⟩ = some (.int .i64 g.latest) := (x5.cell (p := ⟨B, 0, none⟩) hlw).trans qB_0
      have qC_2 : W5.cell? ⟨B, 2, none⟩ = some (.slice (some ⟨b, off, none⟩) g.l.length g.gc) := (x5.cell (p := ⟨B, 2, none⟩) hlw).trans qB_2
      have hlw5 : B < W5.heap.size := by omega
      have hb5 : b < W5.heap.size := by omega
      clear ug hrow qB_0 qB_2
      clear x5
      refine wp_region_later (by kernel_rfl) (by kernel_rfl) ?_
      repeat (first | go_big_quiet_step ((go_at_call 127; exact quietE (HS1.out _))) | quiet_step ((go_at_call 127; exact quietE (HS1.out _))))
      refine wpQuiet_nil ?_
      rintro _ ⟨xq, rfl⟩
      go_wp2
      go_ret
      exact ⟨ret_bool HR.out.symm, (by (with_reducible repeat first|exact (HX1.out.trans HX.out).trans HX5.out|exact eR _|apply eD|apply eN|apply eA|apply eO|apply eS|apply eC);all_goals first|omega|simp <;> omega)⟩
     have d3 : decide (x.until_ < 0) = false := by simpa using c3
     by_cases c4 : 1099511627776 < x.until_
     ·have HR := lh (HR0.out (hno (fun h => by omega)))
      have d4 : decide (1099511627776 < x.until_) = true := by simpa using c4
      clear hno HR0 HG HN HPv hk0
      go_upto_region 7 with (fail)
      refine wp_world (fun W => Ext wr W ∧ RowAt W wr.heap.size (grC x)) ⟨(by (with_reducible repeat first|exact eR _|apply eD|apply eN|apply eA|apply eO|apply eS|apply eC);all_goals first|omega|simp <;> omega), (RowAt.newAt (by simp)).store rfl⟩ ?_
      generalize hg9 : wr.heap.size = q
      rintro W5 ⟨x5, ug⟩
      have HX5 := lh x5
      have hl5 := ug.lt
      have hs5 := x5.size
      have qg_0 : W5.cell? ⟨q, 0, none⟩ = some (.int .i64 x.site) := (ug.cell 0).trans (gr_g0 x)
      have qg_1 : W5.cell? ⟨q, 1, none⟩ = some (.int .i64 x.heard) := (ug.cell 1).trans (gr_g1 x)
      have qg_2 : W5.cell? ⟨q, 2, none⟩ = some (.int .i64 x.until_) := (ug.cell 2).trans (gr_g2 x)
      have qC_0 : W5.cell? ⟨B, 0, none⟩ = some (.int .i64 g.latest) := (x5.cell (p := ⟨B, 0, none⟩) hlw).trans qB_0
      have qC_2 : W5.cell? ⟨B, 2, none⟩ = some (.slice (some ⟨b, off, none⟩) g.l.length g.gc) := (x5.cell (p := ⟨B, 2, none⟩) hlw).trans qB_2
      have hlw5 : B < W5.heap.size := by omega
      have hb5 : b < W5.heap.size := by omega
      clear ug hrow qB_0 qB_2
      clear x5
      refine wp_region_later (by kernel_rfl) (by kernel_rfl) ?_
      repeat (first | go_big_quiet_step ((go_at_call 127; exact quietE (HS1.out _))) | quiet_step ((go_at_call 127; exact quietE (HS1.out _))))
      refine wpQuiet_nil ?_
      rintro _ ⟨xq, rfl⟩
      go_wp2
      go_ret
      exact ⟨ret_bool HR.out.symm, (by (with_reducible repeat first|exact (HX1.out.trans HX.out).trans HX5.out|exact eR _|apply eD|apply eN|apply eA|apply eO|apply eS|apply eC);all_goals first|omega|simp <;> omega)⟩
     have d4 : decide (1099511627776 < x.until_) = false := by simpa using c4
     by_cases k0 : 0 < k
     ·have hpv := HPv.out k0
      have e0 : decide (0 < k) = true := by simp; omega
      have e1 : decide (0 < (k : Int)) = true := by simp; omega
      by_cases c5 : x.site ≤ la
      ·have HR := lh (HR0.out (hno (fun h => by omega)))
       have d5 : decide (x.site ≤ la) = true := by simpa using c5
       clear hno HR0 HG HN HPv hk0
       go_upto_region 7 with (fail)
       refine wp_world (fun W => Ext wr W ∧ RowAt W wr.heap.size (grC x)) ⟨(by (with_reducible repeat first|exact eR _|apply eD|apply eN|apply eA|apply eO|apply eS|apply eC);all_goals first|omega|simp <;> omega), (RowAt.newAt (by simp)).store rfl⟩ ?_
       generalize hg9 : wr.heap.size = q
       rintro W5 ⟨x5, ug⟩
       have HX5 := lh x5
       have hl5 := ug.lt
       have hs5 := x5.size
       have qg_0 : W5.cell? ⟨q, 0, none⟩ = some (.int .i64 x.site) := (ug.cell 0).trans (gr_g0 x)
       have qg_1 : W5.cell? ⟨q, 1, none⟩ = some (.int .i64 x.heard) := (ug.cell 1).trans (gr_g1 x)
       have qg_2 : W5.cell? ⟨q, 2, none⟩ = some (.int .i64 x.until_) := (ug.cell 2).trans (gr_g2 x)
       have qC_0 : W5.cell? ⟨B, 0, none⟩ = some (.int .i64 g.latest) := (x5.cell (p := ⟨B, 0, none⟩) hlw).trans qB_0
       have qC_2 : W5.cell? ⟨B, 2, none⟩ = some (.slice (some ⟨b, off, none⟩) g.l.length g.gc) := (x5.cell (p := ⟨B, 2, none⟩) hlw).trans qB_2
       have hlw5 : B < W5.heap.size := by omega
       have hb5 : b < W5.heap.size := by omega
       clear ug hrow qB_0 qB_2
       have hpw : W5.cell? ⟨b, off + (k - 1) * 3, none⟩ = some (.int .i64 la) := (x5.cell (p := ⟨b, off + (k - 1) * 3, none⟩) hb2).trans hpv
       clear x5 hpv
       refine wp_region_later (by kernel_rfl) (by kernel_rfl) ?_
       repeat (first | go_big_quiet_step ((go_at_call 127; exact quietE (HS1.out _))) | quiet_step ((go_at_call 127; exact quietE (HS1.out _))))
       refine wpQuiet_nil ?_
       rintro _ ⟨xq, rfl⟩
       go_wp2
       go_ret
       exact ⟨ret_bool HR.out.symm, (by (with_reducible repeat first|exact (HX1.out.trans HX.out).trans HX5.out|exact eR _|apply eD|apply eN|apply eA|apply eO|apply eS|apply eC);all_goals first|omega|simp <;> omega)⟩
      ·have d5 : decide (x.site ≤ la) = false := by simpa using c5
       have HN1 := lh (HN.out (HG.out.2 (by omega)))
       clear hno HR0 HG HN HPv hk0
       go_upto_region 7 with (fail)
       refine wp_world (fun W => Ext wr W ∧ RowAt W wr.heap.size (grC x)) ⟨(by (with_reducible repeat first|exact eR _|apply eD|apply eN|apply eA|apply eO|apply eS|apply eC);all_goals first|omega|simp <;> omega), (RowAt.newAt (by simp)).store rfl⟩ ?_
       generalize hg9 : wr.heap.size = q
       rintro W5 ⟨x5, ug⟩
       have HX5 := lh x5
       have hl5 := ug.lt
       have hs5 := x5.size
       have qg_0 : W5.cell? ⟨q, 0, none⟩ = some (.int .i64 x.site) := (ug.cell 0).trans (gr_g0 x)
       have qg_1 : W5.cell? ⟨q, 1, none⟩ = some (.int .i64 x.heard) := (ug.cell 1).trans (gr_g1 x)
       have qg_2 : W5.cell? ⟨q, 2, none⟩ = some (.int .i64 x.until_) := (ug.cell 2).trans (gr_g2 x)
       have qC_0 : W5.cell? ⟨B, 0, none⟩ = some (.int .i64 g.latest) := (x5.cell (p := ⟨B, 0, none⟩) hlw).trans qB_0
       have qC_2 : W5.cell? ⟨B, 2, none⟩ = some (.slice (some ⟨b, off, none⟩) g.l.length g.gc) := (x5.cell (p := ⟨B, 2, none⟩) hlw).trans qB_2
       have hlw5 : B < W5.heap.size := by omega
       have hb5 : b < W5.heap.size := by omega
       clear ug hrow qB_0 qB_2
       have hpw : W5.cell? ⟨b, off + (k - 1) * 3, none⟩ = some (.int .i64 la) := (x5.cell (p := ⟨b, off + (k - 1) * 3, none⟩) hb2).trans hpv
       clear x5 hpv
       refine wp_region_later (by kernel_rfl) (by kernel_rfl) ?_
       repeat (first | go_big_quiet_step ((go_at_call 127; exact quietE (HS1.out _))) | quiet_step ((go_at_call 127; exact quietE (HS1.out _))))
       refine wpQuiet_nil ?_
       rintro _ ⟨xq, rfl⟩
       go_wp2
       go_roundw
       case rel => exact ⟨k + 1, by omega, by go_num, HN1, lh (by (with_reducible repeat first|exact HX.out.trans HX5.out|exact eR _|apply eD|apply eN|apply eA|apply eO|apply eS|apply eC);all_goals first|omega|simp <;> omega)⟩
       case measure => simp [intOf]; omega
     ·have hz : k = 0 := by omega
      have hla := hk0 hz
      have e0 : decide (0 < k) = false := by simp; omega
      have e1 : decide (0 < (k : Int)) = false := by simp; omega
      have HN1 := lh (HN.out (HG.out.2 (by omega)))
      clear hno HR0 HG HN HPv hk0 hz hla k0
      go_upto_region 7 with (fail)
      refine wp_world (fun W => Ext wr W ∧ RowAt W wr.heap.size (grC x)) ⟨(by (with_reducible repeat first|exact eR _|apply eD|apply eN|apply eA|apply eO|apply eS|apply eC);all_goals first|omega|simp <;> omega), (RowAt.newAt (by simp)).store rfl⟩ ?_
      generalize hg9 : wr.heap.size = q
      rintro W5 ⟨x5, ug⟩
      have HX5 := lh x5
      have hl5 := ug.lt
      have hs5 := x5.size
      have qg_0 : W5.cell? ⟨q, 0, none⟩ = some (.int .i64 x.site) := (ug.cell 0).trans (gr_g0 x)
      have qg_1 : W5.cell? ⟨q, 1, none⟩ = some (.int .i64 x.heard) := (ug.cell 1).trans (gr_g1 x)
      have qg_2 : W5.cell? ⟨q, 2, none⟩ = some (.int .i64 x.until_) := (ug.cell 2).trans (gr_g2 x)
      have qC_0 : W5.cell? ⟨B, 0, none⟩ = some (.int .i64 g.latest) := (x5.cell (p := ⟨B, 0, none⟩) hlw).trans qB_0
      have qC_2 : W5.cell? ⟨B, 2, none⟩ = some (.slice (some ⟨b, off, none⟩) g.l.length g.gc) := (x5.cell (p := ⟨B, 2, none⟩) hlw).trans qB_2
      have hlw5 : B < W5.heap.size := by omega
      have hb5 : b < W5.heap.size := by omega
      clear ug hrow qB_0 qB_2
      clear x5
      refine wp_region_later (by kernel_rfl) (by kernel_rfl) ?_
      repeat (first | go_big_quiet_step ((go_at_call 127; exact quietE (HS1.out _))) | quiet_step ((go_at_call 127; exact quietE (HS1.out _))))
      refine wpQuiet_nil ?_
      rintro _ ⟨xq, rfl⟩
      go_wp2
      go_roundw
      case rel => exact ⟨k + 1, by omega, by go_num, HN1, lh (by (with_reducible repeat first|exact HX.out.trans HX5.out|exact eR _|apply eD|apply eN|apply eA|apply eO|apply eS|apply eC);all_goals first|omega|simp <;> omega)⟩
      case measure => simp [intOf]; omega
   ·have e1 : k = g.l.length := by omega
    subst e1
    have HF : Hid (R = true) := lh (by rw [HO'.out, HK.out])
    clear HO' HK HA HS
    go_wp2
    go_ret
    exact ⟨ret_bool HF.out.symm, (by (with_reducible repeat first|exact HX1.out.trans HX.out|exact eR _|apply eD|apply eN|apply eA|apply eO|apply eS|apply eC);all_goals first|omega|simp <;> omega)⟩
 ·have HR : Hid (R = false) := lh (by
   cases hR : R with
   | false => rfl
   | true =>
    exfalso
    apply hgd
    have h := HO.out
    rw [hR] at h
    have h' := h.symm
    simp only [Bool.and_eq_true, decide_eq_true_eq] at h'
    exact ⟨h'.1.1.1.1, h'.1.1.1.2, h'.1.1.2, h'.1.2⟩)
  have HG := lh hgd
  clear HO HA HS hgd
  go_enter Tryz.func77, Tryz.ntmps77
  by_cases c0 : g.latest < 0
  ·go_wp2
   go_ret
   exact ⟨ret_bool HR.out.symm, (by (with_reducible repeat first|exact eR _|apply eD|apply eN|apply eA|apply eO|apply eS|apply eC);all_goals first|omega|simp <;> omega)⟩
  by_cases c1 : 1099511627776 < g.latest
  ·go_wp2
   go_ret
   exact ⟨ret_bool HR.out.symm, (by (with_reducible repeat first|exact eR _|apply eD|apply eN|apply eA|apply eO|apply eS|apply eC);all_goals first|omega|simp <;> omega)⟩
  by_cases c2 : g.most < 1
  ·go_wp2
   go_ret
   exact ⟨ret_bool HR.out.symm, (by (with_reducible repeat first|exact eR _|apply eD|apply eN|apply eA|apply eO|apply eS|apply eC);all_goals first|omega|simp <;> omega)⟩
  have c3 : 3600000 < g.most := by
   have := HG.out
   omega
  go_wp2
  go_ret
  exact ⟨ret_bool HR.out.symm, (by (with_reducible repeat first|exact eR _|apply eD|apply eN|apply eA|apply eO|apply eS|apply eC);all_goals first|omega|simp <;> omega)⟩
end Go.Proofs.YtpfhmcdcmepfdaaGreatDoor

namespace Go.Proofs.YtpfhmcdcmepfdaaGreatDoor
open Go.ChangeShapes Go.WideShapes Go.ChangeAt Go.RowKit Go.Joins Go.Deep
open Go.Proofs
section
variable {H : Type} {enc : TypeId × Value → H} {w : World} {base : Nat} {spare : Nat → Bool} {held : Bool}
def LeIn (s : Le) : Prop := i64 s.site ∧ i64 s.epoch ∧ i64 s.until_ ∧ i64 s.serial ∧ DgOk s.sl
theorem le_of_trod {m : Nat} {L : List Value} {x : DataW H × List MemPlace} (h : DataW.trod enc Tryz.prog w base spare held m 87 L = some x) : ∃ s : Le, L = leL s ∧ LeIn s := by
 obtain ⟨xs, n, _, _, hlen, hxl, hg⟩ := DataW.trod_struct Tryz.underlying87 h
 have hC : Tryz.prog.cellsOf 87 = 20 := by kernel_rfl
 have q0 : Tryz.prog.cellsOf 3 = 1 := by kernel_rfl
 have q1 : Tryz.prog.cellsOf 30 = 16 := by kernel_rfl
 rw [hC] at hlen
 have hx9 : xs.length = 5 := hxl
 have g0 := hg 0 _ rfl
 have g1 := hg 1 _ rfl
 have g2 := hg 2 _ rfl
 have g3 := hg 3 _ rfl
 have g4 := hg 4 _ rfl
 simp only [List.getElem_toArray, List.getElem_cons_succ, List.getElem_cons_zero, q0, q1] at g0 g1 g2 g3 g4
 rw [List.getElem?_eq_getElem (by omega)] at g0 g1 g2 g3 g4
 obtain ⟨n0, e0, _, w0⟩ := DataW.trod_int Tryz.underlying3 g0
 obtain ⟨n1, e1, _, w1⟩ := DataW.trod_int Tryz.underlying3 g1
 obtain ⟨n2, e2, _, w2⟩ := DataW.trod_int Tryz.underlying3 g2
 obtain ⟨n3, e3, _, w3⟩ := DataW.trod_int Tryz.underlying3 g3
 obtain ⟨d4, e4, l4, y4⟩ := dg_of_trod Tryz.underlying30 q1 g4
 refine ⟨⟨n0, n1, n2, n3, d4⟩, ?_, i64_wf w0 , i64_wf w1 , i64_wf w2 , i64_wf w3 , ⟨l4, y4⟩⟩
 have e : L = L.drop 0 := rfl
 have j0 := seg e0
 have j1 := seg e1
 have j2 := seg e2
 have j3 := seg e3
 have j4 := seg e4
 rw [e, j0, j1, j2, j3, j4, List.drop_eq_nil_of_le (by omega)]
 simp [leL]
def GrIn (s : Gr) : Prop := i64 s.site ∧ i64 s.heard ∧ i64 s.until_
theorem gr_of_trod {m : Nat} {L : List Value} {x : DataW H × List MemPlace} (h : DataW.trod enc Tryz.prog w base spare held m 128 L = some x) : ∃ s : Gr, L = grL s ∧ GrIn s := by
 obtain ⟨xs, n, _, _, hlen, hxl, hg⟩ := DataW.trod_struct Tryz.underlying128 h
 have hC : Tryz.prog.cellsOf 128 = 3 := by kernel_rfl
 have q0 : Tryz.prog.cellsOf 3 = 1 := by kernel_rfl
 rw [hC] at hlen
 have hx9 : xs.length = 3 := hxl
 have g0 := hg 0 _ rfl
 have g1 := hg 1 _ rfl
 have g2 := hg 2 _ rfl
 simp only [List.getElem_toArray, List.getElem_cons_succ, List.getElem_cons_zero, q0] at g0 g1 g2
 rw [List.getElem?_eq_getElem (by omega)] at g0 g1 g2
 obtain ⟨n0, e0, _, w0⟩ := DataW.trod_int Tryz.underlying3 g0
 obtain ⟨n1, e1, _, w1⟩ := DataW.trod_int Tryz.underlying3 g1
 obtain ⟨n2, e2, _, w2⟩ := DataW.trod_int Tryz.underlying3 g2
 refine ⟨⟨n0, n1, n2⟩, ?_, i64_wf w0 , i64_wf w1 , i64_wf w2⟩
 have e : L = L.drop 0 := rfl
 have j0 := seg e0
 have j1 := seg e1
 have j2 := seg e2
 rw [e, j0, j1, j2, List.drop_eq_nil_of_le (by omega)]
 simp [grL]
def GsIn (w : World) (s : Gs) : Prop := i64 s.latest ∧ i64 s.most ∧ (s.l.length ≤ s.gc ∧ s.gc ≤ maxLen ∧ Reads 3 grL w w.heap.size s.GA s.l ∧ (∀ x ∈ s.l, GrIn x) ∧ (s.GA = none → s.gc = 0))
theorem gs_of_trod {m : Nat} {L : List Value} {x : DataW H × List MemPlace} (h : DataW.trod enc Tryz.prog w 0 (fun _ => true) held m 62 L = some x) : ∃ s : Gs, L = gsL s ∧ GsIn w s := by
 obtain ⟨xs, n, _, _, hlen, hxl, hg⟩ := DataW.trod_struct Tryz.underlying62 h
 have hC : Tryz.prog.cellsOf 62 = 3 := by kernel_rfl
 have q0 : Tryz.prog.cellsOf 3 = 1 := by kernel_rfl
 have q1 : Tryz.prog.cellsOf 60 = 1 := by kernel_rfl
 rw [hC] at hlen
 have hx9 : xs.length = 3 := hxl
 have g0 := hg 0 _ rfl
 have g1 := hg 1 _ rfl
 have g2 := hg 2 _ rfl
 simp only [List.getElem_toArray, List.getElem_cons_succ, List.getElem_cons_zero, q0, q1] at g0 g1 g2
 rw [List.getElem?_eq_getElem (by omega)] at g0 g1 g2
 obtain ⟨n0, e0, _, w0⟩ := DataW.trod_int Tryz.underlying3 g0
 obtain ⟨n1, e1, _, w1⟩ := DataW.trod_int Tryz.underlying3 g1
 obtain ⟨v2, e2⟩ : ∃ v, (L.drop 2).take 1 = [v] := ⟨L[2]'(by omega), by rw [List.drop_eq_getElem_cons (by omega), List.take_succ_cons, List.take_zero]⟩
 rw [e2] at g2
 obtain ⟨A2, c2, l2, rfl, a2, b2, r2, p2, z2⟩ := slice_of_trod grE (noGr) GrIn Tryz.underlying60 (by kernel_rfl) (by omega) (fun h => gr_of_trod h) g2
 refine ⟨⟨n0, n1, A2, c2, l2⟩, ?_, i64_wf w0 , i64_wf w1 , ⟨a2, b2, r2, p2, z2⟩⟩
 have e : L = L.drop 0 := rfl
 have j0 := seg e0
 have j1 := seg e1
 have j2 := seg e2
 rw [e, j0, j1, j2, List.drop_eq_nil_of_le (by omega)]
 simp [gsL]
theorem open_gs {r : Reach} {b0 : Nat} {v : Value} {d : DataW H} {p : List MemPlace} (hv : Value.okWide Tryz.prog w r b0 62 v) (h : DataW.Trod enc Tryz.prog w 0 (fun _ => true) held 62 v d p) : ∃ s : Gs, v = .agg (gsC s) ∧ GsIn w s := by
 obtain ⟨cs, rfl, hsz⟩ := okWide_struct Tryz.underlying62 hv
 obtain ⟨fuel, hf⟩ := h
 obtain ⟨s, e0, l1⟩ := gs_of_trod hf
 have hcs : cs = gsC s := by
  apply Array.toList_inj.1
  exact e0
 exact ⟨s, by rw [hcs], l1⟩
theorem le_ok {c : Le} (h : LeIn c) : LeOk c := by
 obtain ⟨h1, h2, h3, h4, h5⟩ := h
 refine ⟨h5, ?_⟩
 intro x hx
 simp only [leInts, List.mem_cons, List.not_mem_nil, or_false] at hx
 rcases hx with rfl | rfl | rfl | rfl <;> assumption
theorem open_confirms {r : Reach} {b0 : Nat} {v : Value} {d : DataW H} {p : List MemPlace} (hv : Value.okWide Tryz.prog w r b0 63 v) (h : DataW.Trod enc Tryz.prog w 0 (fun _ => true) held 63 v d p) :
  ∃ (A : Option Addr) (c : Nat) (l : List Cf), v = .slice A l.length c ∧ l.length ≤ c ∧ c ≤ maxLen ∧ Reads 37 cfL w w.heap.size A l ∧ (∀ s ∈ l, CfIn s) := by
 unfold Value.okWide at hv
 rw [Tryz.underlying63] at hv
 simp only [] at hv
 obtain ⟨fuel, hf⟩ := h
 cases v with
 | slice A n c =>
  obtain ⟨A', c', l, e, h1, h2, h3, h4, h5⟩ := slice_of_trod cfE noCf CfIn Tryz.underlying63 (by kernel_rfl) (by omega) (fun h => cf_of_trod h) hf
  injection e with e1 e2 e3
  subst e1 e2 e3
  exact ⟨A, c, l, rfl, h1, h2, h3, h4⟩
 | _ =>
  exfalso
  unfold Cell.okWide at hv
  rw [Tryz.underlying63] at hv
  simp only [] at hv
  unfold Cell.ok at hv
  rw [Tryz.underlying63] at hv
  simp at hv
theorem open_leases {r : Reach} {b0 : Nat} {v : Value} {d : DataW H} {p : List MemPlace} (hv : Value.okWide Tryz.prog w r b0 64 v) (h : DataW.Trod enc Tryz.prog w 0 (fun _ => true) held 64 v d p) :
  ∃ (A : Option Addr) (c : Nat) (l : List Le), v = .slice A l.length c ∧ l.length ≤ c ∧ c ≤ maxLen ∧ Reads 20 leL w w.heap.size A l ∧ (∀ s ∈ l, LeIn s) := by
 unfold Value.okWide at hv
 rw [Tryz.underlying64] at hv
 simp only [] at hv
 obtain ⟨fuel, hf⟩ := h
 cases v with
 | slice A n c =>
  obtain ⟨A', c', l, e, h1, h2, h3, h4, h5⟩ := slice_of_trod leE noLe LeIn Tryz.underlying64 (by kernel_rfl) (by omega) (fun h => le_of_trod h) hf
  injection e with e1 e2 e3
  subst e1 e2 e3
  exact ⟨A, c, l, rfl, h1, h2, h3, h4⟩
 | _ =>
  exfalso
  unfold Cell.okWide at hv
  rw [Tryz.underlying64] at hv
  simp only [] at hv
  unfold Cell.ok at hv
  rw [Tryz.underlying64] at hv
  simp at hv
end
end Go.Proofs.YtpfhmcdcmepfdaaGreatDoor