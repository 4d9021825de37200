
import Derived.Shelf.Spec.SlicesGrow
import Derived.Shelf.SlGeneric
import Derived.Ground.NamesProg
import Derived.WalkKit
import Derived.WalkSpells
import Derived.WalkLawsBesides
import Derived.Deep.QuietTactic
import Derived.BigQuiet
import Derived.Lib.RowBridge
import Derived.Test.YtpfhmcdcmepfdaaGreatDoorRVy
set_option maxRecDepth 100000
set_option maxHeartbeats 64000000
set_option linter.unusedVariables false
set_option linter.unusedSimpArgs false
namespace Go.Proofs
open Go.Shelf
def Tryz.growStr_ren : Go.Shelf.Ren := ⟨fun | 4 => 157 | n => n, fun | 22 => 34 | 25 => 9 | 3 => 3 | 4 => 4 | 9 => 9 | 20 => 20 | 0 => 0 | n => n, fun | n => n⟩
theorem Tryz.growStr : Go.Proofs.Lays8.n4 Tryz.prog Tryz.growStr_ren := {
 mixed := by kernel_rfl
 f4 := ⟨Tryz.f157.name, by decide, Tryz.func157.trans (congrArg some (by kernel_rfl))⟩
 t0 := Tryz.underlying0
 a0 := Tryz.isAgg0
 z0 := Tryz.sizeOf0
 v0 := Tryz.zeroValue0
 t3 := Tryz.underlying3
 a3 := Tryz.isAgg3
 z3 := Tryz.sizeOf3
 v3 := Tryz.zeroValue3
 t4 := Tryz.underlying4
 a4 := Tryz.isAgg4
 z4 := Tryz.sizeOf4
 v4 := Tryz.zeroValue4
 t9 := Tryz.underlying9
 a9 := Tryz.isAgg9
 z9 := Tryz.sizeOf9
 v9 := Tryz.zeroValue9
 t20 := Tryz.underlying20
 a20 := Tryz.isAgg20
 z20 := Tryz.sizeOf20
 v20 := Tryz.zeroValue20
 t22 := Tryz.underlying34
 a22 := Tryz.isAgg34
 z22 := Tryz.sizeOf34
 v22 := Tryz.zeroValue34 }
end Go.Proofs

namespace Go.Proofs.YtpfhmcdcmepfdaaGreatDoor
open Go.RowKit Go.Shelf Go.Sort
open Go.Proofs
theorem strInfo : (Tryz.prog.info? 9).map (fun i => (i.zero, i.size, i.bytes)) = some (some (.string ByteArray.empty), 1, 16) := by kernel_rfl
theorem growS_any (n : Nat) (m : Int) (hm : m = n) (w : World) (hn : n * 16 ≤ 140737488355328) :
  Calls Tryz.prog 157 #[.slice none 0 0, .int .i64 m] w fun e w' => ∃ A' c', e = .returned (.slice A' 0 c') ∧ OwnsStr w.heap.size w' A' c' [] ∧ Ext w w' := by
 subst hm
 obtain ⟨i, hi, hz, h1, h2⟩ := info_parts strInfo
 by_cases h0 : n = 0
 ·subst h0
  go_enter Tryz.func157, Tryz.ntmps157
  go_wp2
  go_ret
  exact ⟨none, 0, rfl, Owns.nil _ _ _ _ _, eR _⟩
 ·have hcon := Any8.slices_Grow_grow Tryz.growStr i (.string ByteArray.empty) hi hz (by omega) none 0 0 n [] w (Nat.le_refl _) (by omega) (by rw [h2]; omega) (by omega) (by simp) (fun _ => rfl) (fun a h => by cases h)
  change Calls Tryz.prog 157 _ _ _ at hcon
  refine hcon.mono ?_
  rintro e w' ⟨rfl, rfl⟩
  refine ⟨some ⟨w.heap.size, 0, none⟩, _, rfl, Owns.mk sE (Nat.le_refl _) (heap_alloc_new w.drew _) (Nat.zero_le _) (grownCap_le_maxLen _ _ _ _ (by unfold maxLen; omega)) ?_ (by simp), ((Ext.refl w).drew).alloc _⟩
  have hge := grownCap_ge w (0 + n) 0 (Tryz.growStr_ren.t 25)
  show _ = grownCap w (0 + n) 0 (Tryz.growStr_ren.t 25) * 1
  generalize grownCap w (0 + n) 0 (Tryz.growStr_ren.t 25) = cc at *
  simp [size_zeroCells, Value.cells]
  omega
theorem concat3_any (b : Nat) (A1 A2 A3 : Option Addr) (c1 c2 c3 : Nat) (l1 l2 l3 : List ByteArray) (w : World) (hb : b < w.heap.size) (k1 : w.cell? ⟨b, 0, none⟩ = some (.slice A1 l1.length c1)) (k2 : w.cell? ⟨b, 1, none⟩ = some (.slice A2 l2.length c2)) (k3 : w.cell? ⟨b, 2, none⟩ = some (.slice A3 l3.length c3))
  (r1 : ReadsStr w w.heap.size A1 l1) (r2 : ReadsStr w w.heap.size A2 l2) (r3 : ReadsStr w w.heap.size A3 l3) (z1 : A1 = none → c1 = 0) (z2 : A2 = none → c2 = 0) (z3 : A3 = none → c3 = 0) (hlen : (l1.length + l2.length + l3.length) * 16 ≤ 140737488355328) :
  Calls Tryz.prog 118 #[.slice (some ⟨b, 0, none⟩) 3 3] w fun e w' => ∃ A' c' l', e = .returned (.slice A' l'.length c') ∧ Hid (l' = l1 ++ l2 ++ l3) ∧ OwnsStr w.heap.size w' A' c' l' ∧ Ext w w' := by
 have HR1 := lh r1
 have HR2 := lh r2
 have HR3 := lh r3
 have HZ1 := lh z1
 have HZ2 := lh z2
 have HZ3 := lh z3
 clear r1 r2 r3 z1 z2 z3
 go_enter Tryz.func118, Tryz.ntmps118
 go_wp2
 refine wp_loop_rounds 4 ?_
 rw [rounds_succ]
 go_wp2
 rw [rounds_succ]
 go_wp2
 rw [rounds_succ]
 go_wp2
 rw [rounds_succ]
 go_wp2_with (go_at_call 157; refine (growS_any (l1.length + l2.length + l3.length) _ (by simp) _ (by omega)).mono ?_; rintro e w1 ⟨A9, c9, rfl, ho, hx⟩; have HO := lh ho; have HX := lh hx; have hszx := hx.size; have k1' := (hx.cell (p := ⟨b, 0, none⟩) hb).trans k1; have k2' := (hx.cell (p := ⟨b, 1, none⟩) hb).trans k2; have k3' := (hx.cell (p := ⟨b, 2, none⟩) hb).trans k3; clear ho hx)
 refine wp_loop_rounds 4 ?_
 rw [rounds_succ]
 go_wp2_with (at_builtin; refine app_reads strT sE rfl _ _ rfl w.heap.size A9 c9 [] rfl HO.out w.heap.size A1 c1 l1 rfl (HR1.out.ext HX.out (Nat.le_refl _)) HZ1.out (by simp; omega) (by simp; omega) hszx ?_; intro A4 c4 l4 w4 HL4 HO4 hB4 hl1 hl2 _; have hl1' : l4.length ≤ l1.length := (by simpa using hl1); have HO4' := lh HO4; have HB4 := lh hB4; have k2'' := (hB4.cell (p := ⟨b, 1, none⟩) hb).trans k2'; have k3'' := (hB4.cell (p := ⟨b, 2, none⟩) hb).trans k3'; have hsz4 := hB4.size; clear HO4 hB4)
 rw [rounds_succ]
 go_wp2_with (at_builtin; refine app_reads strT sE rfl _ _ rfl w.heap.size A4 c4 l4 rfl HO4'.out w.heap.size A2 c2 l2 rfl ((HR2.out.ext HX.out (Nat.le_refl _)).below HB4.out) HZ2.out (by omega) (by omega) (by omega) ?_; intro A5 c5 l5 w5 HL5 HO5 hB5 hl3 hl4 _; have HO5' := lh HO5; have HB5 := lh hB5; have k3x := (hB5.cell (p := ⟨b, 2, none⟩) hb).trans k3''; have hsz5 := hB5.size; clear HO5 hB5)
 rw [rounds_succ]
 go_wp2_with (at_builtin; refine app_reads strT sE rfl _ _ rfl w.heap.size A5 c5 l5 rfl HO5'.out w.heap.size A3 c3 l3 rfl (((HR3.out.ext HX.out (Nat.le_refl _)).below HB4.out).below HB5.out) HZ3.out (by omega) (by omega) (by omega) ?_; intro A6 c6 l6 w6 HL6 HO6 hB6 hl5 hl6 _; have HO6' := lh HO6; have HB6 := lh hB6; clear HO6 hB6)
 rw [rounds_succ]
 go_wp2
 go_ret
 exact ⟨A6, c6, l6, rfl, lh (by rw [HL6.out, HL5.out, HL4.out, List.nil_append]), HO6'.out, ((HX.out.grown HB4.out (Nat.le_refl _)).grown HB5.out (Nat.le_refl _)).grown HB6.out (Nat.le_refl _)⟩
end Go.Proofs.YtpfhmcdcmepfdaaGreatDoor

namespace Go.Proofs.YtpfhmcdcmepfdaaGreatDoor
open Go.RowKit Go.Shelf
open Go.Proofs
structure Ky where
 (party serial : Int)
 secret : ByteArray
 (fr upto : Int)
def kyC (k : Ky) : Array Value := #[.int .i64 k.party, .int .i64 k.serial, .string k.secret, .int .i64 k.fr, .int .i64 k.upto]
def kyL (k : Ky) : List Value := [.int .i64 k.party, .int .i64 k.serial, .string k.secret, .int .i64 k.fr, .int .i64 k.upto]
def noKy : Ky := ⟨0, 0, ByteArray.empty, 0, 0⟩
theorem ky_size (v : Ky) : (kyC v).size = 5 := rfl
theorem ky_all (v : Ky) : rowSub (kyC v) 0 5 = some (kyC v) := rowSub_all _ _ rfl
theorem ky_g0 (v : Ky) : (kyC v)[0]? = some (.int .i64 v.party) := rfl
theorem ky_g1 (v : Ky) : (kyC v)[1]? = some (.int .i64 v.serial) := rfl
theorem ky_g2 (v : Ky) : (kyC v)[2]? = some (.string v.secret) := rfl
theorem ky_g3 (v : Ky) : (kyC v)[3]? = some (.int .i64 v.fr) := rfl
theorem ky_g4 (v : Ky) : (kyC v)[4]? = some (.int .i64 v.upto) := rfl
theorem ky_fits (v : Ky) : fitsRow 5 (kyC v) = true := by simp [fitsRow, kyC, Value.oneCell']
attribute [go_sem] ky_size ky_all ky_g0 ky_g1 ky_g2 ky_g3 ky_g4 ky_fits
theorem ky_ty : RowTy Tryz.prog 23 5 := ⟨by kernel_rfl, by kernel_rfl⟩
theorem ky_ld (w : World) (b o : Nat) : (rowLoad 23 5 (.pointer (some ⟨b, o, none⟩))).run Tryz.prog w = rowLoadR Tryz.prog w 23 5 b o (rowOf w b o 5) := run_rowLoad ky_ty w b o
theorem ky_st (w : World) (b o : Nat) (cells : Array Value) : (rowStore 23 5 (.pointer (some ⟨b, o, none⟩)) (.agg cells)).run Tryz.prog w = rowStoreR Tryz.prog w 23 5 b o cells (roomOf w b o 5 && fitsRow 5 cells) := run_rowStore ky_ty w b o cells
theorem ky_al (w : World) : (rowAlloc 23).run Tryz.prog w = .ok (.value (.pointer (some ⟨w.heap.size, 0, none⟩))) (w.alloc (.cells (kyC noKy) 23)) := run_rowAlloc (by kernel_rfl) w
theorem ky_xl (ρ : Operand → Value) (dst : Option Tmp) (x : Operand) (t : TypeId) (pos : String) (after : Array Edge) (guard : Option (Nat × Bool)) : execOp ρ { dst, op := .load 23 x, type := t, pos, after, guard } = rowLoad 23 5 (ρ x) := rfl
theorem ky_xs (ρ : Operand → Value) (dst : Option Tmp) (x y : Operand) (t : TypeId) (pos : String) (after : Array Edge) (guard : Option (Nat × Bool)) : execOp ρ { dst, op := .store 23 x y, type := t, pos, after, guard } = rowStore 23 5 (ρ x) (ρ y) := rfl
theorem ky_xa (ρ : Operand → Value) (dst : Option Tmp) (t : TypeId) (pos : String) (after : Array Edge) (guard : Option (Nat × Bool)) : execOp ρ { dst, op := .alloc 23, type := t, pos, after, guard } = rowAlloc 23 := rfl
attribute [go_sem ↓] ky_xl ky_xs ky_xa
attribute [go_sem] ky_ld ky_st ky_al
theorem sel_ty : RowTy Tryz.prog 30 16 := ⟨by kernel_rfl, by kernel_rfl⟩
theorem sel_ld (w : World) (b o : Nat) : (rowLoad 30 16 (.pointer (some ⟨b, o, none⟩))).run Tryz.prog w = rowLoadR Tryz.prog w 30 16 b o (rowOf w b o 16) := run_rowLoad sel_ty w b o
theorem sel_st (w : World) (b o : Nat) (cells : Array Value) : (rowStore 30 16 (.pointer (some ⟨b, o, none⟩)) (.agg cells)).run Tryz.prog w = rowStoreR Tryz.prog w 30 16 b o cells (roomOf w b o 16 && fitsRow 16 cells) := run_rowStore sel_ty w b o cells
theorem sel_al (w : World) : (rowAlloc 30).run Tryz.prog w = .ok (.value (.pointer (some ⟨w.heap.size, 0, none⟩))) (w.alloc (.cells (cells8 (zeros32 16)) 30)) := run_rowAlloc (by kernel_rfl) w
theorem sel_xl (ρ : Operand → Value) (dst : Option Tmp) (x : Operand) (t : TypeId) (pos : String) (after : Array Edge) (guard : Option (Nat × Bool)) : execOp ρ { dst, op := .load 30 x, type := t, pos, after, guard } = rowLoad 30 16 (ρ x) := rfl
theorem sel_xs (ρ : Operand → Value) (dst : Option Tmp) (x y : Operand) (t : TypeId) (pos : String) (after : Array Edge) (guard : Option (Nat × Bool)) : execOp ρ { dst, op := .store 30 x y, type := t, pos, after, guard } = rowStore 30 16 (ρ x) (ρ y) := rfl
theorem sel_xa (ρ : Operand → Value) (dst : Option Tmp) (t : TypeId) (pos : String) (after : Array Edge) (guard : Option (Nat × Bool)) : execOp ρ { dst, op := .alloc 30, type := t, pos, after, guard } = rowAlloc 30 := rfl
attribute [go_sem ↓] sel_xl sel_xs sel_xa
attribute [go_sem] sel_ld sel_st sel_al
def readI (ls : List Int) : Soft := ⟨fun v w => ∃ A c, v = .slice A ls.length c ∧ ReadsInt w w.heap.size A ls, fun v w w' ⟨A, c, h1, h2⟩ hx => ⟨A, c, h1, h2.on hx⟩⟩
theorem reads_fresh {α : Type} {size : Nat} {enc : α → List Value} (E : EncTy enc size) (l : List α) (W : World) (cs : Array Value) (t : TypeId) (h : cs.toList = l.flatMap enc) : Reads size enc (W.alloc (.cells cs t)) (W.alloc (.cells cs t)).heap.size (some ⟨W.heap.size, 0, none⟩) l := by
 intro _
 refine ⟨W.heap.size, 0, rfl, by simp, fun i hi j v hv => ?_⟩
 rw [World.cell?_alloc_at _ _ _ _ rfl]
 have hj : j < size := by
  have := (List.getElem?_eq_some_iff.1 hv).1
  rwa [E.len] at this
 have k := E.flat_get l i hi j hj
 rw [hv, ← h] at k
 simpa using k
def makeN (k : Ky) (tag : Int) (parts : List ByteArray) : List Int := Wire.digest tag (([k.secret] ++ parts ++ [k.secret]).map bts)
theorem makeN_len (k : Ky) (tag : Int) (parts : List ByteArray) : (makeN k tag parts).length = 16 := digest_length _ _
theorem makeN_byt (k : Ky) (tag : Int) (parts : List ByteArray) : Byt (makeN k tag parts) := digest_byt _ _
theorem sel_fits {l : List Int} (h : l.length = 16) : fitsRow 16 (cells8 l) = true := by
 rw [← dgC_cells h]
 simp [fitsRow, dgC, Value.oneCell']
theorem one_reads {W : World} {b : Nat} {s : ByteArray} (hb : b < W.heap.size) (h : W.cell? ⟨b, 0, none⟩ = some (.string s)) : ReadsStr W W.heap.size (some ⟨b, 0, none⟩) [s] := by
 intro _
 refine ⟨b, 0, rfl, hb, fun i hi j v hv => ?_⟩
 have hj : j = 0 := by
  have := (List.getElem?_eq_some_iff.1 hv).1
  simp [encStr] at this
  omega
 have hi0 : i = 0 := by simp at hi; omega
 subst hj hi0
 simp [encStr] at hv
 rw [h, hv]
theorem smake_any (k : Ky) (tag : Int) (A : Option Addr) (c : Nat) (parts : List ByteArray) (w : World) (hr : ReadsStr w w.heap.size A parts) (hz : A = none → c = 0) (hl : lens ([k.secret] ++ parts ++ [k.secret]) < 8796093022208) (hk : Konst 1 w) :
  Calls Tryz.prog 59 #[.agg (kyC k), .int .i64 tag, .slice A parts.length c] w fun e w' => e = .returned (.agg (dgC (makeN k tag parts))) ∧ Ext w w' := by
 have HR := lh hr
 have HZ := lh hz
 have HK := lh hk
 have hll := lens_length ([k.secret] ++ parts ++ [k.secret])
 have hpl : parts.length + 2 ≤ 8796093022208 := by
  have : ([k.secret] ++ parts ++ [k.secret]).length = parts.length + 2 := by simp [List.length_append]
  omega
 have HL := lh hl
 obtain ⟨D, hD⟩ : ∃ D, makeN k tag parts = D := ⟨_, rfl⟩
 have h16 : D.length = 16 := by rw [← hD]; exact makeN_len _ _ _
 have HD0 : Hid (Wire.digest tag (([k.secret] ++ parts ++ [k.secret]).map bts) = D) := lh hD
 have hfit := sel_fits h16
 have hsz : (cells8 D).size = 16 := by rw [cells8_size]; exact h16
 have HDC := lh (dgC_cells h16)
 rw [hD]
 clear hr hz hk hl hll hD
 go_enter Tryz.func59, Tryz.ntmps59
 go_wp2_with (go_at_call 118; refine (show Hid _ from ?_).out)
 refine lh ?_
 refine calls_world (fun W => ∃ b, b = w.heap.size + 1 + 1 + 1 + 1 ∧ Ext w W ∧ RowAt W (w.heap.size + 1) (cells8 (zeros32 16)) ∧ W.heap.size = w.heap.size + 5 ∧ W.cell? ⟨b, 0, none⟩ = some (.slice (some ⟨w.heap.size + 1 + 1, 0, none⟩) 1 1) ∧ W.cell? ⟨b, 1, none⟩ = some (.slice A parts.length c) ∧ W.cell? ⟨b, 2, none⟩ = some (.slice (some ⟨w.heap.size + 1 + 1 + 1, 0, none⟩) 1 1) ∧ ReadsStr W W.heap.size (some ⟨w.heap.size + 1 + 1, 0, none⟩) [k.secret] ∧ ReadsStr W W.heap.size (some ⟨w.heap.size + 1 + 1 + 1, 0, none⟩) [k.secret]) ⟨_, rfl, ?_, ?_, ?_, ?_, ?_, ?_, ?_, ?_⟩ ?_
 ·exact (by (with_reducible repeat first|exact eR _|apply eD|apply eN|apply eA|apply eO|apply eS|apply eC);all_goals first|omega|simp <;> omega)
 ·have h := ((((RowAt.new (w.alloc (.cells (kyC k) 23)) (cells8 (zeros32 16)) 30).alloc (.cells #[.string k.secret] 9)).alloc (.cells #[.string k.secret] 9)).alloc (.cells #[.slice (some ⟨w.heap.size + 1 + 1, 0, none⟩) 1 1, .slice A parts.length c, .slice (some ⟨w.heap.size + 1 + 1 + 1, 0, none⟩) 1 1] 34))
  have e : (w.alloc (.cells (kyC k) 23)).heap.size = w.heap.size + 1 := by simp
  rw [e] at h
  exact h
 ·simp
 ·rw [World.cell?_alloc_at _ _ _ _ (by simp)]; rfl
 ·rw [World.cell?_alloc_at _ _ _ _ (by simp)]; rfl
 ·rw [World.cell?_alloc_at _ _ _ _ (by simp)]; rfl
 ·exact one_reads (by simp) (by rw [World.cell?_alloc_past _ _ _ (by simp; try omega), World.cell?_alloc_past _ _ _ (by simp; try omega), World.cell?_alloc_at _ _ _ _ (by simp)]; rfl)
 ·exact one_reads (by simp) (by rw [World.cell?_alloc_past _ _ _ (by simp; try omega), World.cell?_alloc_at _ _ _ _ (by simp)]; rfl)
 rintro W ⟨b, rfl, hx, hu, hs, k1, k2, k3, r1, r3⟩
 have HX1 := lh hx
 have HU1 := lh hu
 refine (concat3_any _ _ A _ 1 c 1 [k.secret] parts [k.secret] W (by rw [hs]; omega) k1 k2 k3 r1 (HR.out.on hx) r3 (fun h => by cases h) HZ.out (fun h => by cases h) (by simp; omega)).mono ?_
 rintro e w1 ⟨A', c', l', rfl, hl', ho, hx1⟩
 have HO := lh ho
 have HX2 := lh hx1
 have HL' := hl'
 have HDT : Hid (Wire.digest tag (l'.map bts) = D) := lh (by rw [hl'.out]; exact HD0.out)
 have HLL : Hid (lens l' < 140737488351232) := lh (by rw [hl'.out]; exact Nat.lt_trans HL.out (by decide))
 have HK1 := lh ((HK.out.ext HX1.out).ext HX2.out)
 have HRL := lh (ho.reads sE)
 have hcov := hx1.size
 have HU2 := lh (hu.ext hx1)
 have HX3 := lh (hx.trans hx1)
 clear k1 k2 k3 r1 r3 ho hx1 hl' hx hu HX1 HX2 HO HU1 HR HZ HK HD0
 have hrm : roomOf w1 (w.heap.size + 1) 0 16 = true := by rw [HU2.out.room]; rfl
 have hlu := HU2.out.lt
 go_wp2_with (go_at_call 95; refine (of_ok tag A' c' l' _ HK1.out HRL.out HLL.out).mono ?_; rw [HDT.out]; rintro e w' ⟨rfl, hxl⟩; obtain ⟨xl, rfl⟩ := hxl.asLater; clear hxl)
 go_wp2
 refine post_row sel_ty Tryz.results59 rfl rfl (RowAt.stored (n := 16) (HU2.out.later xl) (by rw [hsz, cells8_size, zeros32_length]) (by rw [hsz]) (by omega)) ⟨by rw [HDC.out], ?_⟩
 trace_state
 exact (by (with_reducible repeat first|exact HX3.out|exact eR _|apply eD|apply eN|apply eA|apply eO|apply eS|apply eC);all_goals first|omega|simp <;> omega)
def readS (ls : List ByteArray) : Soft := ⟨fun v w => ∃ A c, v = .slice A ls.length c ∧ ReadsStr w w.heap.size A ls ∧ (A = none → c = 0), fun v w w' ⟨A, c, h1, h2, h3⟩ hx => ⟨A, c, h1, h2.on hx, h3⟩⟩
structure Clk where
 (lo hi : Int)
def clkC (k : Clk) : Array Value := #[.int .i64 k.lo, .int .i64 k.hi]
theorem clk_g0 (v : Clk) : (clkC v)[0]? = some (.int .i64 v.lo) := rfl
theorem clk_g1 (v : Clk) : (clkC v)[1]? = some (.int .i64 v.hi) := rfl
attribute [go_sem] clk_g0 clk_g1
def okKy (k : Ky) : Bool := decide (min k.party k.serial ≥ 1) && decide (max k.party k.serial ≤ 1073741824) && decide ((k.secret.size : Int) ≥ 1) && decide ((k.secret.size : Int) ≤ 64) && decide (k.fr ≥ 0) && decide (k.fr < k.upto) && decide (k.upto ≤ 1099511627776)
def okClk (k : Clk) : Bool := decide (k.lo ≥ 0) && decide (k.lo ≤ k.hi) && decide (k.hi ≤ 1099511627776)
theorem cvalid_any (k : Clk) (w : World) : Calls Tryz.prog 49 #[.agg (clkC k)] w fun e w' => e = .returned (.bool (okClk k)) ∧ Ext w w' := by
 have HF : Hid (okClk k = (decide (k.lo ≥ 0) && decide (k.lo ≤ k.hi) && decide (k.hi ≤ 1099511627776))) := lh rfl
 generalize okClk k = R at HF ⊢
 go_enter Tryz.func49, Tryz.ntmps49
 go_wp2
 all_goals
  go_ret
  exact ⟨ret_bool (by rw [HF.out]; clear HF; simp [*] <;> omega), (by (with_reducible repeat first|exact eR _|apply eD|apply eN|apply eA|apply eO|apply eS|apply eC);all_goals first|omega|simp <;> omega)⟩
theorem kvalid_any (k : Ky) (w : World) (hs : k.secret.size < 9223372036854775808) : Calls Tryz.prog 48 #[.agg (kyC k)] w fun e w' => e = .returned (.bool (okKy k)) ∧ Ext w w' := by
 have HF : Hid (okKy k = (decide (min k.party k.serial ≥ 1) && decide (max k.party k.serial ≤ 1073741824) && decide ((k.secret.size : Int) ≥ 1) && decide ((k.secret.size : Int) ≤ 64) && decide (k.fr ≥ 0) && decide (k.fr < k.upto) && decide (k.upto ≤ 1099511627776))) := lh rfl
 generalize okKy k = R at HF ⊢
 go_enter Tryz.func48, Tryz.ntmps48
 go_wp2
 all_goals
  go_ret
  exact ⟨ret_bool (by rw [HF.out]; clear HF; simp [*] <;> omega), (by (with_reducible repeat first|exact eR _|apply eD|apply eN|apply eA|apply eO|apply eS|apply eC);all_goals first|omega|simp <;> omega)⟩
theorem kyE : EncTy kyL 5 := ⟨fun _ => rfl, fun x v hv => by simp [kyL] at hv; rcases hv with rfl | rfl | rfl | rfl | rfl <;> rfl⟩
abbrev ReadsKy (w : World) (B : Nat) (A : Option Addr) (l : List Ky) : Prop := Reads 5 kyL w B A l
theorem ReadsKy.row {w : World} {B : Nat} {A : Option Addr} {l : List Ky} (h : ReadsKy w B A l) (i : Nat) (hi : i < l.length) : ∃ b off, A = some ⟨b, off, none⟩ ∧ b < B ∧ rowOf w b (off + i * 5) 5 = some (kyC l[i]) := by
 obtain ⟨b, off, h1, h2, h3⟩ := h (by omega)
 refine ⟨b, off, h1, h2, rowOf_some rfl fun j hj => ?_⟩
 match j, hj with
 | 0, _ => exact h3 i hi 0 _ rfl
 | 1, _ => exact h3 i hi 1 _ rfl
 | 2, _ => exact h3 i hi 2 _ rfl
 | 3, _ => exact h3 i hi 3 _ rfl
 | 4, _ => exact h3 i hi 4 _ rfl
def cmpK (p s : Int) (k : Ky) : Int := if k.party = p then k.serial - s else k.party - p
def small40 (n : Int) : Prop := -1099511627776 ≤ n ∧ n ≤ 1099511627776
theorem place1k_any (k : Ky) (p s : Int) (b : Nat) (w : World) (hb : w.cell? ⟨b, 0, none⟩ = some (.int .i64 s)) (hlt : b < w.heap.size) (h1 : small40 k.party) (h2 : small40 k.serial) (h3 : small40 p) (h4 : small40 s) :
  Calls Tryz.prog 188 #[.agg (kyC k), .int .i64 p, .pointer (some ⟨b, 0, none⟩)] w fun e w' => e = .returned (.int .i64 (cmpK p s k)) ∧ Ext w w' := by
 obtain ⟨a1, a2⟩ := h1
 obtain ⟨b1, b2⟩ := h2
 obtain ⟨c1, c2⟩ := h3
 obtain ⟨d1, d2⟩ := h4
 have HF : Hid (cmpK p s k = if k.party = p then k.serial - s else k.party - p) := lh rfl
 generalize cmpK p s k = R at *
 by_cases h : k.party = p
 ·have e0 : (k.party != p) = false := by simpa using h
  have HF' : Hid (R = k.serial - s) := lh (by rw [HF.out, if_pos h])
  clear HF h
  go_enter Tryz.func188, Tryz.ntmps188
  go_wp2
  go_ret
  exact ⟨ret_int HF'.out.symm, (by (with_reducible repeat first|exact eR _|apply eD|apply eN|apply eA|apply eO|apply eS|apply eC);all_goals first|omega|simp <;> omega)⟩
 ·have e0 : (k.party != p) = true := by simpa using h
  have HF' : Hid (R = k.party - p) := lh (by rw [HF.out, if_neg h])
  clear HF h
  go_enter Tryz.func188, Tryz.ntmps188
  go_wp2
  go_ret
  exact ⟨ret_int HF'.out.symm, (by (with_reducible repeat first|exact eR _|apply eD|apply eN|apply eA|apply eO|apply eS|apply eC);all_goals first|omega|simp <;> omega)⟩
def AtK (l : List Ky) (p s : Int) (i : Nat) : Prop := i ≤ l.length ∧ (∀ t (h : t < l.length), t < i → cmpK p s l[t] < 0) ∧ ∀ t (h : t < l.length), i ≤ t → 0 ≤ cmpK p s l[t]
def MonoK (l : List Ky) (p s : Int) : Prop := ∀ a b (ha : a < l.length) (hb : b < l.length), a < b → cmpK p s l[b] < 0 → cmpK p s l[a] < 0
theorem bsearch_any (A : Option Addr) (c : Nat) (l : List Ky) (p s : Int) (bt : Nat) (w : World) (hl : l.length ≤ 100000) (hr : ReadsKy w w.heap.size A l) (hb : w.cell? ⟨bt, 0, none⟩ = some (.int .i64 s)) (hlb : bt < w.heap.size) (hm : MonoK l p s) (hk : ∀ k ∈ l, small40 k.party ∧ small40 k.serial) (h3 : small40 p) (h4 : small40 s) :
  Calls Tryz.prog 187 #[.slice A l.length c, .int .i64 p, .func (.func 188) #[] #[.pointer (some ⟨bt, 0, none⟩)]] w fun e w' =>
   ∃ (i : Nat) (f : Bool), e = .returned (.tuple #[.int .i64 i, .bool f]) ∧ AtK l p s i ∧ (f = true ↔ ∃ h : i < l.length, cmpK p s l[i] = 0) ∧ Ext w w' := by
 have HR := lh hr
 have HP := lh (fun (j : Nat) (h : j < l.length) (W : World) (hx : Ext w W) => place1k_any l[j] p s bt W ((hx.cell (p := ⟨bt, 0, none⟩) hlb).trans hb) (by have := hx.size; omega) (hk _ (List.getElem_mem h)).1 (hk _ (List.getElem_mem h)).2 h3 h4)
 have HM := lh hm
 clear hr hb hm hk h3 h4
 go_enter Tryz.func187, Tryz.ntmps187
 go_wp2
 go_loopw [9, 10] (fun iv jv wr => ∃ i j : Nat, iv = .int .i64 i ∧ jv = .int .i64 j ∧ i ≤ j ∧ j ≤ l.length ∧ Hid (Ext w wr) ∧ Hid (∀ t (h : t < l.length), t < i → cmpK p s l[t] < 0) ∧ Hid (∀ t (h : t < l.length), j ≤ t → 0 ≤ cmpK p s l[t])) (fun i j _ => (intOf j).toNat - (intOf i).toNat)
 case atStart => exact ⟨0, l.length, rfl, rfl, Nat.zero_le _, Nat.le_refl _, lh (eR _), lh (fun t _ h => absurd h (by omega)), lh (fun t h h' => absurd h (by omega))⟩
 case round =>
  obtain ⟨i, j, rfl, rfl, hij, hj, HX, H1, H2⟩ := hrel
  by_cases hlt : i < j
  ·obtain ⟨h, hh⟩ : ∃ h : Nat, h = (i + j) / 2 := ⟨_, rfl⟩
   have hh1 : i ≤ h := by omega
   have hh2 : h < j := by omega
   obtain ⟨b, off, rfl, hb, hrow⟩ := ReadsKy.row (HR.out.ext HX.out (Nat.le_refl _)) h (by omega)
   have hsz := HX.out.size
   have hb' : b < wr.heap.size := by omega
   have HP1 := lh (HP.out h (by omega))
   have HL : Hid (cmpK p s (l[h]'(by omega)) < 0 → ∀ t (ht : t < l.length), t < h + 1 → cmpK p s l[t] < 0) := lh (fun hc t ht hth => by
    by_cases e : t = h
    ·subst e; exact hc
    ·exact HM.out t h ht (by omega) (by omega) hc)
   have HG : Hid (0 ≤ cmpK p s (l[h]'(by omega)) → ∀ t (ht : t < l.length), h ≤ t → 0 ≤ cmpK p s l[t]) := lh (fun hc t ht hth => by
    by_cases e : t = h
    ·subst e; exact hc
    ·exact Int.not_lt.1 (fun hn => by have := HM.out h t (by omega) ht (by omega) hn; omega))
   generalize hck : cmpK p s (l[h]'(by omega)) = ck at *
   generalize l[h]'(by omega) = kh at *
   subst hh
   by_cases hneg : ck < 0
   ·have d0 : decide (ck < 0) = true := by simpa using hneg
    have HL' := lh (HL.out hneg)
    clear HL HG hck hneg
    go_wp2_with (go_at_call 188; refine (HP1.out _ HX.out).mono ?_; rintro e w' ⟨rfl, hxl⟩; obtain ⟨xl, rfl⟩ := hxl.asLater; clear hxl)
    go_roundw
    case rel => exact ⟨(i + j) / 2 + 1, j, by go_num, rfl, by omega, hj, lh (HX.out.onto _), HL', H2⟩
    case measure => simp [intOf]; omega
   ·have d0 : decide (ck < 0) = false := by simpa using hneg
    have HG' := lh (HG.out (by omega))
    clear HL HG hck hneg
    go_wp2_with (go_at_call 188; refine (HP1.out _ HX.out).mono ?_; rintro e w' ⟨rfl, hxl⟩; obtain ⟨xl, rfl⟩ := hxl.asLater; clear hxl)
    go_roundw
    case rel => exact ⟨i, (i + j) / 2, rfl, by go_num, by omega, by omega, lh (HX.out.onto _), H1, HG'⟩
    case measure => simp [intOf]; omega
  ·have e : i = j := by omega
   subst e
   have hsz := HX.out.size
   by_cases hi : i < l.length
   ·obtain ⟨b, off, rfl, hb, hrow⟩ := ReadsKy.row (HR.out.ext HX.out (Nat.le_refl _)) i hi
    have hb' : b < wr.heap.size := by omega
    have HP1 := lh (HP.out i hi)
    have HQ : Hid (AtK l p s i) := lh ⟨hj, H1.out, H2.out⟩
    have HE : Hid ((cmpK p s l[i] == 0) = true ↔ ∃ h : i < l.length, cmpK p s l[i] = 0) := lh (Iff.intro (fun h => ⟨hi, by simpa using h⟩) (fun h => by obtain ⟨_, h⟩ := h; simpa using h))
    generalize cmpK p s l[i] = ck at *
    generalize l[i] = kh at *
    go_wp2_with (go_at_call 188; refine (HP1.out _ HX.out).mono ?_; rintro e w' ⟨rfl, hxl⟩; obtain ⟨xl, rfl⟩ := hxl.asLater; clear hxl)
    refine bodyPost_ret (v := .tuple #[.int .i64 i, .bool (ck == 0)]) ?_ rfl ⟨i, _, rfl, HQ.out, HE.out, (by (with_reducible repeat first|exact HX.out|exact eR _|apply eD|apply eN|apply eA|apply eO|apply eS|apply eC);all_goals first|omega|simp <;> omega)⟩
    simp [results, Tryz.results187, go_sem, ↓IntWalk.iteOmega]
   ·have HQ : Hid (AtK l p s i) := lh ⟨hj, H1.out, H2.out⟩
    have HE : Hid (false = true ↔ ∃ h : i < l.length, cmpK p s l[i] = 0) := lh (Iff.intro (fun h => by cases h) (fun h => by obtain ⟨h, _⟩ := h; exact absurd h hi))
    clear H1 H2 HP
    go_wp2
    refine bodyPost_ret (v := .tuple #[.int .i64 i, .bool false]) ?_ rfl ⟨i, false, rfl, HQ.out, HE.out, HX.out⟩
    simp [results, Tryz.results187, go_sem, ↓IntWalk.iteOmega]
theorem kplace_any (A : Option Addr) (c : Nat) (l : List Ky) (p s : Int) (w : World) (hl : l.length ≤ 100000) (hr : ReadsKy w w.heap.size A l) (hm : MonoK l p s) (hk : ∀ k ∈ l, small40 k.party ∧ small40 k.serial) (h3 : small40 p) (h4 : small40 s) :
  Calls Tryz.prog 162 #[.slice A l.length c, .int .i64 p, .int .i64 s] w fun e w' =>
   ∃ (i : Nat) (f : Bool), e = .returned (.tuple #[.int .i64 i, .bool f]) ∧ AtK l p s i ∧ (f = true ↔ ∃ h : i < l.length, cmpK p s l[i] = 0) ∧ Ext w w' := by
 have H := lh (bsearch_any A c l p s w.heap.size (w.alloc (.cells #[.int .i64 s] 3)) hl (hr.on ((Ext.refl w).alloc _)) (by rw [alloc_cell_if, if_pos rfl]; rfl) (by simp) hm hk h3 h4)
 clear hr hm hk h3 h4
 go_enter Tryz.func162, Tryz.ntmps162
 go_wp2_with (go_at_call 187; refine H.out.mono ?_; rintro e w' ⟨i, f, rfl, h1, h2, hxl⟩; have H1 := lh h1; have H2 := lh h2; clear h1 h2; obtain ⟨xl, rfl⟩ := hxl.asLater; clear hxl)
 refine bodyPost_ret (v := .tuple #[.int .i64 i, .bool f]) ?_ rfl ⟨i, f, rfl, H1.out, H2.out, (by (with_reducible repeat first|exact eR _|apply eD|apply eN|apply eA|apply eO|apply eS|apply eC);all_goals first|omega|simp <;> omega)⟩
 simp [results, Tryz.results162, go_sem, ↓IntWalk.iteOmega]
theorem ky_loaded {w : World} {b : Nat} {x : Ky} (h : rowOf w b 0 5 = some (kyC x)) : (loadVar 23 ⟨b, 0, none⟩).run Tryz.prog w = .ok (.agg (kyC x)) w := run_loadVar_row ky_ty h
def kyB0 : Sem Next := do pure (.value (← Instr.build 23 #[]))
theorem kyB0_x (ρ : Operand → Value) (dst : Option Tmp) (t : TypeId) (pos : String) (after : Array Edge) (guard : Option (Nat × Bool)) : execOp ρ { dst, op := .build 23 #[], type := t, pos, after, guard } = kyB0 := by kernel_rfl
theorem kyB0_run (W : World) : kyB0.run Tryz.prog W = .ok (.value (.agg (kyC noKy))) W := by kernel_rfl
attribute [go_sem ↓] kyB0_x
attribute [go_sem] kyB0_run
def keyN (l : List Ky) (p s : Int) : Option Ky := l.find? fun k => cmpK p s k == 0
theorem key_at {l : List Ky} {p s : Int} {i : Nat} (ha : AtK l p s i) (hm : ∀ a (h : a < l.length), cmpK p s l[a] = 0 → ∀ b (h' : b < l.length), a < b → 0 < cmpK p s l[b]) (h : i < l.length) (h0 : cmpK p s l[i] = 0) : keyN l p s = some l[i] := by
 unfold keyN
 rw [List.find?_eq_some_iff_getElem]
 refine ⟨by simpa using h0, i, h, rfl, fun j hj => ?_⟩
 have := ha.2.1 j (by omega) hj
 simp
 omega
theorem key_none {l : List Ky} {p s : Int} {i : Nat} (ha : AtK l p s i) (hm : ∀ a (h : a < l.length), cmpK p s l[a] < 0 ∨ cmpK p s l[a] = 0 ∨ 0 < cmpK p s l[a]) (hp : ∀ a b (h : a < l.length) (h' : b < l.length), a < b → 0 < cmpK p s l[a] → 0 < cmpK p s l[b]) (h : ¬ ∃ h : i < l.length, cmpK p s l[i] = 0) : keyN l p s = none := by
 unfold keyN
 rw [List.find?_eq_none]
 intro k hk
 obtain ⟨j, hj, rfl⟩ := List.getElem_of_mem hk
 simp only [beq_iff_eq]
 intro h0
 by_cases hji : j < i
 ·have := ha.2.1 j hj hji; omega
 ·by_cases e : j = i
  ·subst e; exact h ⟨hj, h0⟩
  ·have hlt : i < j := by omega
   have h1 := ha.2.2 i (by omega) (Nat.le_refl _)
   have h2 : cmpK p s (l[i]'(by omega)) ≠ 0 := fun e => h ⟨by omega, e⟩
   have := hp i j (by omega) hj hlt (by omega)
   omega
theorem kfind_hit (A : Option Addr) (c : Nat) (l : List Ky) (p s : Int) (w : World) (hl : l.length ≤ 100000) (hr : ReadsKy w w.heap.size A l) (hm : MonoK l p s) (hk : ∀ k ∈ l, small40 k.party ∧ small40 k.serial) (h3 : small40 p) (h4 : small40 s) :
  Calls Tryz.prog 122 #[.slice A l.length c, .int .i64 p, .int .i64 s] w fun e w' => ∃ i : Nat, AtK l p s i ∧ ((∃ h : i < l.length, cmpK p s l[i] = 0 ∧ e = .returned (.tuple #[.agg (kyC l[i]), .int .i64 0])) ∨ ((¬ ∃ h : i < l.length, cmpK p s l[i] = 0) ∧ e = .returned (.tuple #[.agg (kyC noKy), .int .i64 5]))) ∧ Ext w w' := by
 have H := lh (kplace_any A c l p s (w.alloc (.cells (kyC noKy) 23)) hl (hr.on ((Ext.refl w).alloc _)) hm hk h3 h4)
 have HR := lh hr
 have hft0 := ky_fits noKy
 clear hr hm hk h3 h4
 go_enter Tryz.func122, Tryz.ntmps122
 go_wp2_with (go_at_call 162; refine (show Hid _ from ?_).out)
 refine lh ?_
 refine H.out.mono ?_
 rintro e w1 ⟨i, f, rfl, h1, h2, hx1⟩
 have H1 := lh h1
 have HX1 : Hid (Ext w w1) := lh (((Ext.refl w).alloc _).trans hx1)
 have HRow : Hid (RowAt w1 w.heap.size (kyC noKy)) := lh ((RowAt.new w (kyC noKy) 23).ext hx1)
 have hlr := HRow.out.lt
 have hrm : roomOf w1 w.heap.size 0 5 = true := by rw [HRow.out.room]; rfl
 clear h1 hx1 H
 cases f with
 | true =>
  obtain ⟨hi, h0⟩ := h2.1 rfl
  obtain ⟨b, off, rfl, hb, hrow⟩ := ReadsKy.row (HR.out.ext HX1.out (Nat.le_refl _)) i hi
  have hb' : b < w1.heap.size := by omega
  have HQ : Hid (∃ h : i < l.length, cmpK p s l[i] = 0) := lh ⟨hi, h0⟩
  have hft := ky_fits l[i]
  clear h2 h0
  go_wp2
  refine post_two (v1 := .agg (kyC l[i])) (v2 := .int .i64 0) Tryz.results122 rfl ⟨_, rfl, ky_loaded ((HRow.out.store (ds := kyC l[i]) rfl).all rfl (by omega))⟩ rfl ⟨i, H1.out, .inl (by obtain ⟨h, h0⟩ := HQ.out; exact ⟨h, h0, rfl⟩), Ext.setCells HX1.out (Nat.le_refl _) _ _⟩
 | false =>
  have HN : Hid (¬ ∃ h : i < l.length, cmpK p s l[i] = 0) := lh (fun h => by have := h2.2 h; cases this)
  clear h2
  go_wp2
  refine post_two (v1 := .agg (kyC noKy)) (v2 := .int .i64 5) Tryz.results122 rfl ⟨_, rfl, ky_loaded ((HRow.out.store (ds := kyC noKy) rfl).all rfl (by omega))⟩ rfl ⟨i, H1.out, .inr ⟨HN.out, rfl⟩, Ext.setCells HX1.out (Nat.le_refl _) _ _⟩
def countB (k : Ky) (lo hi : Int) : Bool := decide (0 ≤ lo) && decide (lo ≤ hi) && decide (hi ≤ 1099511627776) && decide (k.fr ≤ lo) && decide (hi < k.upto)
theorem counts_any (k : Ky) (lo hi : Int) (w : World) : Calls Tryz.prog 123 #[.agg (kyC k), .agg #[.int .i64 lo, .int .i64 hi]] w fun e w' => e = .returned (.bool (countB k lo hi)) ∧ Ext w w' := by
 have HF : Hid (countB k lo hi = (decide (0 ≤ lo) && decide (lo ≤ hi) && decide (hi ≤ 1099511627776) && decide (k.fr ≤ lo) && decide (hi < k.upto))) := lh rfl
 generalize countB k lo hi = R at HF ⊢
 go_enter Tryz.func123, Tryz.ntmps123
 go_wp2
 all_goals
  go_ret
  exact ⟨ret_bool (by rw [HF.out]; clear HF; simp [*] <;> omega), (by (with_reducible repeat first|exact eR _|apply eD|apply eN|apply eA|apply eO|apply eS|apply eC);all_goals first|omega|simp <;> omega)⟩
end Go.Proofs.YtpfhmcdcmepfdaaGreatDoor