/- What an argument of type api.Key reads. -/
import Derived.Shelf.Spec.SlicesGrow
import Derived.Shelf.SlGeneric
import Derived.Ground.NamesProg
import Derived.WalkKit
import Derived.WalkSpells
import Derived.WalkLawsBesides
import Derived.Deep.QuietTactic
import Derived.BigQuiet
import Derived.Lib.RowBridge
import Derived.Test.YtpojnhikgjcgmaaGreatDoorEOs
set_option maxRecDepth 100000
set_option maxHeartbeats 64000000
set_option linter.unusedVariables false
set_option linter.unusedSimpArgs false
namespace Go.Proofs
open Go.Shelf
def Tryz.growStr_ren : Go.Shelf.Ren := ⟨fun | 4 => 268 | n => n, fun | 22 => 97 | 25 => 9 | 3 => 3 | 4 => 4 | 9 => 9 | 20 => 20 | 0 => 0 | n => n, fun | n => n⟩
theorem Tryz.growStr : Go.Proofs.Lays8.n4 Tryz.prog Tryz.growStr_ren := {
 mixed := by kernel_rfl
 f4 := ⟨Tryz.f268.name, by decide, Tryz.func268.trans (congrArg some (by kernel_rfl))⟩
 t0 := Tryz.underlying0
 a0 := Tryz.isAgg0
 z0 := Tryz.sizeOf0
 v0 := Tryz.zeroValue0
 t3 := Tryz.underlying3
 a3 := Tryz.isAgg3
 z3 := Tryz.sizeOf3
 v3 := Tryz.zeroValue3
 t4 := Tryz.underlying4
 a4 := Tryz.isAgg4
 z4 := Tryz.sizeOf4
 v4 := Tryz.zeroValue4
 t9 := Tryz.underlying9
 a9 := Tryz.isAgg9
 z9 := Tryz.sizeOf9
 v9 := Tryz.zeroValue9
 t20 := Tryz.underlying20
 a20 := Tryz.isAgg20
 z20 := Tryz.sizeOf20
 v20 := Tryz.zeroValue20
 t22 := Tryz.underlying97
 a22 := Tryz.isAgg97
 z22 := Tryz.sizeOf97
 v22 := Tryz.zeroValue97 }
end Go.Proofs

namespace Go.Proofs.YtpojnhikgjcgmaaGreatDoor
open Go.RowKit Go.Shelf Go.Sort
open Go.Proofs
theorem strInfo : (Tryz.prog.info? 9).map (fun i => (i.zero, i.size, i.bytes)) = some (some (.string ByteArray.empty), 1, 16) := by kernel_rfl
theorem growS_any (n : Nat) (m : Int) (hm : m = n) (w : World) (hn : n * 16 ≤ 140737488355328) :
  Calls Tryz.prog 268 #[.slice none 0 0, .int .i64 m] w fun e w' => ∃ A' c', e = .returned (.slice A' 0 c') ∧ OwnsStr w.heap.size w' A' c' [] ∧ Ext w w' := by
 subst hm
 obtain ⟨i, hi, hz, h1, h2⟩ := info_parts strInfo
 by_cases h0 : n = 0
 ·subst h0
  go_enter Tryz.func268, Tryz.ntmps268
  go_wp2
  go_ret
  exact ⟨none, 0, rfl, Owns.nil _ _ _ _ _, eR _⟩
 ·have hcon := Any8.slices_Grow_grow Tryz.growStr i (.string ByteArray.empty) hi hz (by omega) none 0 0 n [] w (Nat.le_refl _) (by omega) (by rw [h2]; omega) (by omega) (by simp) (fun _ => rfl) (fun a h => by cases h)
  change Calls Tryz.prog 268 _ _ _ at hcon
  refine hcon.mono ?_
  rintro e w' ⟨rfl, rfl⟩
  refine ⟨some ⟨w.heap.size, 0, none⟩, _, rfl, Owns.mk sE (Nat.le_refl _) (heap_alloc_new w.drew _) (Nat.zero_le _) (grownCap_le_maxLen _ _ _ _ (by unfold maxLen; omega)) ?_ (by simp), ((Ext.refl w).drew).alloc _⟩
  have hge := grownCap_ge w (0 + n) 0 (Tryz.growStr_ren.t 25)
  show _ = grownCap w (0 + n) 0 (Tryz.growStr_ren.t 25) * 1
  generalize grownCap w (0 + n) 0 (Tryz.growStr_ren.t 25) = cc at *
  simp [size_zeroCells, Value.cells]
  omega
theorem concat3_any (b : Nat) (A1 A2 A3 : Option Addr) (c1 c2 c3 : Nat) (l1 l2 l3 : List ByteArray) (w : World) (hb : b < w.heap.size) (k1 : w.cell? ⟨b, 0, none⟩ = some (.slice A1 l1.length c1)) (k2 : w.cell? ⟨b, 1, none⟩ = some (.slice A2 l2.length c2)) (k3 : w.cell? ⟨b, 2, none⟩ = some (.slice A3 l3.length c3))
  (r1 : ReadsStr w w.heap.size A1 l1) (r2 : ReadsStr w w.heap.size A2 l2) (r3 : ReadsStr w w.heap.size A3 l3) (z1 : A1 = none → c1 = 0) (z2 : A2 = none → c2 = 0) (z3 : A3 = none → c3 = 0) (hlen : (l1.length + l2.length + l3.length) * 16 ≤ 140737488355328) :
  Calls Tryz.prog 233 #[.slice (some ⟨b, 0, none⟩) 3 3] w fun e w' => ∃ A' c' l', e = .returned (.slice A' l'.length c') ∧ Hid (l' = l1 ++ l2 ++ l3) ∧ OwnsStr w.heap.size w' A' c' l' ∧ Ext w w' := by
 have HR1 := lh r1
 have HR2 := lh r2
 have HR3 := lh r3
 have HZ1 := lh z1
 have HZ2 := lh z2
 have HZ3 := lh z3
 clear r1 r2 r3 z1 z2 z3
 go_enter Tryz.func233, Tryz.ntmps233
 go_wp2
 refine wp_loop_rounds 4 ?_
 rw [rounds_succ]
 go_wp2
 rw [rounds_succ]
 go_wp2
 rw [rounds_succ]
 go_wp2
 rw [rounds_succ]
 go_wp2_with (go_at_call 268; refine (growS_any (l1.length + l2.length + l3.length) _ (by simp) _ (by omega)).mono ?_; rintro e w1 ⟨A9, c9, rfl, ho, hx⟩; have HO := lh ho; have HX := lh hx; have hszx := hx.size; have k1' := (hx.cell (p := ⟨b, 0, none⟩) hb).trans k1; have k2' := (hx.cell (p := ⟨b, 1, none⟩) hb).trans k2; have k3' := (hx.cell (p := ⟨b, 2, none⟩) hb).trans k3; clear ho hx)
 refine wp_loop_rounds 4 ?_
 rw [rounds_succ]
 go_wp2_with (at_builtin; refine app_reads strT sE rfl _ _ rfl w.heap.size A9 c9 [] rfl HO.out w.heap.size A1 c1 l1 rfl (HR1.out.ext HX.out (Nat.le_refl _)) HZ1.out (by simp; omega) (by simp; omega) hszx ?_; intro A4 c4 l4 w4 HL4 HO4 hB4 hl1 hl2 _; have hl1' : l4.length ≤ l1.length := (by simpa using hl1); have HO4' := lh HO4; have HB4 := lh hB4; have k2'' := (hB4.cell (p := ⟨b, 1, none⟩) hb).trans k2'; have k3'' := (hB4.cell (p := ⟨b, 2, none⟩) hb).trans k3'; have hsz4 := hB4.size; clear HO4 hB4)
 rw [rounds_succ]
 go_wp2_with (at_builtin; refine app_reads strT sE rfl _ _ rfl w.heap.size A4 c4 l4 rfl HO4'.out w.heap.size A2 c2 l2 rfl ((HR2.out.ext HX.out (Nat.le_refl _)).below HB4.out) HZ2.out (by omega) (by omega) (by omega) ?_; intro A5 c5 l5 w5 HL5 HO5 hB5 hl3 hl4 _; have HO5' := lh HO5; have HB5 := lh hB5; have k3x := (hB5.cell (p := ⟨b, 2, none⟩) hb).trans k3''; have hsz5 := hB5.size; clear HO5 hB5)
 rw [rounds_succ]
 go_wp2_with (at_builtin; refine app_reads strT sE rfl _ _ rfl w.heap.size A5 c5 l5 rfl HO5'.out w.heap.size A3 c3 l3 rfl (((HR3.out.ext HX.out (Nat.le_refl _)).below HB4.out).below HB5.out) HZ3.out (by omega) (by omega) (by omega) ?_; intro A6 c6 l6 w6 HL6 HO6 hB6 hl5 hl6 _; have HO6' := lh HO6; have HB6 := lh hB6; clear HO6 hB6)
 rw [rounds_succ]
 go_wp2
 go_ret
 exact ⟨A6, c6, l6, rfl, lh (by rw [HL6.out, HL5.out, HL4.out, List.nil_append]), HO6'.out, ((HX.out.grown HB4.out (Nat.le_refl _)).grown HB5.out (Nat.le_refl _)).grown HB6.out (Nat.le_refl _)⟩
end Go.Proofs.YtpojnhikgjcgmaaGreatDoor

namespace Go.Proofs.YtpojnhikgjcgmaaGreatDoor
open Go.RowKit Go.Shelf
open Go.Proofs
structure Ky where
 (party serial : Int)
 secret : ByteArray
 (fr upto : Int)
def kyC (k : Ky) : Array Value := #[.int .i64 k.party, .int .i64 k.serial, .string k.secret, .int .i64 k.fr, .int .i64 k.upto]
def kyL (k : Ky) : List Value := [.int .i64 k.party, .int .i64 k.serial, .string k.secret, .int .i64 k.fr, .int .i64 k.upto]
def noKy : Ky := ⟨0, 0, ByteArray.empty, 0, 0⟩
theorem ky_size (v : Ky) : (kyC v).size = 5 := rfl
theorem ky_all (v : Ky) : rowSub (kyC v) 0 5 = some (kyC v) := rowSub_all _ _ rfl
theorem ky_g0 (v : Ky) : (kyC v)[0]? = some (.int .i64 v.party) := rfl
theorem ky_g1 (v : Ky) : (kyC v)[1]? = some (.int .i64 v.serial) := rfl
theorem ky_g2 (v : Ky) : (kyC v)[2]? = some (.string v.secret) := rfl
theorem ky_g3 (v : Ky) : (kyC v)[3]? = some (.int .i64 v.fr) := rfl
theorem ky_g4 (v : Ky) : (kyC v)[4]? = some (.int .i64 v.upto) := rfl
theorem ky_fits (v : Ky) : fitsRow 5 (kyC v) = true := by simp [fitsRow, kyC, Value.oneCell']
attribute [go_sem] ky_size ky_all ky_g0 ky_g1 ky_g2 ky_g3 ky_g4 ky_fits
theorem ky_ty : RowTy Tryz.prog 44 5 := ⟨by kernel_rfl, by kernel_rfl⟩
theorem ky_ld (w : World) (b o : Nat) : (rowLoad 44 5 (.pointer (some ⟨b, o, none⟩))).run Tryz.prog w = rowLoadR Tryz.prog w 44 5 b o (rowOf w b o 5) := run_rowLoad ky_ty w b o
theorem ky_st (w : World) (b o : Nat) (cells : Array Value) : (rowStore 44 5 (.pointer (some ⟨b, o, none⟩)) (.agg cells)).run Tryz.prog w = rowStoreR Tryz.prog w 44 5 b o cells (roomOf w b o 5 && fitsRow 5 cells) := run_rowStore ky_ty w b o cells
theorem ky_al (w : World) : (rowAlloc 44).run Tryz.prog w = .ok (.value (.pointer (some ⟨w.heap.size, 0, none⟩))) (w.alloc (.cells (kyC noKy) 44)) := run_rowAlloc (by kernel_rfl) w
theorem ky_xl (ρ : Operand → Value) (dst : Option Tmp) (x : Operand) (t : TypeId) (pos : String) (after : Array Edge) (guard : Option (Nat × Bool)) : execOp ρ { dst, op := .load 44 x, type := t, pos, after, guard } = rowLoad 44 5 (ρ x) := rfl
theorem ky_xs (ρ : Operand → Value) (dst : Option Tmp) (x y : Operand) (t : TypeId) (pos : String) (after : Array Edge) (guard : Option (Nat × Bool)) : execOp ρ { dst, op := .store 44 x y, type := t, pos, after, guard } = rowStore 44 5 (ρ x) (ρ y) := rfl
theorem ky_xa (ρ : Operand → Value) (dst : Option Tmp) (t : TypeId) (pos : String) (after : Array Edge) (guard : Option (Nat × Bool)) : execOp ρ { dst, op := .alloc 44, type := t, pos, after, guard } = rowAlloc 44 := rfl
attribute [go_sem ↓] ky_xl ky_xs ky_xa
attribute [go_sem] ky_ld ky_st ky_al
theorem sel_ty : RowTy Tryz.prog 28 16 := ⟨by kernel_rfl, by kernel_rfl⟩
theorem sel_ld (w : World) (b o : Nat) : (rowLoad 28 16 (.pointer (some ⟨b, o, none⟩))).run Tryz.prog w = rowLoadR Tryz.prog w 28 16 b o (rowOf w b o 16) := run_rowLoad sel_ty w b o
theorem sel_st (w : World) (b o : Nat) (cells : Array Value) : (rowStore 28 16 (.pointer (some ⟨b, o, none⟩)) (.agg cells)).run Tryz.prog w = rowStoreR Tryz.prog w 28 16 b o cells (roomOf w b o 16 && fitsRow 16 cells) := run_rowStore sel_ty w b o cells
theorem sel_al (w : World) : (rowAlloc 28).run Tryz.prog w = .ok (.value (.pointer (some ⟨w.heap.size, 0, none⟩))) (w.alloc (.cells (cells8 (zeros32 16)) 28)) := run_rowAlloc (by kernel_rfl) w
theorem sel_xl (ρ : Operand → Value) (dst : Option Tmp) (x : Operand) (t : TypeId) (pos : String) (after : Array Edge) (guard : Option (Nat × Bool)) : execOp ρ { dst, op := .load 28 x, type := t, pos, after, guard } = rowLoad 28 16 (ρ x) := rfl
theorem sel_xs (ρ : Operand → Value) (dst : Option Tmp) (x y : Operand) (t : TypeId) (pos : String) (after : Array Edge) (guard : Option (Nat × Bool)) : execOp ρ { dst, op := .store 28 x y, type := t, pos, after, guard } = rowStore 28 16 (ρ x) (ρ y) := rfl
theorem sel_xa (ρ : Operand → Value) (dst : Option Tmp) (t : TypeId) (pos : String) (after : Array Edge) (guard : Option (Nat × Bool)) : execOp ρ { dst, op := .alloc 28, type := t, pos, after, guard } = rowAlloc 28 := rfl
attribute [go_sem ↓] sel_xl sel_xs sel_xa
attribute [go_sem] sel_ld sel_st sel_al
def readI (ls : List Int) : Soft := ⟨fun v w => ∃ A c, v = .slice A ls.length c ∧ ReadsInt w w.heap.size A ls, fun v w w' ⟨A, c, h1, h2⟩ hx => ⟨A, c, h1, h2.on hx⟩⟩
theorem reads_fresh {α : Type} {size : Nat} {enc : α → List Value} (E : EncTy enc size) (l : List α) (W : World) (cs : Array Value) (t : TypeId) (h : cs.toList = l.flatMap enc) : Reads size enc (W.alloc (.cells cs t)) (W.alloc (.cells cs t)).heap.size (some ⟨W.heap.size, 0, none⟩) l := by
 intro _
 refine ⟨W.heap.size, 0, rfl, by simp, fun i hi j v hv => ?_⟩
 rw [World.cell?_alloc_at _ _ _ _ rfl]
 have hj : j < size := by
  have := (List.getElem?_eq_some_iff.1 hv).1
  rwa [E.len] at this
 have k := E.flat_get l i hi j hj
 rw [hv, ← h] at k
 simpa using k
end Go.Proofs.YtpojnhikgjcgmaaGreatDoor

namespace Go.Proofs.YtpojnhikgjcgmaaGreatDoor
open Go.ChangeShapes Go.WideShapes Go.ChangeAt Go.RowKit Go.Joins Go.Deep
open Go.Proofs
section
variable {H : Type} {enc : TypeId × Value → H} {w : World} {base : Nat} {spare : Nat → Bool} {held : Bool}
theorem ky_of_trod {m : Nat} {L : List Value} {x : DataW H × List MemPlace} (h : DataW.trod enc Tryz.prog w base spare held m 44 L = some x) : ∃ k : Ky, L = kyL k ∧ k.secret.size ≤ maxLen := by
 obtain ⟨xs, n, _, _, hlen, hxl, hg⟩ := DataW.trod_struct Tryz.underlying44 h
 have hC : Tryz.prog.cellsOf 44 = 5 := by kernel_rfl
 have ci : Tryz.prog.cellsOf 3 = 1 := by kernel_rfl
 have cs : Tryz.prog.cellsOf 9 = 1 := by kernel_rfl
 rw [hC] at hlen
 have hx9 : xs.length = 5 := hxl
 have g0 := hg 0 _ rfl
 have g1 := hg 1 _ rfl
 have g2 := hg 2 _ rfl
 have g3 := hg 3 _ rfl
 have g4 := hg 4 _ rfl
 simp only [List.getElem_toArray, List.getElem_cons_succ, List.getElem_cons_zero, ci, cs] at g0 g1 g2 g3 g4
 rw [List.getElem?_eq_getElem (by omega)] at g0 g1 g2 g3 g4
 obtain ⟨n0, e0, _, _⟩ := DataW.trod_int Tryz.underlying3 g0
 obtain ⟨n1, e1, _, _⟩ := DataW.trod_int Tryz.underlying3 g1
 obtain ⟨s2, e2, _, z2⟩ := DataW.trod_string Tryz.underlying9 g2
 obtain ⟨n3, e3, _, _⟩ := DataW.trod_int Tryz.underlying3 g3
 obtain ⟨n4, e4, _, _⟩ := DataW.trod_int Tryz.underlying3 g4
 refine ⟨⟨n0, n1, s2, n3, n4⟩, ?_, z2⟩
 have e : L = L.drop 0 := rfl
 rw [e, seg e0, seg e1, seg e2, seg e3, seg e4, List.drop_eq_nil_of_le (show L.length ≤ 4 + 1 by omega)]
 rfl
theorem open_key {r : Reach} {b0 : Nat} {v : Value} {d : DataW H} {p : List MemPlace} (hv : Value.okWide Tryz.prog w r b0 44 v) (h : DataW.Trod enc Tryz.prog w base spare held 44 v d p) :
  ∃ k : Ky, v = .agg (kyC k) ∧ k.secret.size ≤ maxLen := by
 obtain ⟨cs, rfl, hsz⟩ := okWide_struct Tryz.underlying44 hv
 obtain ⟨fuel, hf⟩ := h
 obtain ⟨k, e0, l1⟩ := ky_of_trod hf
 have hcs : cs = kyC k := by
  apply Array.toList_inj.1
  exact e0
 exact ⟨k, by rw [hcs], l1⟩
end
end Go.Proofs.YtpojnhikgjcgmaaGreatDoor