/- Walks of the hash: one block. -/
import Derived.WalkKit
import Derived.WalkSpells
import Derived.WalkLawsBesides
import Derived.Deep.QuietTactic
import Derived.BigQuiet
import Derived.LoopTactic
import Derived.Test.YtmgekdggahoboaaGreatDoorVSla
import Derived.Deep.CutRange
import Derived.BigRegion
set_option maxRecDepth 100000
set_option maxHeartbeats 64000000
set_option linter.unusedVariables false
set_option linter.unusedSimpArgs false
namespace Go.Proofs.YtmgekdggahoboaaGreatDoor
open Go.RowKit
open Go.Proofs
def zeros32 (n : Nat) : List Int := List.replicate n 0
theorem zeros32_length (n : Nat) : (zeros32 n).length = n := by simp [zeros32]
def s8l (s : Sha.S8) : List Int := [s.a, s.b, s.c, s.d, s.e, s.f, s.g, s.h]
def v4l (s : Sha.S8) : List Int := [s.a, s.b, s.c, s.d]
def e4l (s : Sha.S8) : List Int := [s.e, s.f, s.g, s.h]
theorem s8l_length (s : Sha.S8) : (s8l s).length = 8 := rfl
theorem v4l_length (s : Sha.S8) : (v4l s).length = 4 := rfl
theorem e4l_length (s : Sha.S8) : (e4l s).length = 4 := rfl
theorem sub_v4 (s : Sha.S8) : rowSub (cells32 (s8l s)) 0 4 = some (cells32 (v4l s)) := rfl
theorem sub_e4 (s : Sha.S8) : rowSub (cells32 (s8l s)) 4 4 = some (cells32 (e4l s)) := rfl
attribute [go_sem] zeros32_length s8l_length v4l_length e4l_length sub_v4 sub_e4 Sha.sched_length
theorem fits4 (a b c d : Int) : fitsRow 4 #[.int .u32 a, .int .u32 b, .int .u32 c, .int .u32 d] = true := by simp [fitsRow, Value.oneCell']
theorem fits8w (a b c d e f g h : Int) : fitsRow 8 #[.int .u32 a, .int .u32 b, .int .u32 c, .int .u32 d, .int .u32 e, .int .u32 f, .int .u32 g, .int .u32 h] = true := by simp [fitsRow, Value.oneCell']
attribute [go_sem] fits4 fits8w
theorem max_xor (x : Int) : bits .xor .u32 IntKind.u32.max x = bits .xor .u32 x 4294967295 := by
 have : IntKind.u32.max = 4294967295 := by decide
 rw [this]
 simp [bits, BitVec.xor_comm]
def upd (s v : Sha.S8) : Nat → Sha.S8
 | 0 => s
 | 1 => { s with a := Sha.add s.a v.a, e := Sha.add s.e v.e }
 | 2 => { s with a := Sha.add s.a v.a, e := Sha.add s.e v.e, b := Sha.add s.b v.b, f := Sha.add s.f v.f }
 | 3 => { s with a := Sha.add s.a v.a, e := Sha.add s.e v.e, b := Sha.add s.b v.b, f := Sha.add s.f v.f, c := Sha.add s.c v.c, g := Sha.add s.g v.g }
 | _ => Sha.addS s v
theorem upd_step (s v : Sha.S8) : ∀ k, k < 4 → ((s8l (upd s v k)).set k (((s8l (upd s v k)).getD k 0 + (v4l v).getD k 0) % 4294967296)).set (k + 4) (((s8l (upd s v k)).getD (k + 4) 0 + (e4l v).getD k 0) % 4294967296) = s8l (upd s v (k + 1))
 | 0, _ => rfl
 | 1, _ => rfl
 | 2, _ => rfl
 | 3, _ => rfl
 | n + 4, h => by omega
def zeroS : Sha.S8 := ⟨0, 0, 0, 0, 0, 0, 0, 0⟩
def stC (s : Sha.S8) (blk : List Int) (n : Int) : Array Value := cells32 (s8l s) ++ cells8 blk ++ #[.int .u64 n]
theorem stC_size {s : Sha.S8} {blk : List Int} {n : Int} (h : blk.length = 64) : (stC s blk n).size = 73 := by simp [stC, cells32_size, cells8_size, h, s8l_length]
theorem w64_ty : RowTy Tryz.prog 329 64 := ⟨by kernel_rfl, by kernel_rfl⟩
theorem w64_ld (w : World) (b o : Nat) : (rowLoad 329 64 (.pointer (some ⟨b, o, none⟩))).run Tryz.prog w = rowLoadR Tryz.prog w 329 64 b o (rowOf w b o 64) := run_rowLoad w64_ty w b o
theorem w64_st (w : World) (b o : Nat) (cells : Array Value) : (rowStore 329 64 (.pointer (some ⟨b, o, none⟩)) (.agg cells)).run Tryz.prog w = rowStoreR Tryz.prog w 329 64 b o cells (roomOf w b o 64 && fitsRow 64 cells) := run_rowStore w64_ty w b o cells
theorem w64_al (w : World) : (rowAlloc 329).run Tryz.prog w = .ok (.value (.pointer (some ⟨w.heap.size, 0, none⟩))) (w.alloc (.cells (cells32 (zeros32 64)) 329)) := run_rowAlloc (by kernel_rfl) w
theorem w64_xl (ρ : Operand → Value) (dst : Option Tmp) (x : Operand) (t : TypeId) (pos : String) (after : Array Edge) (guard : Option (Nat × Bool)) : execOp ρ { dst, op := .load 329 x, type := t, pos, after, guard } = rowLoad 329 64 (ρ x) := rfl
theorem w64_xs (ρ : Operand → Value) (dst : Option Tmp) (x y : Operand) (t : TypeId) (pos : String) (after : Array Edge) (guard : Option (Nat × Bool)) : execOp ρ { dst, op := .store 329 x y, type := t, pos, after, guard } = rowStore 329 64 (ρ x) (ρ y) := rfl
theorem w64_xa (ρ : Operand → Value) (dst : Option Tmp) (t : TypeId) (pos : String) (after : Array Edge) (guard : Option (Nat × Bool)) : execOp ρ { dst, op := .alloc 329, type := t, pos, after, guard } = rowAlloc 329 := rfl
attribute [go_sem ↓] w64_xl w64_xs w64_xa
attribute [go_sem] w64_ld w64_st w64_al
theorem w8_ty : RowTy Tryz.prog 258 8 := ⟨by kernel_rfl, by kernel_rfl⟩
theorem w8_ld (w : World) (b o : Nat) : (rowLoad 258 8 (.pointer (some ⟨b, o, none⟩))).run Tryz.prog w = rowLoadR Tryz.prog w 258 8 b o (rowOf w b o 8) := run_rowLoad w8_ty w b o
theorem w8_st (w : World) (b o : Nat) (cells : Array Value) : (rowStore 258 8 (.pointer (some ⟨b, o, none⟩)) (.agg cells)).run Tryz.prog w = rowStoreR Tryz.prog w 258 8 b o cells (roomOf w b o 8 && fitsRow 8 cells) := run_rowStore w8_ty w b o cells
theorem w8_al (w : World) : (rowAlloc 258).run Tryz.prog w = .ok (.value (.pointer (some ⟨w.heap.size, 0, none⟩))) (w.alloc (.cells (cells32 (zeros32 8)) 258)) := run_rowAlloc (by kernel_rfl) w
theorem w8_xl (ρ : Operand → Value) (dst : Option Tmp) (x : Operand) (t : TypeId) (pos : String) (after : Array Edge) (guard : Option (Nat × Bool)) : execOp ρ { dst, op := .load 258 x, type := t, pos, after, guard } = rowLoad 258 8 (ρ x) := rfl
theorem w8_xs (ρ : Operand → Value) (dst : Option Tmp) (x y : Operand) (t : TypeId) (pos : String) (after : Array Edge) (guard : Option (Nat × Bool)) : execOp ρ { dst, op := .store 258 x y, type := t, pos, after, guard } = rowStore 258 8 (ρ x) (ρ y) := rfl
theorem w8_xa (ρ : Operand → Value) (dst : Option Tmp) (t : TypeId) (pos : String) (after : Array Edge) (guard : Option (Nat × Bool)) : execOp ρ { dst, op := .alloc 258, type := t, pos, after, guard } = rowAlloc 258 := rfl
attribute [go_sem ↓] w8_xl w8_xs w8_xa
attribute [go_sem] w8_ld w8_st w8_al
theorem w4_ty : RowTy Tryz.prog 353 4 := ⟨by kernel_rfl, by kernel_rfl⟩
theorem w4_ld (w : World) (b o : Nat) : (rowLoad 353 4 (.pointer (some ⟨b, o, none⟩))).run Tryz.prog w = rowLoadR Tryz.prog w 353 4 b o (rowOf w b o 4) := run_rowLoad w4_ty w b o
theorem w4_st (w : World) (b o : Nat) (cells : Array Value) : (rowStore 353 4 (.pointer (some ⟨b, o, none⟩)) (.agg cells)).run Tryz.prog w = rowStoreR Tryz.prog w 353 4 b o cells (roomOf w b o 4 && fitsRow 4 cells) := run_rowStore w4_ty w b o cells
theorem w4_al (w : World) : (rowAlloc 353).run Tryz.prog w = .ok (.value (.pointer (some ⟨w.heap.size, 0, none⟩))) (w.alloc (.cells (cells32 (zeros32 4)) 353)) := run_rowAlloc (by kernel_rfl) w
theorem w4_xl (ρ : Operand → Value) (dst : Option Tmp) (x : Operand) (t : TypeId) (pos : String) (after : Array Edge) (guard : Option (Nat × Bool)) : execOp ρ { dst, op := .load 353 x, type := t, pos, after, guard } = rowLoad 353 4 (ρ x) := rfl
theorem w4_xs (ρ : Operand → Value) (dst : Option Tmp) (x y : Operand) (t : TypeId) (pos : String) (after : Array Edge) (guard : Option (Nat × Bool)) : execOp ρ { dst, op := .store 353 x y, type := t, pos, after, guard } = rowStore 353 4 (ρ x) (ρ y) := rfl
theorem w4_xa (ρ : Operand → Value) (dst : Option Tmp) (t : TypeId) (pos : String) (after : Array Edge) (guard : Option (Nat × Bool)) : execOp ρ { dst, op := .alloc 353, type := t, pos, after, guard } = rowAlloc 353 := rfl
attribute [go_sem ↓] w4_xl w4_xs w4_xa
attribute [go_sem] w4_ld w4_st w4_al
theorem b32_ty : RowTy Tryz.prog 264 32 := ⟨by kernel_rfl, by kernel_rfl⟩
theorem b32_ld (w : World) (b o : Nat) : (rowLoad 264 32 (.pointer (some ⟨b, o, none⟩))).run Tryz.prog w = rowLoadR Tryz.prog w 264 32 b o (rowOf w b o 32) := run_rowLoad b32_ty w b o
theorem b32_st (w : World) (b o : Nat) (cells : Array Value) : (rowStore 264 32 (.pointer (some ⟨b, o, none⟩)) (.agg cells)).run Tryz.prog w = rowStoreR Tryz.prog w 264 32 b o cells (roomOf w b o 32 && fitsRow 32 cells) := run_rowStore b32_ty w b o cells
theorem b32_al (w : World) : (rowAlloc 264).run Tryz.prog w = .ok (.value (.pointer (some ⟨w.heap.size, 0, none⟩))) (w.alloc (.cells (cells8 (zeros32 32)) 264)) := run_rowAlloc (by kernel_rfl) w
theorem b32_xl (ρ : Operand → Value) (dst : Option Tmp) (x : Operand) (t : TypeId) (pos : String) (after : Array Edge) (guard : Option (Nat × Bool)) : execOp ρ { dst, op := .load 264 x, type := t, pos, after, guard } = rowLoad 264 32 (ρ x) := rfl
theorem b32_xs (ρ : Operand → Value) (dst : Option Tmp) (x y : Operand) (t : TypeId) (pos : String) (after : Array Edge) (guard : Option (Nat × Bool)) : execOp ρ { dst, op := .store 264 x y, type := t, pos, after, guard } = rowStore 264 32 (ρ x) (ρ y) := rfl
theorem b32_xa (ρ : Operand → Value) (dst : Option Tmp) (t : TypeId) (pos : String) (after : Array Edge) (guard : Option (Nat × Bool)) : execOp ρ { dst, op := .alloc 264, type := t, pos, after, guard } = rowAlloc 264 := rfl
attribute [go_sem ↓] b32_xl b32_xs b32_xa
attribute [go_sem] b32_ld b32_st b32_al
theorem dig_ty : RowTy Tryz.prog 43 16 := ⟨by kernel_rfl, by kernel_rfl⟩
theorem dig_ld (w : World) (b o : Nat) : (rowLoad 43 16 (.pointer (some ⟨b, o, none⟩))).run Tryz.prog w = rowLoadR Tryz.prog w 43 16 b o (rowOf w b o 16) := run_rowLoad dig_ty w b o
theorem dig_st (w : World) (b o : Nat) (cells : Array Value) : (rowStore 43 16 (.pointer (some ⟨b, o, none⟩)) (.agg cells)).run Tryz.prog w = rowStoreR Tryz.prog w 43 16 b o cells (roomOf w b o 16 && fitsRow 16 cells) := run_rowStore dig_ty w b o cells
theorem dig_al (w : World) : (rowAlloc 43).run Tryz.prog w = .ok (.value (.pointer (some ⟨w.heap.size, 0, none⟩))) (w.alloc (.cells (cells8 (zeros32 16)) 43)) := run_rowAlloc (by kernel_rfl) w
theorem dig_xl (ρ : Operand → Value) (dst : Option Tmp) (x : Operand) (t : TypeId) (pos : String) (after : Array Edge) (guard : Option (Nat × Bool)) : execOp ρ { dst, op := .load 43 x, type := t, pos, after, guard } = rowLoad 43 16 (ρ x) := rfl
theorem dig_xs (ρ : Operand → Value) (dst : Option Tmp) (x y : Operand) (t : TypeId) (pos : String) (after : Array Edge) (guard : Option (Nat × Bool)) : execOp ρ { dst, op := .store 43 x y, type := t, pos, after, guard } = rowStore 43 16 (ρ x) (ρ y) := rfl
theorem dig_xa (ρ : Operand → Value) (dst : Option Tmp) (t : TypeId) (pos : String) (after : Array Edge) (guard : Option (Nat × Bool)) : execOp ρ { dst, op := .alloc 43, type := t, pos, after, guard } = rowAlloc 43 := rfl
attribute [go_sem ↓] dig_xl dig_xs dig_xa
attribute [go_sem] dig_ld dig_st dig_al
theorem strm_ty : RowTy Tryz.prog 261 73 := ⟨by kernel_rfl, by kernel_rfl⟩
theorem strm_ld (w : World) (b o : Nat) : (rowLoad 261 73 (.pointer (some ⟨b, o, none⟩))).run Tryz.prog w = rowLoadR Tryz.prog w 261 73 b o (rowOf w b o 73) := run_rowLoad strm_ty w b o
theorem strm_st (w : World) (b o : Nat) (cells : Array Value) : (rowStore 261 73 (.pointer (some ⟨b, o, none⟩)) (.agg cells)).run Tryz.prog w = rowStoreR Tryz.prog w 261 73 b o cells (roomOf w b o 73 && fitsRow 73 cells) := run_rowStore strm_ty w b o cells
theorem strm_al (w : World) : (rowAlloc 261).run Tryz.prog w = .ok (.value (.pointer (some ⟨w.heap.size, 0, none⟩))) (w.alloc (.cells (stC zeroS (zeros32 64) 0) 261)) := run_rowAlloc (by kernel_rfl) w
theorem strm_xl (ρ : Operand → Value) (dst : Option Tmp) (x : Operand) (t : TypeId) (pos : String) (after : Array Edge) (guard : Option (Nat × Bool)) : execOp ρ { dst, op := .load 261 x, type := t, pos, after, guard } = rowLoad 261 73 (ρ x) := rfl
theorem strm_xs (ρ : Operand → Value) (dst : Option Tmp) (x y : Operand) (t : TypeId) (pos : String) (after : Array Edge) (guard : Option (Nat × Bool)) : execOp ρ { dst, op := .store 261 x y, type := t, pos, after, guard } = rowStore 261 73 (ρ x) (ρ y) := rfl
theorem strm_xa (ρ : Operand → Value) (dst : Option Tmp) (t : TypeId) (pos : String) (after : Array Edge) (guard : Option (Nat × Bool)) : execOp ρ { dst, op := .alloc 261, type := t, pos, after, guard } = rowAlloc 261 := rfl
attribute [go_sem ↓] strm_xl strm_xs strm_xa
attribute [go_sem] strm_ld strm_st strm_al
theorem w4_at (w : World) (a : Option Addr) (len cap : Nat) : (Instr.arrayAt 353 (.slice a len cap)).run Tryz.prog w = if 4 ≤ len then .ok (.pointer a) w else arrRaw Tryz.prog 353 w a len cap := arr_at (e := 257) (by kernel_rfl) w a len cap
theorem dig_at (w : World) (a : Option Addr) (len cap : Nat) : (Instr.arrayAt 43 (.slice a len cap)).run Tryz.prog w = if 16 ≤ len then .ok (.pointer a) w else arrRaw Tryz.prog 43 w a len cap := arr_at (e := 5) (by kernel_rfl) w a len cap
attribute [go_sem] w4_at dig_at
theorem schedule_ok (bs : List Int) (b off c : Nat) (w : World) (hcap : 64 ≤ c) (hb : b < w.heap.size) (hby : ∀ i, i < 64 → 0 ≤ bs.getD i 0 ∧ bs.getD i 0 < 256) (hc : ∀ i, i < 64 → w.cell? ⟨b, off + i, none⟩ = some (.int .u8 (bs.getD i 0))) :
  Calls Tryz.prog 276 #[.slice (some ⟨b, off, none⟩) 64 c] w fun e w' => e = .returned (.agg (cells32 (Sha.sched bs))) ∧ Ext w w' := by
 have HC := lh hc
 have HB := lh hby
 clear hc hby
 go_enter Tryz.func276, Tryz.ntmps276
 go_wp2
 go_loopw [11] (fun i wr => ∃ t : Nat, t ≤ 64 ∧ i = .int .i64 t ∧ Ext w wr ∧ RowAt wr w.heap.size (cells32 (zeros32 64)) ∧ RowAt wr (w.heap.size + 1) (cells32 (Sha.part bs t))) (fun i _ => 64 - (intOf i).toNat)
 case atStart => exact ⟨0, by omega, rfl, (by (repeat (first | with_reducible exact eR _ | with_reducible refine Ext.drew ?_ | with_reducible refine Ext.drewN ?_ _ | with_reducible refine Ext.alloc ?_ _ | with_reducible refine Ext.onto ?_ _ | with_reducible refine Ext.setCell ?_ ?_ _)); all_goals (simp; try omega)), (RowAt.new _ _ _).alloc _, by have := RowAt.new (w.alloc (.cells (cells32 (zeros32 64)) 329)) (cells32 (zeros32 64)) 329; rw [World.size_alloc] at this; exact this⟩
 case round =>
  obtain ⟨t, ht, rfl, hx, h2, h3⟩ := hrel
  have HX := lh hx
  have H2 := lh h2
  have H3 := lh h3
  have hl3 := h3.lt
  have hc3 : ∀ i, wr.cell? ⟨w.heap.size + 1, i, none⟩ = if i < 64 then some (.int .u32 ((Sha.part bs t).getD i 0)) else none := fun i => by rw [h3.cell, cells32_get, Sha.part_length bs ht]
  have hf3 : ∀ i, wr.frozen? ⟨w.heap.size + 1, i, none⟩ = false := h3.free
  clear hx h2 h3
  by_cases h64 : t < 64
  ·by_cases h16 : t < 16
   ·go_wp2
    go_loopw [24] (fun i wq => ∃ k : Nat, k ≤ 4 ∧ i = .int .i64 k ∧ Ext w wq ∧ RowAt wq w.heap.size (cells32 (zeros32 64)) ∧ RowAt wq (w.heap.size + 1) (cells32 ((Sha.part bs t).set t (Sha.fold4 bs t k)))) (fun i _ => 4 - (intOf i).toNat)
    case atStart => exact ⟨0, by omega, rfl, HX.out, H2.out, by rw [show Sha.fold4 bs t 0 = (Sha.part bs t).getD t 0 from (Sha.part_at bs t).symm, list_set_getD]; exact H3.out⟩
    case round =>
     obtain ⟨k, hk, rfl, hx', h2', h3'⟩ := hrel
     have HX' := lh hx'
     have H2' := lh h2'
     have H3' := lh h3'
     have hl3' := h3'.lt
     have hct : wr.cell? ⟨w.heap.size + 1, t, none⟩ = some (.int .u32 (Sha.fold4 bs t k)) := by
      rw [h3'.cell, cells32_get, List.length_set, Sha.part_length bs ht, if_pos h64]
      simp [Sha.part_length bs ht, h64]
     have hft : ∀ i, wr.frozen? ⟨w.heap.size + 1, i, none⟩ = false := h3'.free
     clear hx' h2' h3' hc3 hf3
     by_cases hk4 : k < 4
     ·have hbc : wr.cell? ⟨b, off + 4 * t + k, none⟩ = some (.int .u8 (bs.getD (4 * t + k) 0)) := by
       rw [Nat.add_assoc]; exact (HX'.out.cell hb).trans (HC.out _ (by omega))
      have hbb := HB.out (4 * t + k) (by omega)
      have hfb := Sha.fold4_24 bs t HB.out h16 k hk4
      have HJ := lh (Sha.fold4_join' bs t HB.out h16 k hk4)
      go_wp2
      go_roundw
      case rel =>
       refine ⟨k + 1, by omega, by go_num, HX'.out.setCell (by simp) _, H2'.out.other (by simp) _, H3'.out.set32 ?_⟩
       rw [List.set_set, HJ.out]
      case measure => simp [intOf]; omega
     ·have e4 : k = 4 := by omega
      subst e4
      have HP := lh (Sha.part_set bs h64 (Sha.upTo_low bs h16))
      rw [← Sha.fold4_all] at HP
      clear hct hft
      go_wp2
      go_roundw
      case rel => exact ⟨t + 1, by omega, by go_num, HX'.out, H2'.out, by rw [← HP.out]; exact H3'.out⟩
      case measure => simp [intOf]; omega
   ·go_wp2
    refine wp_region_later (by kernel_rfl) (by kernel_rfl) ?_
    repeat (first | go_big_quiet_step (fail) | quiet_step (fail))
    refine wpQuiet_nil ?_
    rintro _ ⟨xq, rfl⟩
    go_wp2_with (go_at_call 294; (first | with_reducible refine (rotl7 _ _).mono ?_ | with_reducible refine (rotl18 _ _).mono ?_ | with_reducible refine (rotl17 _ _).mono ?_ | with_reducible refine (rotl19 _ _).mono ?_); rintro e w' ⟨rfl, rfl⟩)
    refine wp_region_later_tail 15 (by kernel_rfl) (by kernel_rfl) ?_
    simp only [List.take_succ_cons, List.take_zero, List.drop_succ_cons, List.drop_zero]
    repeat (first | go_big_quiet_step (fail) | quiet_step (fail))
    refine wpQuiet_nil ?_
    rintro _ ⟨xq, rfl⟩
    go_wp2
    go_roundw
    case rel =>
     refine ⟨t + 1, by omega, by go_num, (by (repeat (first | with_reducible exact HX.out | with_reducible refine Ext.drew ?_ | with_reducible refine Ext.drewN ?_ _ | with_reducible refine Ext.alloc ?_ _ | with_reducible refine Ext.onto ?_ _ | with_reducible refine Ext.setCell ?_ ?_ _)); all_goals (simp; try omega)), ?_, ?_⟩
     ·exact (H2.out.ext (by (repeat (first | with_reducible exact eR _ | with_reducible refine Ext.drew ?_ | with_reducible refine Ext.drewN ?_ _ | with_reducible refine Ext.alloc ?_ _ | with_reducible refine Ext.onto ?_ _ | with_reducible refine Ext.setCell ?_ ?_ _)); all_goals (simp; try omega))).other (by simp) _
     ·refine (H3.out.ext (by (repeat (first | with_reducible exact eR _ | with_reducible refine Ext.drew ?_ | with_reducible refine Ext.drewN ?_ _ | with_reducible refine Ext.alloc ?_ _ | with_reducible refine Ext.onto ?_ _ | with_reducible refine Ext.setCell ?_ ?_ _)); all_goals (simp; try omega))).set32 ?_
      rw [← Sha.part_set bs h64 (Sha.upTo_high bs (by omega)), Sha.next_part bs (by omega)]
      simp only [List.getD_eq_getElem?_getD, Sha.add, Sha.sm0, Sha.sm1, Sha.xor]
      congr 1
      omega
    case measure => simp [intOf]; omega
  ·have e64 : t = 64 := by omega
   subst e64
   have r3 : rowOf wr (w.heap.size + 1) 0 64 = some (cells32 (Sha.sched bs)) := by
    have := H3.out.row 0 64
    rw [Sha.part_all, if_neg (by omega), cells32_sub _ _ (Sha.sched_length bs).symm] at this
    exact this
   have r2 : roomOf wr w.heap.size 0 64 = true := by rw [H2.out.room]; simp [cells32_size, zeros32_length]
   have f2 : fitsRow 64 (cells32 (Sha.sched bs)) = true := fits32 (Sha.sched_length bs)
   have hl2 := H2.out.lt
   go_wp2
   have r2' := H2.out.stored (n := 64) (ds := cells32 (Sha.sched bs)) (by rw [cells32_size, cells32_size, Sha.sched_length, zeros32_length]) (by rw [cells32_size, Sha.sched_length]) (by omega)
   exact post_row w64_ty Tryz.results276 rfl rfl r2' ⟨rfl, (HX.out).setCells (Nat.le_refl _) _ _⟩
def Konst (g : Nat) (w : World) : Prop := RowAt w g (cells32 Sha.K)
theorem K_length : Sha.K.length = 64 := rfl
theorem compress_ok (s : Sha.S8) (bs : List Int) (b off c : Nat) (w : World) (hs : s.ok) (hk : Konst 4 w) (hcap : 64 ≤ c) (hb : b < w.heap.size) (hby : ∀ i, i < 64 → 0 ≤ bs.getD i 0 ∧ bs.getD i 0 < 256) (hc : ∀ i, i < 64 → w.cell? ⟨b, off + i, none⟩ = some (.int .u8 (bs.getD i 0))) :
  Calls Tryz.prog 236 #[.agg (cells32 (s8l s)), .slice (some ⟨b, off, none⟩) 64 c] w fun e w' => e = .returned (.agg (cells32 (s8l (Sha.comp s bs)))) ∧ Ext w w' := by
 have HC := lh hc
 have HB := lh hby
 have HK := lh hk
 have HS := lh hs
 have hgl := hk.lt
 have hgr : rowOf w 4 0 64 = some (cells32 Sha.K) := by rw [hk.row, if_neg (by omega), cells32_sub _ _ K_length.symm]
 clear hc hby hk hs
 go_enter Tryz.func236, Tryz.ntmps236
 go_upto_region 2 with (go_at_call 276; refine (schedule_ok bs b off c _ hcap (by simp; omega) HB.out (fun i hi => by simp only [go_sem]; rw [if_neg (by simp; omega), if_neg (by omega)]; exact HC.out i hi)).mono ?_; rintro e w' ⟨rfl, hxl⟩; obtain ⟨xl, rfl⟩ := hxl.asLater; clear hxl)
 refine wp_world (fun W => W.heap.size = w.heap.size + 3 + xl.n ∧ Ext w W ∧ RowAt W w.heap.size (cells32 (s8l s)) ∧ RowAt W (w.heap.size + 1) (cells32 (zeros32 8)) ∧ RowAt W (w.heap.size + 1 + 1 + xl.n) (cells32 (Sha.sched bs)))
  ⟨by simp [setCells_size, later_size]; omega, (by (with_reducible repeat first|exact eR _|apply eD|apply eN|apply eA|apply eO|apply eS|apply eC);all_goals first|omega|simp <;> omega), (by (repeat (first | with_reducible exact rfl | with_reducible refine RowAt.drew ?_ | with_reducible refine RowAt.later ?_ _ | with_reducible exact RowAt.newAt (by first | rfl | omega | (simp [later_size, setCells_size]; done) | (simp [later_size, setCells_size]; omega)) | with_reducible refine RowAt.alloc ?_ _ | with_reducible apply RowAt.store | with_reducible refine RowAt.others ?_ ?_ _ _ | with_reducible refine RowAt.other ?_ ?_ _)); all_goals first | omega | (simp; done) | (simp; omega) | (simp [go_sem]; done)), (by (repeat (first | with_reducible exact rfl | with_reducible refine RowAt.drew ?_ | with_reducible refine RowAt.later ?_ _ | with_reducible exact RowAt.newAt (by first | rfl | omega | (simp [later_size, setCells_size]; done) | (simp [later_size, setCells_size]; omega)) | with_reducible refine RowAt.alloc ?_ _ | with_reducible apply RowAt.store | with_reducible refine RowAt.others ?_ ?_ _ _ | with_reducible refine RowAt.other ?_ ?_ _)); all_goals first | omega | (simp; done) | (simp; omega) | (simp [go_sem]; done)), (by (repeat (first | with_reducible exact rfl | with_reducible refine RowAt.drew ?_ | with_reducible refine RowAt.later ?_ _ | with_reducible exact RowAt.newAt (by first | rfl | omega | (simp [later_size, setCells_size]; done) | (simp [later_size, setCells_size]; omega)) | with_reducible refine RowAt.alloc ?_ _ | with_reducible apply RowAt.store | with_reducible refine RowAt.others ?_ ?_ _ _ | with_reducible refine RowAt.other ?_ ?_ _)); all_goals first | omega | (simp; done) | (simp; omega) | (simp [go_sem]; done))⟩ ?_
 rintro W ⟨hsz, hx, h1, h2, h3⟩
 have HX := lh hx
 have H1 := lh h1
 have H2 := lh h2
 have H3 := lh h3
 have r1 := h1.row
 have hgr' : rowOf W 4 0 64 = some (cells32 Sha.K) := (HK.out.ext hx).all (by rw [cells32_size, K_length]) (by omega)
 clear hx h1 h2 h3 hgr
 go_region
 ·
  go_wp2
  go_loopw [22] (fun i wr => ∃ t : Nat, t ≤ 64 ∧ i = .int .i64 t ∧ Ext w wr ∧ RowAt wr w.heap.size (cells32 (s8l s)) ∧ RowAt wr (w.heap.size + 1) (cells32 (zeros32 8)) ∧ RowAt wr (w.heap.size + 1 + 1 + xl.n) (cells32 (Sha.sched bs)) ∧
   RowAt wr (w.heap.size + 3 + xl.n) (cells32 (v4l (Sha.rounds (Sha.sched bs) s t))) ∧ RowAt wr (w.heap.size + 3 + xl.n + 1) (cells32 (e4l (Sha.rounds (Sha.sched bs) s t)))) (fun i _ => 64 - (intOf i).toNat)
  case atStart => exact ⟨0, by omega, rfl, (by (with_reducible repeat first|exact HX.out|exact eR _|apply eD|apply eN|apply eA|apply eO|apply eS|apply eC);all_goals first|omega|simp <;> omega), (by (repeat (first | with_reducible exact H1.out | with_reducible refine RowAt.drew ?_ | with_reducible refine RowAt.later ?_ _ | with_reducible exact RowAt.newAt (by first | rfl | omega | (simp [later_size, setCells_size]; done) | (simp [later_size, setCells_size]; omega)) | with_reducible refine RowAt.alloc ?_ _ | with_reducible apply RowAt.store | with_reducible refine RowAt.others ?_ ?_ _ _ | with_reducible refine RowAt.other ?_ ?_ _)); all_goals first | omega | (simp; done) | (simp; omega) | (simp [go_sem]; done)), (by (repeat (first | with_reducible exact H2.out | with_reducible refine RowAt.drew ?_ | with_reducible refine RowAt.later ?_ _ | with_reducible exact RowAt.newAt (by first | rfl | omega | (simp [later_size, setCells_size]; done) | (simp [later_size, setCells_size]; omega)) | with_reducible refine RowAt.alloc ?_ _ | with_reducible apply RowAt.store | with_reducible refine RowAt.others ?_ ?_ _ _ | with_reducible refine RowAt.other ?_ ?_ _)); all_goals first | omega | (simp; done) | (simp; omega) | (simp [go_sem]; done)), (by (repeat (first | with_reducible exact H3.out | with_reducible refine RowAt.drew ?_ | with_reducible refine RowAt.later ?_ _ | with_reducible exact RowAt.newAt (by first | rfl | omega | (simp [later_size, setCells_size]; done) | (simp [later_size, setCells_size]; omega)) | with_reducible refine RowAt.alloc ?_ _ | with_reducible apply RowAt.store | with_reducible refine RowAt.others ?_ ?_ _ _ | with_reducible refine RowAt.other ?_ ?_ _)); all_goals first | omega | (simp; done) | (simp; omega) | (simp [go_sem]; done)), (show RowAt _ _ (cells32 (v4l s)) from (by (repeat (first | with_reducible exact rfl | with_reducible refine RowAt.drew ?_ | with_reducible refine RowAt.later ?_ _ | with_reducible exact RowAt.newAt (by first | rfl | omega | (simp [later_size, setCells_size]; done) | (simp [later_size, setCells_size]; omega)) | with_reducible refine RowAt.alloc ?_ _ | with_reducible refine RowAt.store (cs := cells32 (zeros32 4)) ?_ ?_ | with_reducible refine RowAt.others ?_ ?_ _ _ | with_reducible refine RowAt.other ?_ ?_ _)); all_goals first | omega | (simp; done) | (simp; omega) | (simp [go_sem]; done))), (show RowAt _ _ (cells32 (e4l s)) from (by (repeat (first | with_reducible exact rfl | with_reducible refine RowAt.drew ?_ | with_reducible refine RowAt.later ?_ _ | with_reducible exact RowAt.newAt (by first | rfl | omega | (simp [later_size, setCells_size]; done) | (simp [later_size, setCells_size]; omega)) | with_reducible refine RowAt.alloc ?_ _ | with_reducible refine RowAt.store (cs := cells32 (zeros32 4)) ?_ ?_ | with_reducible refine RowAt.others ?_ ?_ _ _ | with_reducible refine RowAt.other ?_ ?_ _)); all_goals first | omega | (simp; done) | (simp; omega) | (simp [go_sem]; done)))⟩
  case round =>
   obtain ⟨t, ht, rfl, hx, h1, h2, h3, h4, h5⟩ := hrel
   have HX' := lh hx
   have H1' := lh h1
   have H2' := lh h2
   have H3' := lh h3
   have H4' := lh h4
   have H5' := lh h5
   by_cases h64 : t < 64
   ·have hR := lh (show Sha.rounds (Sha.sched bs) s (t + 1) = Sha.rnd (Sha.K.getD t 0) ((Sha.sched bs).getD t 0) (Sha.rounds (Sha.sched bs) s t) from rfl)
    have hO := lh (Sha.rounds_ok HS.out (Sha.sched bs) t)
    have hcw : wr.cell? ⟨w.heap.size + 1 + 1 + xl.n, t, none⟩ = some (.int .u32 ((Sha.sched bs).getD t 0)) := by rw [h3.cell, cells32_get, Sha.sched_length, if_pos h64]
    have hck : (cells32 Sha.K)[t]? = some (.int .u32 (Sha.K.getD t 0)) := by rw [cells32_get, K_length, if_pos h64]
    have hix : ∀ W', (Instr.index 329 (.agg (cells32 Sha.K)) (.int .i64 (t : Int))).run Tryz.prog W' = .ok (.int .u32 (Sha.K.getD t 0)) W' := run_index_arr (e := 257) (k := .u32) (by kernel_rfl) (by kernel_rfl) (by kernel_rfl) _ t _ h64 hck
    clear hck
    generalize Sha.rounds (Sha.sched bs) s t = r at *
    generalize (Sha.sched bs).getD t 0 = wt at *
    generalize Sha.K.getD t 0 = kt at *
    have v0 : wr.cell? ⟨w.heap.size + 3 + xl.n, 0, none⟩ = some (.int .u32 r.a) := h4.cell 0
    have v1 : wr.cell? ⟨w.heap.size + 3 + xl.n, 1, none⟩ = some (.int .u32 r.b) := h4.cell 1
    have v2 : wr.cell? ⟨w.heap.size + 3 + xl.n, 2, none⟩ = some (.int .u32 r.c) := h4.cell 2
    have v3 : wr.cell? ⟨w.heap.size + 3 + xl.n, 3, none⟩ = some (.int .u32 r.d) := h4.cell 3
    have e0 : wr.cell? ⟨w.heap.size + 3 + xl.n + 1, 0, none⟩ = some (.int .u32 r.e) := h5.cell 0
    have e1 : wr.cell? ⟨w.heap.size + 3 + xl.n + 1, 1, none⟩ = some (.int .u32 r.f) := h5.cell 1
    have e2 : wr.cell? ⟨w.heap.size + 3 + xl.n + 1, 2, none⟩ = some (.int .u32 r.g) := h5.cell 2
    have e3 : wr.cell? ⟨w.heap.size + 3 + xl.n + 1, 3, none⟩ = some (.int .u32 r.h) := h5.cell 3
    have mv : roomOf wr (w.heap.size + 3 + xl.n) 0 4 = true := by rw [h4.room]; rfl
    have me : roomOf wr (w.heap.size + 3 + xl.n + 1) 0 4 = true := by rw [h5.room]; rfl
    have lv := h4.lt
    have le := h5.lt
    have lw := h3.lt
    clear hx h1 h2 h3 h4 h5
    go_wp2
    refine wp_region_later (by kernel_rfl) (by kernel_rfl) ?_
    repeat (first | go_big_quiet_step ((go_at_call 277; exact quietS (mix_ok _ 6 11 25 (by omega) (by omega) (by omega) _))) | quiet_step ((go_at_call 277; exact quietS (mix_ok _ 6 11 25 (by omega) (by omega) (by omega) _))))
    refine wpQuiet_nil ?_
    rintro _ ⟨xq, rfl⟩
    go_wp2
    refine wp_region_later (by kernel_rfl) (by kernel_rfl) ?_
    repeat (first | go_big_quiet_step ((go_at_call 277; exact quietS (mix_ok _ 2 13 22 (by omega) (by omega) (by omega) _))) | quiet_step ((go_at_call 277; exact quietS (mix_ok _ 2 13 22 (by omega) (by omega) (by omega) _))))
    refine wpQuiet_nil ?_
    rintro _ ⟨xq, rfl⟩
    go_wp2
    go_roundw
    case rel =>
     refine ⟨t + 1, by omega, by go_num, (by (with_reducible repeat first|exact HX'.out|exact eR _|apply eD|apply eN|apply eA|apply eO|apply eS|apply eC);all_goals first|omega|simp <;> omega), (by (repeat (first | with_reducible exact H1'.out | with_reducible refine RowAt.drew ?_ | with_reducible refine RowAt.later ?_ _ | with_reducible exact RowAt.newAt (by first | rfl | omega | (simp [later_size, setCells_size]; done) | (simp [later_size, setCells_size]; omega)) | with_reducible refine RowAt.alloc ?_ _ | with_reducible apply RowAt.store | with_reducible refine RowAt.others ?_ ?_ _ _ | with_reducible refine RowAt.other ?_ ?_ _)); all_goals first | omega | (simp; done) | (simp; omega) | (simp [go_sem]; done)), (by (repeat (first | with_reducible exact H2'.out | with_reducible refine RowAt.drew ?_ | with_reducible refine RowAt.later ?_ _ | with_reducible exact RowAt.newAt (by first | rfl | omega | (simp [later_size, setCells_size]; done) | (simp [later_size, setCells_size]; omega)) | with_reducible refine RowAt.alloc ?_ _ | with_reducible apply RowAt.store | with_reducible refine RowAt.others ?_ ?_ _ _ | with_reducible refine RowAt.other ?_ ?_ _)); all_goals first | omega | (simp; done) | (simp; omega) | (simp [go_sem]; done)), (by (repeat (first | with_reducible exact H3'.out | with_reducible refine RowAt.drew ?_ | with_reducible refine RowAt.later ?_ _ | with_reducible exact RowAt.newAt (by first | rfl | omega | (simp [later_size, setCells_size]; done) | (simp [later_size, setCells_size]; omega)) | with_reducible refine RowAt.alloc ?_ _ | with_reducible apply RowAt.store | with_reducible refine RowAt.others ?_ ?_ _ _ | with_reducible refine RowAt.other ?_ ?_ _)); all_goals first | omega | (simp; done) | (simp; omega) | (simp [go_sem]; done)), ?_, ?_⟩
     ·rw [hR.out]
      with_reducible refine RowAt.lay (cs := cells32 (v4l r)) ?_ ?_ ?_
      ·exact (by (repeat (first | with_reducible exact H4'.out | with_reducible refine RowAt.drew ?_ | with_reducible refine RowAt.later ?_ _ | with_reducible exact RowAt.newAt (by first | rfl | omega | (simp [later_size, setCells_size]; done) | (simp [later_size, setCells_size]; omega)) | with_reducible refine RowAt.alloc ?_ _ | with_reducible apply RowAt.store | with_reducible refine RowAt.others ?_ ?_ _ _ | with_reducible refine RowAt.other ?_ ?_ _)); all_goals first | omega | (simp; done) | (simp; omega) | (simp [go_sem]; done))
      ·rfl
      ·refine congrArg (fun x => #[Value.int .u32 x, .int .u32 r.a, .int .u32 r.b, .int .u32 r.c]) ?_
       simp only [max_xor, Sha.rnd, Sha.add, Sha.rx, Sha.ry, Sha.ch, Sha.maj, Sha.xor, Sha.and]
       omega
     ·rw [hR.out]
      with_reducible refine RowAt.others ?_ ?_ _ _
      ·with_reducible refine RowAt.lay (cs := cells32 (e4l r)) ?_ ?_ ?_
       ·exact (by (repeat (first | with_reducible exact H5'.out | with_reducible refine RowAt.drew ?_ | with_reducible refine RowAt.later ?_ _ | with_reducible exact RowAt.newAt (by first | rfl | omega | (simp [later_size, setCells_size]; done) | (simp [later_size, setCells_size]; omega)) | with_reducible refine RowAt.alloc ?_ _ | with_reducible apply RowAt.store | with_reducible refine RowAt.others ?_ ?_ _ _ | with_reducible refine RowAt.other ?_ ?_ _)); all_goals first | omega | (simp; done) | (simp; omega) | (simp [go_sem]; done))
       ·rfl
       ·refine congrArg (fun x => #[Value.int .u32 x, .int .u32 r.e, .int .u32 r.f, .int .u32 r.g]) ?_
        simp only [max_xor, Sha.rnd, Sha.add, Sha.rx, Sha.ry, Sha.ch, Sha.maj, Sha.xor, Sha.and]
        omega
      ·omega
    case measure => simp [intOf]; omega
   ·have e64 : t = 64 := by omega
    subst e64
    have HQ := lh (show Sha.comp s bs = Sha.addS s (Sha.rounds (Sha.sched bs) s 64) from rfl)
    clear hx h1 h2 h3 h4 h5
    generalize Sha.rounds (Sha.sched bs) s 64 = q at HQ H4' H5'
    go_wp2
    go_loopw [94] (fun i wr => ∃ k : Nat, k ≤ 4 ∧ i = .int .i64 k ∧ Ext w wr ∧ RowAt wr w.heap.size (cells32 (s8l (upd s q k))) ∧ RowAt wr (w.heap.size + 1) (cells32 (zeros32 8)) ∧ RowAt wr (w.heap.size + 3 + xl.n) (cells32 (v4l q)) ∧ RowAt wr (w.heap.size + 3 + xl.n + 1) (cells32 (e4l q))) (fun i _ => 4 - (intOf i).toNat)
    case atStart => exact ⟨0, by omega, rfl, HX'.out, H1'.out, H2'.out, H4'.out, H5'.out⟩
    case round =>
     obtain ⟨k, hk, rfl, hx, h1, h2, h4, h5⟩ := hrel
     have HX2 := lh hx
     have HA := lh h1
     have HB2 := lh h2
     have HV := lh h4
     have HE := lh h5
     by_cases hk4 : k < 4
     ·have c1 : wr.cell? ⟨w.heap.size, k, none⟩ = some (.int .u32 ((s8l (upd s q k)).getD k 0)) := by rw [h1.cell, cells32_get, s8l_length, if_pos (by omega)]
      have c2 : wr.cell? ⟨w.heap.size, k + 4, none⟩ = some (.int .u32 ((s8l (upd s q k)).getD (k + 4) 0)) := by rw [h1.cell, cells32_get, s8l_length, if_pos (by omega)]
      have c3 : wr.cell? ⟨w.heap.size + 3 + xl.n, k, none⟩ = some (.int .u32 ((v4l q).getD k 0)) := by rw [h4.cell, cells32_get, v4l_length, if_pos (by omega)]
      have c4 : wr.cell? ⟨w.heap.size + 3 + xl.n + 1, k, none⟩ = some (.int .u32 ((e4l q).getD k 0)) := by rw [h5.cell, cells32_get, e4l_length, if_pos (by omega)]
      have f1 : ∀ i, wr.frozen? ⟨w.heap.size, i, none⟩ = false := h1.free
      have l1 := h1.lt
      have l4 := h4.lt
      have l5 := h5.lt
      have HU := lh (upd_step s q k hk4)
      generalize (s8l (upd s q k)).getD k 0 = a1 at c1 HU
      generalize (s8l (upd s q k)).getD (k + 4) 0 = a2 at c2 HU
      generalize (v4l q).getD k 0 = a3 at c3 HU
      generalize (e4l q).getD k 0 = a4 at c4 HU
      clear hx h1 h2 h4 h5
      go_wp2
      refine wp_region_later_tail 8 (by kernel_rfl) (by kernel_rfl) ?_
      simp only [List.take_succ_cons, List.take_zero, List.drop_succ_cons, List.drop_zero]
      repeat (first | go_big_quiet_step (fail) | quiet_step (fail))
      refine wpQuiet_nil ?_
      rintro _ ⟨xq, rfl⟩
      go_wp2
      refine wp_region_later_tail 9 (by kernel_rfl) (by kernel_rfl) ?_
      simp only [List.take_succ_cons, List.take_zero, List.drop_succ_cons, List.drop_zero]
      repeat (first | go_big_quiet_step (fail) | quiet_step (fail))
      refine wpQuiet_nil ?_
      rintro _ ⟨xq, rfl⟩
      go_wp2
      go_roundw
      case rel => exact ⟨k + 1, by omega, by go_num, (by (with_reducible repeat first|exact HX2.out|exact eR _|apply eD|apply eN|apply eA|apply eO|apply eS|apply eC);all_goals first|omega|simp <;> omega), (((HA.out.later _).set32 rfl).later _).set32 HU.out, (by (repeat (first | with_reducible exact HB2.out | with_reducible refine RowAt.drew ?_ | with_reducible refine RowAt.later ?_ _ | with_reducible exact RowAt.newAt (by first | rfl | omega | (simp [later_size, setCells_size]; done) | (simp [later_size, setCells_size]; omega)) | with_reducible refine RowAt.alloc ?_ _ | with_reducible apply RowAt.store | with_reducible refine RowAt.others ?_ ?_ _ _ | with_reducible refine RowAt.other ?_ ?_ _)); all_goals first | omega | (simp; done) | (simp; omega) | (simp [go_sem]; done)), (by (repeat (first | with_reducible exact HV.out | with_reducible refine RowAt.drew ?_ | with_reducible refine RowAt.later ?_ _ | with_reducible exact RowAt.newAt (by first | rfl | omega | (simp [later_size, setCells_size]; done) | (simp [later_size, setCells_size]; omega)) | with_reducible refine RowAt.alloc ?_ _ | with_reducible apply RowAt.store | with_reducible refine RowAt.others ?_ ?_ _ _ | with_reducible refine RowAt.other ?_ ?_ _)); all_goals first | omega | (simp; done) | (simp; omega) | (simp [go_sem]; done)), (by (repeat (first | with_reducible exact HE.out | with_reducible refine RowAt.drew ?_ | with_reducible refine RowAt.later ?_ _ | with_reducible exact RowAt.newAt (by first | rfl | omega | (simp [later_size, setCells_size]; done) | (simp [later_size, setCells_size]; omega)) | with_reducible refine RowAt.alloc ?_ _ | with_reducible apply RowAt.store | with_reducible refine RowAt.others ?_ ?_ _ _ | with_reducible refine RowAt.other ?_ ?_ _)); all_goals first | omega | (simp; done) | (simp; omega) | (simp [go_sem]; done))⟩
      case measure => simp [intOf]; omega
     ·have e4 : k = 4 := by omega
      subst e4
      have e5 : Sha.comp s bs = upd s q 4 := HQ.out
      have HE5 := lh e5
      have r8 : rowOf wr w.heap.size 0 8 = some (cells32 (s8l (upd s q 4))) := h1.all (by rw [cells32_size, s8l_length]) (by omega)
      have m8 : roomOf wr (w.heap.size + 1) 0 8 = true := by rw [h2.room]; rfl
      have l1 := h1.lt
      have l2 := h2.lt
      have rr := lh (h2.stored (n := 8) (ds := cells32 (s8l (upd s q 4))) (by rw [cells32_size, cells32_size, s8l_length, zeros32_length]) (by rw [cells32_size, s8l_length]) (by omega))
      clear hx h1 h2 h4 h5 e5
      go_wp2
      refine post_row w8_ty Tryz.results236 rfl rfl rr.out ⟨by rw [HE5.out], (by (with_reducible repeat first|exact HX2.out|exact eR _|apply eD|apply eN|apply eA|apply eO|apply eS|apply eC);all_goals first|omega|simp <;> omega)⟩
 ·
  go_wp2
  go_loopw [22] (fun i wr => ∃ t : Nat, t ≤ 64 ∧ i = .int .i64 t ∧ Ext w wr ∧ RowAt wr w.heap.size (cells32 (s8l s)) ∧ RowAt wr (w.heap.size + 1) (cells32 (zeros32 8)) ∧ RowAt wr (w.heap.size + 1 + 1 + xl.n) (cells32 (Sha.sched bs)) ∧
   RowAt wr (w.heap.size + 3 + xl.n + 1) (cells32 (v4l (Sha.rounds (Sha.sched bs) s t))) ∧ RowAt wr (w.heap.size + 3 + xl.n) (cells32 (e4l (Sha.rounds (Sha.sched bs) s t)))) (fun i _ => 64 - (intOf i).toNat)
  case atStart => exact ⟨0, by omega, rfl, (by (with_reducible repeat first|exact HX.out|exact eR _|apply eD|apply eN|apply eA|apply eO|apply eS|apply eC);all_goals first|omega|simp <;> omega), (by (repeat (first | with_reducible exact H1.out | with_reducible refine RowAt.drew ?_ | with_reducible refine RowAt.later ?_ _ | with_reducible exact RowAt.newAt (by first | rfl | omega | (simp [later_size, setCells_size]; done) | (simp [later_size, setCells_size]; omega)) | with_reducible refine RowAt.alloc ?_ _ | with_reducible apply RowAt.store | with_reducible refine RowAt.others ?_ ?_ _ _ | with_reducible refine RowAt.other ?_ ?_ _)); all_goals first | omega | (simp; done) | (simp; omega) | (simp [go_sem]; done)), (by (repeat (first | with_reducible exact H2.out | with_reducible refine RowAt.drew ?_ | with_reducible refine RowAt.later ?_ _ | with_reducible exact RowAt.newAt (by first | rfl | omega | (simp [later_size, setCells_size]; done) | (simp [later_size, setCells_size]; omega)) | with_reducible refine RowAt.alloc ?_ _ | with_reducible apply RowAt.store | with_reducible refine RowAt.others ?_ ?_ _ _ | with_reducible refine RowAt.other ?_ ?_ _)); all_goals first | omega | (simp; done) | (simp; omega) | (simp [go_sem]; done)), (by (repeat (first | with_reducible exact H3.out | with_reducible refine RowAt.drew ?_ | with_reducible refine RowAt.later ?_ _ | with_reducible exact RowAt.newAt (by first | rfl | omega | (simp [later_size, setCells_size]; done) | (simp [later_size, setCells_size]; omega)) | with_reducible refine RowAt.alloc ?_ _ | with_reducible apply RowAt.store | with_reducible refine RowAt.others ?_ ?_ _ _ | with_reducible refine RowAt.other ?_ ?_ _)); all_goals first | omega | (simp; done) | (simp; omega) | (simp [go_sem]; done)), (show RowAt _ _ (cells32 (v4l s)) from (by (repeat (first | with_reducible exact rfl | with_reducible refine RowAt.drew ?_ | with_reducible refine RowAt.later ?_ _ | with_reducible exact RowAt.newAt (by first | rfl | omega | (simp [later_size, setCells_size]; done) | (simp [later_size, setCells_size]; omega)) | with_reducible refine RowAt.alloc ?_ _ | with_reducible refine RowAt.store (cs := cells32 (zeros32 4)) ?_ ?_ | with_reducible refine RowAt.others ?_ ?_ _ _ | with_reducible refine RowAt.other ?_ ?_ _)); all_goals first | omega | (simp; done) | (simp; omega) | (simp [go_sem]; done))), (show RowAt _ _ (cells32 (e4l s)) from (by (repeat (first | with_reducible exact rfl | with_reducible refine RowAt.drew ?_ | with_reducible refine RowAt.later ?_ _ | with_reducible exact RowAt.newAt (by first | rfl | omega | (simp [later_size, setCells_size]; done) | (simp [later_size, setCells_size]; omega)) | with_reducible refine RowAt.alloc ?_ _ | with_reducible refine RowAt.store (cs := cells32 (zeros32 4)) ?_ ?_ | with_reducible refine RowAt.others ?_ ?_ _ _ | with_reducible refine RowAt.other ?_ ?_ _)); all_goals first | omega | (simp; done) | (simp; omega) | (simp [go_sem]; done)))⟩
  case round =>
   obtain ⟨t, ht, rfl, hx, h1, h2, h3, h4, h5⟩ := hrel
   have HX' := lh hx
   have H1' := lh h1
   have H2' := lh h2
   have H3' := lh h3
   have H4' := lh h4
   have H5' := lh h5
   by_cases h64 : t < 64
   ·have hR := lh (show Sha.rounds (Sha.sched bs) s (t + 1) = Sha.rnd (Sha.K.getD t 0) ((Sha.sched bs).getD t 0) (Sha.rounds (Sha.sched bs) s t) from rfl)
    have hO := lh (Sha.rounds_ok HS.out (Sha.sched bs) t)
    have hcw : wr.cell? ⟨w.heap.size + 1 + 1 + xl.n, t, none⟩ = some (.int .u32 ((Sha.sched bs).getD t 0)) := by rw [h3.cell, cells32_get, Sha.sched_length, if_pos h64]
    have hck : (cells32 Sha.K)[t]? = some (.int .u32 (Sha.K.getD t 0)) := by rw [cells32_get, K_length, if_pos h64]
    have hix : ∀ W', (Instr.index 329 (.agg (cells32 Sha.K)) (.int .i64 (t : Int))).run Tryz.prog W' = .ok (.int .u32 (Sha.K.getD t 0)) W' := run_index_arr (e := 257) (k := .u32) (by kernel_rfl) (by kernel_rfl) (by kernel_rfl) _ t _ h64 hck
    clear hck
    generalize Sha.rounds (Sha.sched bs) s t = r at *
    generalize (Sha.sched bs).getD t 0 = wt at *
    generalize Sha.K.getD t 0 = kt at *
    have v0 : wr.cell? ⟨w.heap.size + 3 + xl.n + 1, 0, none⟩ = some (.int .u32 r.a) := h4.cell 0
    have v1 : wr.cell? ⟨w.heap.size + 3 + xl.n + 1, 1, none⟩ = some (.int .u32 r.b) := h4.cell 1
    have v2 : wr.cell? ⟨w.heap.size + 3 + xl.n + 1, 2, none⟩ = some (.int .u32 r.c) := h4.cell 2
    have v3 : wr.cell? ⟨w.heap.size + 3 + xl.n + 1, 3, none⟩ = some (.int .u32 r.d) := h4.cell 3
    have e0 : wr.cell? ⟨w.heap.size + 3 + xl.n, 0, none⟩ = some (.int .u32 r.e) := h5.cell 0
    have e1 : wr.cell? ⟨w.heap.size + 3 + xl.n, 1, none⟩ = some (.int .u32 r.f) := h5.cell 1
    have e2 : wr.cell? ⟨w.heap.size + 3 + xl.n, 2, none⟩ = some (.int .u32 r.g) := h5.cell 2
    have e3 : wr.cell? ⟨w.heap.size + 3 + xl.n, 3, none⟩ = some (.int .u32 r.h) := h5.cell 3
    have mv : roomOf wr (w.heap.size + 3 + xl.n + 1) 0 4 = true := by rw [h4.room]; rfl
    have me : roomOf wr (w.heap.size + 3 + xl.n) 0 4 = true := by rw [h5.room]; rfl
    have lv := h4.lt
    have le := h5.lt
    have lw := h3.lt
    clear hx h1 h2 h3 h4 h5
    go_wp2
    refine wp_region_later (by kernel_rfl) (by kernel_rfl) ?_
    repeat (first | go_big_quiet_step ((go_at_call 277; exact quietS (mix_ok _ 6 11 25 (by omega) (by omega) (by omega) _))) | quiet_step ((go_at_call 277; exact quietS (mix_ok _ 6 11 25 (by omega) (by omega) (by omega) _))))
    refine wpQuiet_nil ?_
    rintro _ ⟨xq, rfl⟩
    go_wp2
    refine wp_region_later (by kernel_rfl) (by kernel_rfl) ?_
    repeat (first | go_big_quiet_step ((go_at_call 277; exact quietS (mix_ok _ 2 13 22 (by omega) (by omega) (by omega) _))) | quiet_step ((go_at_call 277; exact quietS (mix_ok _ 2 13 22 (by omega) (by omega) (by omega) _))))
    refine wpQuiet_nil ?_
    rintro _ ⟨xq, rfl⟩
    go_wp2
    go_roundw
    case rel =>
     refine ⟨t + 1, by omega, by go_num, (by (with_reducible repeat first|exact HX'.out|exact eR _|apply eD|apply eN|apply eA|apply eO|apply eS|apply eC);all_goals first|omega|simp <;> omega), (by (repeat (first | with_reducible exact H1'.out | with_reducible refine RowAt.drew ?_ | with_reducible refine RowAt.later ?_ _ | with_reducible exact RowAt.newAt (by first | rfl | omega | (simp [later_size, setCells_size]; done) | (simp [later_size, setCells_size]; omega)) | with_reducible refine RowAt.alloc ?_ _ | with_reducible apply RowAt.store | with_reducible refine RowAt.others ?_ ?_ _ _ | with_reducible refine RowAt.other ?_ ?_ _)); all_goals first | omega | (simp; done) | (simp; omega) | (simp [go_sem]; done)), (by (repeat (first | with_reducible exact H2'.out | with_reducible refine RowAt.drew ?_ | with_reducible refine RowAt.later ?_ _ | with_reducible exact RowAt.newAt (by first | rfl | omega | (simp [later_size, setCells_size]; done) | (simp [later_size, setCells_size]; omega)) | with_reducible refine RowAt.alloc ?_ _ | with_reducible apply RowAt.store | with_reducible refine RowAt.others ?_ ?_ _ _ | with_reducible refine RowAt.other ?_ ?_ _)); all_goals first | omega | (simp; done) | (simp; omega) | (simp [go_sem]; done)), (by (repeat (first | with_reducible exact H3'.out | with_reducible refine RowAt.drew ?_ | with_reducible refine RowAt.later ?_ _ | with_reducible exact RowAt.newAt (by first | rfl | omega | (simp [later_size, setCells_size]; done) | (simp [later_size, setCells_size]; omega)) | with_reducible refine RowAt.alloc ?_ _ | with_reducible apply RowAt.store | with_reducible refine RowAt.others ?_ ?_ _ _ | with_reducible refine RowAt.other ?_ ?_ _)); all_goals first | omega | (simp; done) | (simp; omega) | (simp [go_sem]; done)), ?_, ?_⟩
     ·rw [hR.out]
      with_reducible refine RowAt.lay (cs := cells32 (v4l r)) ?_ ?_ ?_
      ·exact (by (repeat (first | with_reducible exact H4'.out | with_reducible refine RowAt.drew ?_ | with_reducible refine RowAt.later ?_ _ | with_reducible exact RowAt.newAt (by first | rfl | omega | (simp [later_size, setCells_size]; done) | (simp [later_size, setCells_size]; omega)) | with_reducible refine RowAt.alloc ?_ _ | with_reducible apply RowAt.store | with_reducible refine RowAt.others ?_ ?_ _ _ | with_reducible refine RowAt.other ?_ ?_ _)); all_goals first | omega | (simp; done) | (simp; omega) | (simp [go_sem]; done))
      ·rfl
      ·refine congrArg (fun x => #[Value.int .u32 x, .int .u32 r.a, .int .u32 r.b, .int .u32 r.c]) ?_
       simp only [max_xor, Sha.rnd, Sha.add, Sha.rx, Sha.ry, Sha.ch, Sha.maj, Sha.xor, Sha.and]
       omega
     ·rw [hR.out]
      with_reducible refine RowAt.others ?_ ?_ _ _
      ·with_reducible refine RowAt.lay (cs := cells32 (e4l r)) ?_ ?_ ?_
       ·exact (by (repeat (first | with_reducible exact H5'.out | with_reducible refine RowAt.drew ?_ | with_reducible refine RowAt.later ?_ _ | with_reducible exact RowAt.newAt (by first | rfl | omega | (simp [later_size, setCells_size]; done) | (simp [later_size, setCells_size]; omega)) | with_reducible refine RowAt.alloc ?_ _ | with_reducible apply RowAt.store | with_reducible refine RowAt.others ?_ ?_ _ _ | with_reducible refine RowAt.other ?_ ?_ _)); all_goals first | omega | (simp; done) | (simp; omega) | (simp [go_sem]; done))
       ·rfl
       ·refine congrArg (fun x => #[Value.int .u32 x, .int .u32 r.e, .int .u32 r.f, .int .u32 r.g]) ?_
        simp only [max_xor, Sha.rnd, Sha.add, Sha.rx, Sha.ry, Sha.ch, Sha.maj, Sha.xor, Sha.and]
        omega
      ·omega
    case measure => simp [intOf]; omega
   ·have e64 : t = 64 := by omega
    subst e64
    have HQ := lh (show Sha.comp s bs = Sha.addS s (Sha.rounds (Sha.sched bs) s 64) from rfl)
    clear hx h1 h2 h3 h4 h5
    generalize Sha.rounds (Sha.sched bs) s 64 = q at HQ H4' H5'
    go_wp2
    go_loopw [94] (fun i wr => ∃ k : Nat, k ≤ 4 ∧ i = .int .i64 k ∧ Ext w wr ∧ RowAt wr w.heap.size (cells32 (s8l (upd s q k))) ∧ RowAt wr (w.heap.size + 1) (cells32 (zeros32 8)) ∧ RowAt wr (w.heap.size + 3 + xl.n + 1) (cells32 (v4l q)) ∧ RowAt wr (w.heap.size + 3 + xl.n) (cells32 (e4l q))) (fun i _ => 4 - (intOf i).toNat)
    case atStart => exact ⟨0, by omega, rfl, HX'.out, H1'.out, H2'.out, H4'.out, H5'.out⟩
    case round =>
     obtain ⟨k, hk, rfl, hx, h1, h2, h4, h5⟩ := hrel
     have HX2 := lh hx
     have HA := lh h1
     have HB2 := lh h2
     have HV := lh h4
     have HE := lh h5
     by_cases hk4 : k < 4
     ·have c1 : wr.cell? ⟨w.heap.size, k, none⟩ = some (.int .u32 ((s8l (upd s q k)).getD k 0)) := by rw [h1.cell, cells32_get, s8l_length, if_pos (by omega)]
      have c2 : wr.cell? ⟨w.heap.size, k + 4, none⟩ = some (.int .u32 ((s8l (upd s q k)).getD (k + 4) 0)) := by rw [h1.cell, cells32_get, s8l_length, if_pos (by omega)]
      have c3 : wr.cell? ⟨w.heap.size + 3 + xl.n + 1, k, none⟩ = some (.int .u32 ((v4l q).getD k 0)) := by rw [h4.cell, cells32_get, v4l_length, if_pos (by omega)]
      have c4 : wr.cell? ⟨w.heap.size + 3 + xl.n, k, none⟩ = some (.int .u32 ((e4l q).getD k 0)) := by rw [h5.cell, cells32_get, e4l_length, if_pos (by omega)]
      have f1 : ∀ i, wr.frozen? ⟨w.heap.size, i, none⟩ = false := h1.free
      have l1 := h1.lt
      have l4 := h4.lt
      have l5 := h5.lt
      have HU := lh (upd_step s q k hk4)
      generalize (s8l (upd s q k)).getD k 0 = a1 at c1 HU
      generalize (s8l (upd s q k)).getD (k + 4) 0 = a2 at c2 HU
      generalize (v4l q).getD k 0 = a3 at c3 HU
      generalize (e4l q).getD k 0 = a4 at c4 HU
      clear hx h1 h2 h4 h5
      go_wp2
      refine wp_region_later_tail 8 (by kernel_rfl) (by kernel_rfl) ?_
      simp only [List.take_succ_cons, List.take_zero, List.drop_succ_cons, List.drop_zero]
      repeat (first | go_big_quiet_step (fail) | quiet_step (fail))
      refine wpQuiet_nil ?_
      rintro _ ⟨xq, rfl⟩
      go_wp2
      refine wp_region_later_tail 9 (by kernel_rfl) (by kernel_rfl) ?_
      simp only [List.take_succ_cons, List.take_zero, List.drop_succ_cons, List.drop_zero]
      repeat (first | go_big_quiet_step (fail) | quiet_step (fail))
      refine wpQuiet_nil ?_
      rintro _ ⟨xq, rfl⟩
      go_wp2
      go_roundw
      case rel => exact ⟨k + 1, by omega, by go_num, (by (with_reducible repeat first|exact HX2.out|exact eR _|apply eD|apply eN|apply eA|apply eO|apply eS|apply eC);all_goals first|omega|simp <;> omega), (((HA.out.later _).set32 rfl).later _).set32 HU.out, (by (repeat (first | with_reducible exact HB2.out | with_reducible refine RowAt.drew ?_ | with_reducible refine RowAt.later ?_ _ | with_reducible exact RowAt.newAt (by first | rfl | omega | (simp [later_size, setCells_size]; done) | (simp [later_size, setCells_size]; omega)) | with_reducible refine RowAt.alloc ?_ _ | with_reducible apply RowAt.store | with_reducible refine RowAt.others ?_ ?_ _ _ | with_reducible refine RowAt.other ?_ ?_ _)); all_goals first | omega | (simp; done) | (simp; omega) | (simp [go_sem]; done)), (by (repeat (first | with_reducible exact HV.out | with_reducible refine RowAt.drew ?_ | with_reducible refine RowAt.later ?_ _ | with_reducible exact RowAt.newAt (by first | rfl | omega | (simp [later_size, setCells_size]; done) | (simp [later_size, setCells_size]; omega)) | with_reducible refine RowAt.alloc ?_ _ | with_reducible apply RowAt.store | with_reducible refine RowAt.others ?_ ?_ _ _ | with_reducible refine RowAt.other ?_ ?_ _)); all_goals first | omega | (simp; done) | (simp; omega) | (simp [go_sem]; done)), (by (repeat (first | with_reducible exact HE.out | with_reducible refine RowAt.drew ?_ | with_reducible refine RowAt.later ?_ _ | with_reducible exact RowAt.newAt (by first | rfl | omega | (simp [later_size, setCells_size]; done) | (simp [later_size, setCells_size]; omega)) | with_reducible refine RowAt.alloc ?_ _ | with_reducible apply RowAt.store | with_reducible refine RowAt.others ?_ ?_ _ _ | with_reducible refine RowAt.other ?_ ?_ _)); all_goals first | omega | (simp; done) | (simp; omega) | (simp [go_sem]; done))⟩
      case measure => simp [intOf]; omega
     ·have e4 : k = 4 := by omega
      subst e4
      have e5 : Sha.comp s bs = upd s q 4 := HQ.out
      have HE5 := lh e5
      have r8 : rowOf wr w.heap.size 0 8 = some (cells32 (s8l (upd s q 4))) := h1.all (by rw [cells32_size, s8l_length]) (by omega)
      have m8 : roomOf wr (w.heap.size + 1) 0 8 = true := by rw [h2.room]; rfl
      have l1 := h1.lt
      have l2 := h2.lt
      have rr := lh (h2.stored (n := 8) (ds := cells32 (s8l (upd s q 4))) (by rw [cells32_size, cells32_size, s8l_length, zeros32_length]) (by rw [cells32_size, s8l_length]) (by omega))
      clear hx h1 h2 h4 h5 e5
      go_wp2
      refine post_row w8_ty Tryz.results236 rfl rfl rr.out ⟨by rw [HE5.out], (by (with_reducible repeat first|exact HX2.out|exact eR _|apply eD|apply eN|apply eA|apply eO|apply eS|apply eC);all_goals first|omega|simp <;> omega)⟩
end Go.Proofs.YtmgekdggahoboaaGreatDoor