/- The great arrays and structs of the hash, as rows. -/
import Derived.Test.YtpjacgcaibaggaaGreatDoorProg
import Derived.Test.YtpjacgcaibaggaaGreatDoorExt
import Derived.WalkKit
import Derived.WalkSpells
import Derived.WalkLawsBesides
import Derived.Deep.QuietTactic
import Derived.BigQuiet
import Derived.Test.YtpjacgcaibaggaaGreatDoorRowT
import Derived.Test.YtpjacgcaibaggaaGreatDoorSha
set_option linter.unusedVariables false
set_option linter.unusedSimpArgs false
namespace Go.Proofs.YtpjacgcaibaggaaGreatDoor
open Go.RowKit
open Go.Proofs

def zeros32 (n : Nat) : List Int := List.replicate n 0
theorem zeros32_length (n : Nat) : (zeros32 n).length = n := by simp [zeros32]
/-- A hash value as cells. -/
def s8l (s : Sha.S8) : List Int := [s.a, s.b, s.c, s.d, s.e, s.f, s.g, s.h]
def v4l (s : Sha.S8) : List Int := [s.a, s.b, s.c, s.d]
def e4l (s : Sha.S8) : List Int := [s.e, s.f, s.g, s.h]
theorem s8l_length (s : Sha.S8) : (s8l s).length = 8 := rfl
theorem v4l_length (s : Sha.S8) : (v4l s).length = 4 := rfl
theorem e4l_length (s : Sha.S8) : (e4l s).length = 4 := rfl
theorem sub_v4 (s : Sha.S8) : rowSub (cells32 (s8l s)) 0 4 = some (cells32 (v4l s)) := rfl
theorem sub_e4 (s : Sha.S8) : rowSub (cells32 (s8l s)) 4 4 = some (cells32 (e4l s)) := rfl
attribute [go_sem] zeros32_length s8l_length v4l_length e4l_length sub_v4 sub_e4 Sha.sched_length
theorem fits4 (a b c d : Int) : fitsRow 4 #[.int .u32 a, .int .u32 b, .int .u32 c, .int .u32 d] = true := by simp [fitsRow, Value.oneCell']
theorem fits8w (a b c d e f g h : Int) : fitsRow 8 #[.int .u32 a, .int .u32 b, .int .u32 c, .int .u32 d, .int .u32 e, .int .u32 f, .int .u32 g, .int .u32 h] = true := by simp [fitsRow, Value.oneCell']
attribute [go_sem] fits4 fits8w
theorem max_xor (x : Int) : bits .xor .u32 IntKind.u32.max x = bits .xor .u32 x 4294967295 := by
  have : IntKind.u32.max = 4294967295 := by decide
  rw [this]
  simp [bits, BitVec.xor_comm]
/-- The sums at a block's end, of which k pairs are made. -/
def upd (s v : Sha.S8) : Nat → Sha.S8
  | 0 => s
  | 1 => { s with a := Sha.add s.a v.a, e := Sha.add s.e v.e }
  | 2 => { s with a := Sha.add s.a v.a, e := Sha.add s.e v.e, b := Sha.add s.b v.b, f := Sha.add s.f v.f }
  | 3 => { s with a := Sha.add s.a v.a, e := Sha.add s.e v.e, b := Sha.add s.b v.b, f := Sha.add s.f v.f, c := Sha.add s.c v.c, g := Sha.add s.g v.g }
  | _ => Sha.addS s v
theorem upd_step (s v : Sha.S8) : ∀ k, k < 4 → ((s8l (upd s v k)).set k (((s8l (upd s v k)).getD k 0 + (v4l v).getD k 0) % 4294967296)).set (k + 4) (((s8l (upd s v k)).getD (k + 4) 0 + (e4l v).getD k 0) % 4294967296) = s8l (upd s v (k + 1))
  | 0, _ => rfl
  | 1, _ => rfl
  | 2, _ => rfl
  | 3, _ => rfl
  | n + 4, h => by omega
def zeroS : Sha.S8 := ⟨0, 0, 0, 0, 0, 0, 0, 0⟩
/-- A stream as cells. -/
def stC (s : Sha.S8) (blk : List Int) (n : Int) : Array Value := cells32 (s8l s) ++ cells8 blk ++ #[.int .u64 n]
theorem stC_size {s : Sha.S8} {blk : List Int} {n : Int} (h : blk.length = 64) : (stC s blk n).size = 73 := by simp [stC, cells32_size, cells8_size, h, s8l_length]

theorem w64_ty : RowTy Tryz.prog 222 64 := ⟨by kernel_rfl, by kernel_rfl⟩
theorem w64_ld (w : World) (b o : Nat) : (rowLoad 222 64 (.pointer (some ⟨b, o, none⟩))).run Tryz.prog w = rowLoadR Tryz.prog w 222 64 b o (rowOf w b o 64) := run_rowLoad w64_ty w b o
theorem w64_st (w : World) (b o : Nat) (cells : Array Value) : (rowStore 222 64 (.pointer (some ⟨b, o, none⟩)) (.agg cells)).run Tryz.prog w = rowStoreR Tryz.prog w 222 64 b o cells (roomOf w b o 64 && fitsRow 64 cells) := run_rowStore w64_ty w b o cells
theorem w64_lv (w : World) (b o : Nat) : (loadVar 222 ⟨b, o, none⟩).run Tryz.prog w = varRes Tryz.prog w 222 b o (rowOf w b o 64) := loadVar_row w64_ty w b o
theorem w64_al (w : World) : (rowAlloc 222).run Tryz.prog w = .ok (.value (.pointer (some ⟨w.heap.size, 0, none⟩))) (w.alloc (.cells (cells32 (zeros32 64)) 222)) := run_rowAlloc (by kernel_rfl) w
theorem w64_xl (ρ : Operand → Value) (dst : Option Tmp) (x : Operand) (t : TypeId) (pos : String) (after : Array Edge) (guard : Option (Nat × Bool)) : execOp ρ { dst, op := .load 222 x, type := t, pos, after, guard } = rowLoad 222 64 (ρ x) := rfl
theorem w64_xs (ρ : Operand → Value) (dst : Option Tmp) (x y : Operand) (t : TypeId) (pos : String) (after : Array Edge) (guard : Option (Nat × Bool)) : execOp ρ { dst, op := .store 222 x y, type := t, pos, after, guard } = rowStore 222 64 (ρ x) (ρ y) := rfl
theorem w64_xa (ρ : Operand → Value) (dst : Option Tmp) (t : TypeId) (pos : String) (after : Array Edge) (guard : Option (Nat × Bool)) : execOp ρ { dst, op := .alloc 222, type := t, pos, after, guard } = rowAlloc 222 := rfl
attribute [go_sem ↓] w64_xl w64_xs w64_xa
attribute [go_sem] w64_ld w64_st w64_al
theorem w8_ty : RowTy Tryz.prog 145 8 := ⟨by kernel_rfl, by kernel_rfl⟩
theorem w8_ld (w : World) (b o : Nat) : (rowLoad 145 8 (.pointer (some ⟨b, o, none⟩))).run Tryz.prog w = rowLoadR Tryz.prog w 145 8 b o (rowOf w b o 8) := run_rowLoad w8_ty w b o
theorem w8_st (w : World) (b o : Nat) (cells : Array Value) : (rowStore 145 8 (.pointer (some ⟨b, o, none⟩)) (.agg cells)).run Tryz.prog w = rowStoreR Tryz.prog w 145 8 b o cells (roomOf w b o 8 && fitsRow 8 cells) := run_rowStore w8_ty w b o cells
theorem w8_lv (w : World) (b o : Nat) : (loadVar 145 ⟨b, o, none⟩).run Tryz.prog w = varRes Tryz.prog w 145 b o (rowOf w b o 8) := loadVar_row w8_ty w b o
theorem w8_al (w : World) : (rowAlloc 145).run Tryz.prog w = .ok (.value (.pointer (some ⟨w.heap.size, 0, none⟩))) (w.alloc (.cells (cells32 (zeros32 8)) 145)) := run_rowAlloc (by kernel_rfl) w
theorem w8_xl (ρ : Operand → Value) (dst : Option Tmp) (x : Operand) (t : TypeId) (pos : String) (after : Array Edge) (guard : Option (Nat × Bool)) : execOp ρ { dst, op := .load 145 x, type := t, pos, after, guard } = rowLoad 145 8 (ρ x) := rfl
theorem w8_xs (ρ : Operand → Value) (dst : Option Tmp) (x y : Operand) (t : TypeId) (pos : String) (after : Array Edge) (guard : Option (Nat × Bool)) : execOp ρ { dst, op := .store 145 x y, type := t, pos, after, guard } = rowStore 145 8 (ρ x) (ρ y) := rfl
theorem w8_xa (ρ : Operand → Value) (dst : Option Tmp) (t : TypeId) (pos : String) (after : Array Edge) (guard : Option (Nat × Bool)) : execOp ρ { dst, op := .alloc 145, type := t, pos, after, guard } = rowAlloc 145 := rfl
attribute [go_sem ↓] w8_xl w8_xs w8_xa
attribute [go_sem] w8_ld w8_st w8_al
theorem w4_ty : RowTy Tryz.prog 224 4 := ⟨by kernel_rfl, by kernel_rfl⟩
theorem w4_ld (w : World) (b o : Nat) : (rowLoad 224 4 (.pointer (some ⟨b, o, none⟩))).run Tryz.prog w = rowLoadR Tryz.prog w 224 4 b o (rowOf w b o 4) := run_rowLoad w4_ty w b o
theorem w4_st (w : World) (b o : Nat) (cells : Array Value) : (rowStore 224 4 (.pointer (some ⟨b, o, none⟩)) (.agg cells)).run Tryz.prog w = rowStoreR Tryz.prog w 224 4 b o cells (roomOf w b o 4 && fitsRow 4 cells) := run_rowStore w4_ty w b o cells
theorem w4_lv (w : World) (b o : Nat) : (loadVar 224 ⟨b, o, none⟩).run Tryz.prog w = varRes Tryz.prog w 224 b o (rowOf w b o 4) := loadVar_row w4_ty w b o
theorem w4_al (w : World) : (rowAlloc 224).run Tryz.prog w = .ok (.value (.pointer (some ⟨w.heap.size, 0, none⟩))) (w.alloc (.cells (cells32 (zeros32 4)) 224)) := run_rowAlloc (by kernel_rfl) w
theorem w4_xl (ρ : Operand → Value) (dst : Option Tmp) (x : Operand) (t : TypeId) (pos : String) (after : Array Edge) (guard : Option (Nat × Bool)) : execOp ρ { dst, op := .load 224 x, type := t, pos, after, guard } = rowLoad 224 4 (ρ x) := rfl
theorem w4_xs (ρ : Operand → Value) (dst : Option Tmp) (x y : Operand) (t : TypeId) (pos : String) (after : Array Edge) (guard : Option (Nat × Bool)) : execOp ρ { dst, op := .store 224 x y, type := t, pos, after, guard } = rowStore 224 4 (ρ x) (ρ y) := rfl
theorem w4_xa (ρ : Operand → Value) (dst : Option Tmp) (t : TypeId) (pos : String) (after : Array Edge) (guard : Option (Nat × Bool)) : execOp ρ { dst, op := .alloc 224, type := t, pos, after, guard } = rowAlloc 224 := rfl
attribute [go_sem ↓] w4_xl w4_xs w4_xa
attribute [go_sem] w4_ld w4_st w4_al
theorem b32_ty : RowTy Tryz.prog 153 32 := ⟨by kernel_rfl, by kernel_rfl⟩
theorem b32_ld (w : World) (b o : Nat) : (rowLoad 153 32 (.pointer (some ⟨b, o, none⟩))).run Tryz.prog w = rowLoadR Tryz.prog w 153 32 b o (rowOf w b o 32) := run_rowLoad b32_ty w b o
theorem b32_st (w : World) (b o : Nat) (cells : Array Value) : (rowStore 153 32 (.pointer (some ⟨b, o, none⟩)) (.agg cells)).run Tryz.prog w = rowStoreR Tryz.prog w 153 32 b o cells (roomOf w b o 32 && fitsRow 32 cells) := run_rowStore b32_ty w b o cells
theorem b32_lv (w : World) (b o : Nat) : (loadVar 153 ⟨b, o, none⟩).run Tryz.prog w = varRes Tryz.prog w 153 b o (rowOf w b o 32) := loadVar_row b32_ty w b o
theorem b32_al (w : World) : (rowAlloc 153).run Tryz.prog w = .ok (.value (.pointer (some ⟨w.heap.size, 0, none⟩))) (w.alloc (.cells (cells8 (zeros32 32)) 153)) := run_rowAlloc (by kernel_rfl) w
theorem b32_xl (ρ : Operand → Value) (dst : Option Tmp) (x : Operand) (t : TypeId) (pos : String) (after : Array Edge) (guard : Option (Nat × Bool)) : execOp ρ { dst, op := .load 153 x, type := t, pos, after, guard } = rowLoad 153 32 (ρ x) := rfl
theorem b32_xs (ρ : Operand → Value) (dst : Option Tmp) (x y : Operand) (t : TypeId) (pos : String) (after : Array Edge) (guard : Option (Nat × Bool)) : execOp ρ { dst, op := .store 153 x y, type := t, pos, after, guard } = rowStore 153 32 (ρ x) (ρ y) := rfl
theorem b32_xa (ρ : Operand → Value) (dst : Option Tmp) (t : TypeId) (pos : String) (after : Array Edge) (guard : Option (Nat × Bool)) : execOp ρ { dst, op := .alloc 153, type := t, pos, after, guard } = rowAlloc 153 := rfl
attribute [go_sem ↓] b32_xl b32_xs b32_xa
attribute [go_sem] b32_ld b32_st b32_al
theorem dig_ty : RowTy Tryz.prog 24 16 := ⟨by kernel_rfl, by kernel_rfl⟩
theorem dig_ld (w : World) (b o : Nat) : (rowLoad 24 16 (.pointer (some ⟨b, o, none⟩))).run Tryz.prog w = rowLoadR Tryz.prog w 24 16 b o (rowOf w b o 16) := run_rowLoad dig_ty w b o
theorem dig_st (w : World) (b o : Nat) (cells : Array Value) : (rowStore 24 16 (.pointer (some ⟨b, o, none⟩)) (.agg cells)).run Tryz.prog w = rowStoreR Tryz.prog w 24 16 b o cells (roomOf w b o 16 && fitsRow 16 cells) := run_rowStore dig_ty w b o cells
theorem dig_lv (w : World) (b o : Nat) : (loadVar 24 ⟨b, o, none⟩).run Tryz.prog w = varRes Tryz.prog w 24 b o (rowOf w b o 16) := loadVar_row dig_ty w b o
theorem dig_al (w : World) : (rowAlloc 24).run Tryz.prog w = .ok (.value (.pointer (some ⟨w.heap.size, 0, none⟩))) (w.alloc (.cells (cells8 (zeros32 16)) 24)) := run_rowAlloc (by kernel_rfl) w
theorem dig_xl (ρ : Operand → Value) (dst : Option Tmp) (x : Operand) (t : TypeId) (pos : String) (after : Array Edge) (guard : Option (Nat × Bool)) : execOp ρ { dst, op := .load 24 x, type := t, pos, after, guard } = rowLoad 24 16 (ρ x) := rfl
theorem dig_xs (ρ : Operand → Value) (dst : Option Tmp) (x y : Operand) (t : TypeId) (pos : String) (after : Array Edge) (guard : Option (Nat × Bool)) : execOp ρ { dst, op := .store 24 x y, type := t, pos, after, guard } = rowStore 24 16 (ρ x) (ρ y) := rfl
theorem dig_xa (ρ : Operand → Value) (dst : Option Tmp) (t : TypeId) (pos : String) (after : Array Edge) (guard : Option (Nat × Bool)) : execOp ρ { dst, op := .alloc 24, type := t, pos, after, guard } = rowAlloc 24 := rfl
attribute [go_sem ↓] dig_xl dig_xs dig_xa
attribute [go_sem] dig_ld dig_st dig_al
theorem strm_ty : RowTy Tryz.prog 149 73 := ⟨by kernel_rfl, by kernel_rfl⟩
theorem strm_ld (w : World) (b o : Nat) : (rowLoad 149 73 (.pointer (some ⟨b, o, none⟩))).run Tryz.prog w = rowLoadR Tryz.prog w 149 73 b o (rowOf w b o 73) := run_rowLoad strm_ty w b o
theorem strm_st (w : World) (b o : Nat) (cells : Array Value) : (rowStore 149 73 (.pointer (some ⟨b, o, none⟩)) (.agg cells)).run Tryz.prog w = rowStoreR Tryz.prog w 149 73 b o cells (roomOf w b o 73 && fitsRow 73 cells) := run_rowStore strm_ty w b o cells
theorem strm_lv (w : World) (b o : Nat) : (loadVar 149 ⟨b, o, none⟩).run Tryz.prog w = varRes Tryz.prog w 149 b o (rowOf w b o 73) := loadVar_row strm_ty w b o
theorem strm_al (w : World) : (rowAlloc 149).run Tryz.prog w = .ok (.value (.pointer (some ⟨w.heap.size, 0, none⟩))) (w.alloc (.cells (stC zeroS (zeros32 64) 0) 149)) := run_rowAlloc (by kernel_rfl) w
theorem strm_xl (ρ : Operand → Value) (dst : Option Tmp) (x : Operand) (t : TypeId) (pos : String) (after : Array Edge) (guard : Option (Nat × Bool)) : execOp ρ { dst, op := .load 149 x, type := t, pos, after, guard } = rowLoad 149 73 (ρ x) := rfl
theorem strm_xs (ρ : Operand → Value) (dst : Option Tmp) (x y : Operand) (t : TypeId) (pos : String) (after : Array Edge) (guard : Option (Nat × Bool)) : execOp ρ { dst, op := .store 149 x y, type := t, pos, after, guard } = rowStore 149 73 (ρ x) (ρ y) := rfl
theorem strm_xa (ρ : Operand → Value) (dst : Option Tmp) (t : TypeId) (pos : String) (after : Array Edge) (guard : Option (Nat × Bool)) : execOp ρ { dst, op := .alloc 149, type := t, pos, after, guard } = rowAlloc 149 := rfl
attribute [go_sem ↓] strm_xl strm_xs strm_xa
attribute [go_sem] strm_ld strm_st strm_al
theorem w4_at (w : World) (a : Option Addr) (len cap : Nat) : (Instr.arrayAt 224 (.slice a len cap)).run Tryz.prog w = if 4 ≤ len then .ok (.pointer a) w else arrRaw Tryz.prog 224 w a len cap := arr_at (e := 144) (by kernel_rfl) w a len cap
theorem dig_at (w : World) (a : Option Addr) (len cap : Nat) : (Instr.arrayAt 24 (.slice a len cap)).run Tryz.prog w = if 16 ≤ len then .ok (.pointer a) w else arrRaw Tryz.prog 24 w a len cap := arr_at (e := 5) (by kernel_rfl) w a len cap
attribute [go_sem] w4_at dig_at
end Go.Proofs.YtpjacgcaibaggaaGreatDoor
