
import Derived.WalkKit
import Derived.WalkSpells
import Derived.WalkLawsBesides
import Derived.Deep.QuietTactic
import Derived.BigQuiet
import Derived.Test.YtpfhmcdcmepfdaaGreatDoorUKb
set_option maxRecDepth 100000
set_option maxHeartbeats 64000000
set_option linter.unusedVariables false
set_option linter.unusedSimpArgs false
namespace Go.Proofs.YtpfhmcdcmepfdaaGreatDoor
open Go.RowKit Go.Shelf
open Go.Proofs
theorem ln_extC (x : Ln) : (lnC x).extract 2 39 = cfC x.cf := by kernel_rfl
theorem ln_extL (x : Ln) : (lnC x).extract 39 59 = leC x.le := by kernel_rfl
theorem ln_self (x : Ln) (hx : LnOk x) (W : World) : (binOp .neq 89 (.agg (lnC x)) (.agg (lnC x))).run Tryz.prog W = .ok (.bool false) W := by
 have h1 := dg_eqIn 9996 30 seal_under hx.cf.sl hx.cf.sl W
 have h2 := dg_eqIn 9996 25 dig_under hx.cf.name hx.cf.name W
 have h3 := dg_eqIn 9996 30 seal_under hx.le.sl hx.le.sl W
 rw [run_neq_struct]
 simp [go_sem, ln_extC, ln_extL, cf_ext2, cf_ext21, cf_ext18, le_ext, h1, h2, h3]
theorem neq_self_dg {a : List Int} (ha : DgOk a) (W : World) : (binOp .neq 25 (.agg (dgC a)) (.agg (dgC a))).run Tryz.prog W = .ok (.bool false) W := by
 rw [neq_dg ha ha]
 simp
theorem neq_self_sl {a : List Int} (ha : DgOk a) (W : World) : (binOp .neq 30 (.agg (dgC a)) (.agg (dgC a))).run Tryz.prog W = .ok (.bool false) W := by
 have h := run_equalIn_bytes (P := Tryz.prog) W 9998 30 5 16 (by kernel_rfl) (by kernel_rfl) u8_size (u8s a) (u8s a) (by simp [u8s, ha.len]) (by simp [u8s, ha.len])
 rw [u8s_cells ha.byt, u8s_beq ha.byt ha.byt] at h
 rw [dgC_cells ha.len, run_neq_struct, h]
 simp [Result.andThen]
theorem rsame_true (r : Rp) (LA2 : Option Addr) (lc2 : Nat) (w : World) (hro : DgOk r.name ∧ DgOk r.sl ∧ ∀ x ∈ r.lines, LnOk x) (hl : r.lines.length ≤ 100000) (ha : Reads 59 lnL w w.heap.size r.LA r.lines) (ha2 : Reads 59 lnL w w.heap.size LA2 r.lines) :
  Calls Tryz.prog 24 #[.agg (rpC r), .agg (rpC { r with LA := LA2, lc := lc2 })] w fun e w' => e = .returned (.bool true) ∧ Ext w w' := by
 have HA1 := lh ha
 have HA2 := lh ha2
 have hN := fun W => neq_self_dg hro.1 W
 have hS := fun W => neq_self_sl hro.2.1 W
 have HL := lh (fun (k : Nat) (h : k < r.lines.length) (W : World) => ln_self r.lines[k] (hro.2.2 _ (List.getElem_mem h)) W)
 have hft := rp_fits r
 have hft2 := rp_fits { r with LA := LA2, lc := lc2 }
 have hfN : fitsRow 16 (dgC r.name) = true := by simp [fitsRow, dgC, Value.oneCell']
 have hfS : fitsRow 16 (dgC r.sl) = true := by simp [fitsRow, dgC, Value.oneCell']
 clear ha ha2 hro
 go_enter Tryz.func24, Tryz.ntmps24
 go_upto_region 1 with (fail)
 refine wp_world (fun W => Ext w W ∧ RowAt W w.heap.size (rpC r) ∧ RowAt W (w.heap.size + 1) (rpC { r with LA := LA2, lc := lc2 })) ⟨(by (with_reducible repeat first|exact eR _|apply eD|apply eN|apply eA|apply eO|apply eS|apply eC);all_goals first|omega|simp <;> omega), (RowAt.new _ _ _).alloc _, RowAt.newAt (by simp)⟩ ?_
 obtain ⟨B, hB⟩ : ∃ B, w.heap.size = B := ⟨_, rfl⟩
 rw [hB]
 rintro W1 ⟨x1, u1, u2⟩
 have HX1 := lh x1
 have hlu := u2.lt
 have HQa : Hid (W1.cell? ⟨B, 19, none⟩ = some (.slice r.LA r.lines.length r.lc)) := lh ((u1.cell 19).trans (rp_g19 r))
 have HQb : Hid (W1.cell? ⟨B+1, 19, none⟩ = some (.slice LA2 r.lines.length lc2)) := lh ((u2.cell 19).trans (rp_g19 { r with LA := LA2, lc := lc2 }))
 have a0 : W1.cell? ⟨B, 0, none⟩ = some (.int .i64 r.epoch) := (u1.cell 0).trans (rp_g0 r)
 have b0 : W1.cell? ⟨B+1, 0, none⟩ = some (.int .i64 r.epoch) := (u2.cell 0).trans (rp_g0 { r with LA := LA2, lc := lc2 })
 have a1 : rowOf W1 B 1 16 = some (dgC r.name) := (u1.row 1 16).trans (by rw [if_neg (by omega), rp_s1_16])
 have b1 : rowOf W1 (B+1) 1 16 = some (dgC r.name) := (u2.row 1 16).trans (by rw [if_neg (by omega), rp_s1_16])
 have a17 : W1.cell? ⟨B, 17, none⟩ = some (.int .i64 r.lo) := (u1.cell 17).trans (rp_g17 r)
 have b17 : W1.cell? ⟨B+1, 17, none⟩ = some (.int .i64 r.lo) := (u2.cell 17).trans (rp_g17 { r with LA := LA2, lc := lc2 })
 have a18 : W1.cell? ⟨B, 18, none⟩ = some (.int .i64 r.hi) := (u1.cell 18).trans (rp_g18 r)
 have b18 : W1.cell? ⟨B+1, 18, none⟩ = some (.int .i64 r.hi) := (u2.cell 18).trans (rp_g18 { r with LA := LA2, lc := lc2 })
 have a20 : W1.cell? ⟨B, 20, none⟩ = some (.int .i64 r.serial) := (u1.cell 20).trans (rp_g20 r)
 have b20 : W1.cell? ⟨B+1, 20, none⟩ = some (.int .i64 r.serial) := (u2.cell 20).trans (rp_g20 { r with LA := LA2, lc := lc2 })
 have a21 : rowOf W1 B 21 16 = some (dgC r.sl) := (u1.row 21 16).trans (by rw [if_neg (by omega), rp_s21_16])
 have b21 : rowOf W1 (B+1) 21 16 = some (dgC r.sl) := (u2.row 21 16).trans (by rw [if_neg (by omega), rp_s21_16])
 have a19 := HQa.out
 have b19 := HQb.out
 clear x1 u1 u2
 go_upto_region 3 with (fail)
 generalize r.LA = LA at *
 generalize r.lines = l at *
 go_wp2
 clear a0 b0 a1 b1 a17 b17 a18 b18 a19 b19 a20 b20 a21 b21
 go_loopw [5] (fun i wr => ∃ k : Nat, k ≤ l.length ∧ i = .int .i64 k ∧ Hid (Ext W1 wr)) (fun i _ => l.length - (intOf i).toNat)
 case atStart => exact ⟨0, Nat.zero_le _, rfl, lh (eR _)⟩
 case round =>
  obtain ⟨k, hk, rfl, HX⟩ := hrel
  have hsz := HX.out.size
  have qa : wr.cell? ⟨B, 19, none⟩ = some (.slice LA l.length r.lc) := (HX.out.cell (p := ⟨B, 19, none⟩) (by show B < _; omega)).trans HQa.out
  have qb : wr.cell? ⟨B+1, 19, none⟩ = some (.slice LA2 l.length lc2) := (HX.out.cell (p := ⟨B+1, 19, none⟩) (by show B+1 < _; omega)).trans HQb.out
  by_cases hlt : k < l.length
  ·obtain ⟨b, off, rfl, hb, hrow⟩ := reads_row lnE (HA1.out.ext (HX1.out.trans HX.out) (Nat.le_refl _)) k hlt
   obtain ⟨b', off', rfl, hb', hrow'⟩ := reads_row lnE (HA2.out.ext (HX1.out.trans HX.out) (Nat.le_refl _)) k hlt
   have hb2 : b < wr.heap.size := by omega
   have hb2' : b' < wr.heap.size := by omega
   have hLs := HL.out k hlt
   have hft1 := ln_fits l[k]
   change rowOf wr b (off + k * 59) 59 = some (lnC l[k]) at hrow
   change rowOf wr b' (off' + k * 59) 59 = some (lnC l[k]) at hrow'
   clear HL
   generalize l[k] = x at *
   go_wp2
   refine wp_region_later (by kernel_rfl) (by kernel_rfl) ?_
   repeat (first | go_big_quiet_step (fail) | quiet_step (fail))
   refine wpQuiet_nil ?_
   rintro _ ⟨xq, rfl⟩
   go_wp2
   go_roundw
   case rel => exact ⟨k + 1, by omega, by go_num, lh (by (with_reducible repeat first|exact HX.out|exact eR _|apply eD|apply eN|apply eA|apply eO|apply eS|apply eC);all_goals first|omega|simp <;> omega)⟩
   case measure => simp [intOf]; omega
  ·go_wp2
   go_ret
   exact ⟨rfl, (by (with_reducible repeat first|exact HX1.out.trans HX.out|exact eR _|apply eD|apply eN|apply eA|apply eO|apply eS|apply eC);all_goals first|omega|simp <;> omega)⟩
end Go.Proofs.YtpfhmcdcmepfdaaGreatDoor