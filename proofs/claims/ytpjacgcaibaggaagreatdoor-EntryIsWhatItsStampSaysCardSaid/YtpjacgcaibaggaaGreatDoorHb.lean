/- Walks of the hash: the schedule. -/
import Derived.Test.YtpjacgcaibaggaaGreatDoorProg
import Derived.Test.YtpjacgcaibaggaaGreatDoorExt
import Derived.WalkKit
import Derived.WalkSpells
import Derived.WalkLawsBesides
import Derived.Deep.QuietTactic
import Derived.BigQuiet
import Derived.Test.YtpjacgcaibaggaaGreatDoorHa
import Derived.Test.YtpjacgcaibaggaaGreatDoorBig
import Derived.LoopTactic
set_option linter.unusedVariables false
set_option linter.unusedSimpArgs false
namespace Go.Proofs.YtpjacgcaibaggaaGreatDoor
open Go.RowKit
open Go.Proofs

set_option maxRecDepth 100000 in
set_option maxHeartbeats 4000000 in
theorem schedule_ok (bs : List Int) (b off c : Nat) (w : World) (hcap : 64 ≤ c) (hb : b < w.heap.size) (hby : ∀ i, i < 64 → 0 ≤ bs.getD i 0 ∧ bs.getD i 0 < 256) (hc : ∀ i, i < 64 → w.cell? ⟨b, off + i, none⟩ = some (.int .u8 (bs.getD i 0))) :
    Calls Tryz.prog 163 #[.slice (some ⟨b, off, none⟩) 64 c] w fun e w' => e = .returned (.agg (cells32 (Sha.sched bs))) ∧ Ext w w' := by
  have HC := Lib.hid hc
  have HB := Lib.hid hby
  clear hc hby
  go_enter Tryz.func163, Tryz.ntmps163
  go_wp2
  go_loopw [11] (fun i wr => ∃ t : Nat, t ≤ 64 ∧ i = .int .i64 t ∧ Ext w wr ∧ RowAt wr w.heap.size (cells32 (zeros32 64)) ∧ RowAt wr (w.heap.size + 1) (cells32 (Sha.part bs t))) (fun i _ => 64 - (intOf i).toNat)
  case atStart => exact ⟨0, by omega, rfl, (by (repeat (first | with_reducible exact Ext.refl _ | with_reducible refine Ext.drew ?_ | with_reducible refine Ext.drewN ?_ _ | with_reducible refine Ext.alloc ?_ _ | with_reducible refine Ext.onto ?_ _ | with_reducible refine Ext.setCell ?_ ?_ _)); all_goals (simp; try omega)), (RowAt.new _ _ _).alloc _, by have := RowAt.new (w.alloc (.cells (cells32 (zeros32 64)) 222)) (cells32 (zeros32 64)) 222; rw [World.size_alloc] at this; exact this⟩
  case round =>
    obtain ⟨t, ht, rfl, hx, h2, h3⟩ := hrel
    have HX := Lib.hid hx
    have H2 := Lib.hid h2
    have H3 := Lib.hid h3
    have hl3 := h3.lt
    have hc3 : ∀ i, wr.cell? ⟨w.heap.size + 1, i, none⟩ = if i < 64 then some (.int .u32 ((Sha.part bs t).getD i 0)) else none := fun i => by rw [h3.cell, cells32_get, Sha.part_length bs ht]
    have hf3 : ∀ i, wr.frozen? ⟨w.heap.size + 1, i, none⟩ = false := h3.free
    clear hx h2 h3
    by_cases h64 : t < 64
    · by_cases h16 : t < 16
      · go_wp2
        go_loopw [24] (fun i wq => ∃ k : Nat, k ≤ 4 ∧ i = .int .i64 k ∧ Ext w wq ∧ RowAt wq w.heap.size (cells32 (zeros32 64)) ∧ RowAt wq (w.heap.size + 1) (cells32 ((Sha.part bs t).set t (Sha.fold4 bs t k)))) (fun i _ => 4 - (intOf i).toNat)
        case atStart => exact ⟨0, by omega, rfl, HX.out, H2.out, by rw [show Sha.fold4 bs t 0 = (Sha.part bs t).getD t 0 from (Sha.part_at bs t).symm, list_set_getD]; exact H3.out⟩
        case round =>
          obtain ⟨k, hk, rfl, hx', h2', h3'⟩ := hrel
          have HX' := Lib.hid hx'
          have H2' := Lib.hid h2'
          have H3' := Lib.hid h3'
          have hl3' := h3'.lt
          have hct : wr.cell? ⟨w.heap.size + 1, t, none⟩ = some (.int .u32 (Sha.fold4 bs t k)) := by
            rw [h3'.cell, cells32_get, List.length_set, Sha.part_length bs ht, if_pos h64]
            simp [Sha.part_length bs ht, h64]
          have hft : ∀ i, wr.frozen? ⟨w.heap.size + 1, i, none⟩ = false := h3'.free
          clear hx' h2' h3' hc3 hf3
          by_cases hk4 : k < 4
          · have hbc : wr.cell? ⟨b, off + 4 * t + k, none⟩ = some (.int .u8 (bs.getD (4 * t + k) 0)) := by
              rw [Nat.add_assoc]; exact (HX'.out.cell hb).trans (HC.out _ (by omega))
            have hbb := HB.out (4 * t + k) (by omega)
            have hfb := Sha.fold4_24 bs t HB.out h16 k hk4
            have HJ := Lib.hid (Sha.fold4_join' bs t HB.out h16 k hk4)
            go_wp2
            go_roundw
            case rel =>
              refine ⟨k + 1, by omega, by go_num, HX'.out.setCell (by simp) _, H2'.out.other (by simp) _, H3'.out.set32 ?_⟩
              rw [List.set_set, HJ.out]
            case measure => simp [intOf]; omega
          · have e4 : k = 4 := by omega
            subst e4
            have HP := Lib.hid (Sha.part_set bs h64 (Sha.upTo_low bs h16))
            rw [← Sha.fold4_all] at HP
            clear hct hft
            go_wp2
            go_roundw
            case rel => exact ⟨t + 1, by omega, by go_num, HX'.out, H2'.out, by rw [← HP.out]; exact H3'.out⟩
            case measure => simp [intOf]; omega
      · go_wp2
        refine wp_region_later (by kernel_rfl) (by kernel_rfl) ?_
        repeat (first | go_big_quiet_step (fail) | quiet_step (fail))
        refine wpQuiet_nil ?_
        rintro _ ⟨xq, rfl⟩
        go_wp2_with (go_at_call 207; (first | with_reducible refine (rotl7 _ _).mono ?_ | with_reducible refine (rotl18 _ _).mono ?_ | with_reducible refine (rotl17 _ _).mono ?_ | with_reducible refine (rotl19 _ _).mono ?_); rintro e w' ⟨rfl, rfl⟩)
        refine wp_region_later_tail 15 (by kernel_rfl) (by kernel_rfl) ?_
        simp only [List.take_succ_cons, List.take_zero, List.drop_succ_cons, List.drop_zero]
        repeat (first | go_big_quiet_step (fail) | quiet_step (fail))
        refine wpQuiet_nil ?_
        rintro _ ⟨xq, rfl⟩
        go_wp2
        go_roundw
        case rel =>
          refine ⟨t + 1, by omega, by go_num, (by (repeat (first | with_reducible exact HX.out | with_reducible refine Ext.drew ?_ | with_reducible refine Ext.drewN ?_ _ | with_reducible refine Ext.alloc ?_ _ | with_reducible refine Ext.onto ?_ _ | with_reducible refine Ext.setCell ?_ ?_ _)); all_goals (simp; try omega)), ?_, ?_⟩
          · exact (H2.out.ext (by (repeat (first | with_reducible exact Ext.refl _ | with_reducible refine Ext.drew ?_ | with_reducible refine Ext.drewN ?_ _ | with_reducible refine Ext.alloc ?_ _ | with_reducible refine Ext.onto ?_ _ | with_reducible refine Ext.setCell ?_ ?_ _)); all_goals (simp; try omega))).other (by simp) _
          · refine (H3.out.ext (by (repeat (first | with_reducible exact Ext.refl _ | with_reducible refine Ext.drew ?_ | with_reducible refine Ext.drewN ?_ _ | with_reducible refine Ext.alloc ?_ _ | with_reducible refine Ext.onto ?_ _ | with_reducible refine Ext.setCell ?_ ?_ _)); all_goals (simp; try omega))).set32 ?_
            rw [← Sha.part_set bs h64 (Sha.upTo_high bs (by omega)), Sha.next_part bs (by omega)]
            simp only [List.getD_eq_getElem?_getD, Sha.add, Sha.sm0, Sha.sm1, Sha.xor]
            congr 1
            omega
        case measure => simp [intOf]; omega
    · have e64 : t = 64 := by omega
      subst e64
      have r3 : rowOf wr (w.heap.size + 1) 0 64 = some (cells32 (Sha.sched bs)) := by
        have := H3.out.row 0 64
        rw [Sha.part_all, if_neg (by omega), cells32_sub _ _ (Sha.sched_length bs).symm] at this
        exact this
      have r2 : roomOf wr w.heap.size 0 64 = true := by rw [H2.out.room]; simp [cells32_size, zeros32_length]
      have f2 : fitsRow 64 (cells32 (Sha.sched bs)) = true := fits32 (Sha.sched_length bs)
      have hl2 := H2.out.lt
      go_wp2
      have r2' := H2.out.stored (n := 64) (ds := cells32 (Sha.sched bs)) (by rw [cells32_size, cells32_size, Sha.sched_length, zeros32_length]) (by rw [cells32_size, Sha.sched_length]) (by omega)
      exact post_row w64_ty Tryz.results163 rfl rfl r2' ⟨rfl, (HX.out).setCells (Nat.le_refl _) _ _⟩
end Go.Proofs.YtpjacgcaibaggaaGreatDoor
