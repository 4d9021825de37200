/- Walks of the specification's hash: the words of a block. -/
import Derived.Test.YtpjacgcaibaggaaGreatDoorProg
import Derived.Test.YtpjacgcaibaggaaGreatDoorExt
import Derived.WalkKit
import Derived.WalkSpells
import Derived.WalkLawsBesides
import Derived.Deep.QuietTactic
import Derived.BigQuiet
import Derived.Test.YtpjacgcaibaggaaGreatDoorOf
set_option linter.unusedVariables false
set_option linter.unusedSimpArgs false
namespace Go.Proofs.YtpjacgcaibaggaaGreatDoor
open Go.RowKit
open Go.Proofs

theorem odigest_ok (s : ByteArray) (w : World) (hk : Konst 0 w) (hl : s.size ≤ 140737488351200) :
    Calls Tryz.prog 24 #[.string s] w fun e w' => e = .returned (.agg (cells8 (Wire.digest 34 [bts s]))) ∧ Ext w w' := by
  have HK := Lib.hid hk
  have hd16 : (Wire.digest 34 [bts s]).length = 16 := by rw [Wire.digest, List.length_take, Sha.sha_length]; omega
  have HD : Hid (Wire.digest 34 ([s].map bts) = Wire.digest 34 [bts s]) := Lib.hid rfl
  have hfd : fitsRow 16 (cells8 (Wire.digest 34 [bts s])) = true := fits8 hd16
  clear hk
  go_enter Tryz.func24, Tryz.ntmps24
  go_wp2_with (go_at_call 56; refine (of_ok 34 (some ⟨w.heap.size + 1, 0, none⟩) 1 [s] _ ((HK.out.alloc _).alloc _) ((Owns.fresh (base := 0) sE (by simp) (by omega) rfl rfl (by simp)).reads sE) (by simp [lens]; omega)).mono ?_; rw [HD.out]; rintro e w' ⟨rfl, hxl⟩; obtain ⟨xl, rfl⟩ := hxl.asLater; clear hxl)
  generalize hDD : Wire.digest 34 [bts s] = D at *
  have rr : rowOf ((later ((w.alloc (.cells (cells8 (zeros32 16)) 24)).alloc (.cells #[.string s] 9)) xl).setCells w.heap.size 0 (cells8 D).toList) w.heap.size 0 16 = some (cells8 D) :=
    RowAt.stored (cs := cells8 (zeros32 16)) ((by (repeat (first | with_reducible exact rfl | with_reducible refine RowAt.drew ?_ | with_reducible refine RowAt.later ?_ _ | with_reducible exact RowAt.newAt (by first | rfl | omega | (simp [later_size, setCells_size]; done) | (simp [later_size, setCells_size]; omega)) | with_reducible refine RowAt.alloc ?_ _ | with_reducible apply RowAt.store | with_reducible refine RowAt.others ?_ ?_ _ _ | with_reducible refine RowAt.other ?_ ?_ _)); all_goals first | omega | (simp; done) | (simp; omega) | (simp [go_sem]; done))) (by rw [cells8_size, cells8_size, hd16, zeros32_length]) (by rw [cells8_size, hd16]) (by omega)
  refine post_row dig_ty Tryz.results24 rfl rfl rr ⟨rfl, (by (repeat (first | with_reducible exact Ext.refl _ | with_reducible exact Ext.refl _ | with_reducible refine Ext.drew ?_ | with_reducible refine Ext.drewN ?_ _ | with_reducible refine Ext.alloc ?_ _ | with_reducible refine Ext.onto ?_ _ | (with_reducible refine Ext.setCells ?_ ?_ _ _; rotate_left; focus (first | omega | (simp; done) | (simp; omega))) | (with_reducible refine Ext.setCell ?_ ?_ _; rotate_left; focus (first | omega | (simp; done) | (simp; omega))))))⟩

theorem rotr_any (x k : Int) (h : 0 < k ∧ k < 32) (w : World) : Calls Tryz.prog 176 #[.int .u32 x, .int .i64 k] w fun e w' => e = .returned (.int .u32 (Sha.rotr x k.toNat)) ∧ Ext w w' := by
  obtain ⟨n, rfl⟩ := Int.eq_ofNat_of_zero_le (show 0 ≤ k by omega)
  exact rotr_ok x n (by omega) w
theorem join_all' (a b c d : Int) (ha : 0 ≤ a ∧ a < 256) (hb : 0 ≤ b ∧ b < 256) (hc : 0 ≤ c ∧ c < 256) (hd : 0 ≤ d ∧ d < 256) :
    bits .or .u32 (bits .or .u32 (bits .or .u32 (a * 16777216) (b * 65536)) (c * 256)) d = Sha.be4 a b c d := by
  have := Sha.join_all a b c d ha hb hc hd
  rw [Int.emod_eq_of_lt (by omega) (by omega), Int.emod_eq_of_lt (by omega) (by omega), Int.emod_eq_of_lt (by omega) (by omega)] at this
  exact this
set_option maxRecDepth 100000 in
set_option maxHeartbeats 2000000 in
theorem words_ok (bs : List Int) (b off c : Nat) (w : World) (hcap : 64 ≤ c) (hb : b < w.heap.size) (hby : ∀ i, i < 64 → 0 ≤ bs.getD i 0 ∧ bs.getD i 0 < 256) (hc : ∀ i, i < 64 → w.cell? ⟨b, off + i, none⟩ = some (.int .u8 (bs.getD i 0))) :
    Calls Tryz.prog 175 #[.slice (some ⟨b, off, none⟩) 64 c] w fun e w' => e = .returned (.agg (cells32 (Sha.sched bs))) ∧ Ext w w' := by
  have HC := Lib.hid hc
  have HB := Lib.hid hby
  clear hc hby
  go_enter Tryz.func175, Tryz.ntmps175
  go_wp2
  go_loopw [4] (fun i wr => ∃ t : Nat, t ≤ 16 ∧ i = .int .i64 t ∧ Ext w wr ∧ RowAt wr w.heap.size (cells32 (zeros32 64)) ∧ RowAt wr (w.heap.size + 1) (cells32 (Sha.part bs t))) (fun i _ => 16 - (intOf i).toNat)
  case atStart => exact ⟨0, by omega, rfl, (by (repeat (first | with_reducible exact Ext.refl _ | with_reducible exact Ext.refl _ | with_reducible refine Ext.drew ?_ | with_reducible refine Ext.drewN ?_ _ | with_reducible refine Ext.alloc ?_ _ | with_reducible refine Ext.onto ?_ _ | (with_reducible refine Ext.setCells ?_ ?_ _ _; rotate_left; focus (first | omega | (simp; done) | (simp; omega))) | (with_reducible refine Ext.setCell ?_ ?_ _; rotate_left; focus (first | omega | (simp; done) | (simp; omega)))))), (by (repeat (first | with_reducible exact rfl | with_reducible refine RowAt.drew ?_ | with_reducible refine RowAt.later ?_ _ | with_reducible exact RowAt.newAt (by first | rfl | omega | (simp [later_size, setCells_size]; done) | (simp [later_size, setCells_size]; omega)) | with_reducible refine RowAt.alloc ?_ _ | with_reducible apply RowAt.store | with_reducible refine RowAt.others ?_ ?_ _ _ | with_reducible refine RowAt.other ?_ ?_ _)); all_goals first | omega | (simp; done) | (simp; omega) | (simp [go_sem]; done)), (show RowAt _ _ (cells32 (zeros32 64)) from (by (repeat (first | with_reducible exact rfl | with_reducible refine RowAt.drew ?_ | with_reducible refine RowAt.later ?_ _ | with_reducible exact RowAt.newAt (by first | rfl | omega | (simp [later_size, setCells_size]; done) | (simp [later_size, setCells_size]; omega)) | with_reducible refine RowAt.alloc ?_ _ | with_reducible apply RowAt.store | with_reducible refine RowAt.others ?_ ?_ _ _ | with_reducible refine RowAt.other ?_ ?_ _)); all_goals first | omega | (simp; done) | (simp; omega) | (simp [go_sem]; done)))⟩
  case round =>
    obtain ⟨t, ht, rfl, hx, h2, h3⟩ := hrel
    have HX := Lib.hid hx
    have H2 := Lib.hid h2
    have H3 := Lib.hid h3
    have hl3 := h3.lt
    by_cases h16 : t < 16
    · have c0 : wr.cell? ⟨b, off + 4 * t, none⟩ = some (.int .u8 (bs.getD (4 * t) 0)) := (hx.cell hb).trans (HC.out _ (by omega))
      have c1 : wr.cell? ⟨b, off + (4 * t + 1), none⟩ = some (.int .u8 (bs.getD (4 * t + 1) 0)) := (hx.cell hb).trans (HC.out _ (by omega))
      have c2 : wr.cell? ⟨b, off + (4 * t + 2), none⟩ = some (.int .u8 (bs.getD (4 * t + 2) 0)) := (hx.cell hb).trans (HC.out _ (by omega))
      have c3 : wr.cell? ⟨b, off + (4 * t + 3), none⟩ = some (.int .u8 (bs.getD (4 * t + 3) 0)) := (hx.cell hb).trans (HC.out _ (by omega))
      have b0 := HB.out (4 * t) (by omega)
      have b1 := HB.out (4 * t + 1) (by omega)
      have b2 := HB.out (4 * t + 2) (by omega)
      have b3 := HB.out (4 * t + 3) (by omega)
      have HJ := Lib.hid (show Sha.word bs t = Sha.be4 (bs.getD (4 * t) 0) (bs.getD (4 * t + 1) 0) (bs.getD (4 * t + 2) 0) (bs.getD (4 * t + 3) 0) from rfl)
      have HP := Lib.hid (Sha.part_set bs (by omega) (Sha.upTo_low bs h16))
      have hft : ∀ i, wr.frozen? ⟨w.heap.size + 1, i, none⟩ = false := h3.free
      have hct : wr.cell? ⟨w.heap.size + 1, t, none⟩ = some (.int .u32 ((Sha.part bs t).getD t 0)) := by rw [h3.cell, cells32_get, Sha.part_length bs (by omega), if_pos (by omega)]
      generalize bs.getD (4 * t) 0 = x0 at *
      generalize bs.getD (4 * t + 1) 0 = x1 at *
      generalize bs.getD (4 * t + 2) 0 = x2 at *
      generalize bs.getD (4 * t + 3) 0 = x3 at *
      have hbl : b < wr.heap.size := by have := hx.size; omega
      clear hx h2 h3
      go_wp2
      refine wp_region_later_tail 35 (by kernel_rfl) (by kernel_rfl) ?_
      simp only [List.take_succ_cons, List.take_zero, List.drop_succ_cons, List.drop_zero]
      repeat (first | go_big_quiet_step (fail) | quiet_step (fail))
      refine wpQuiet_nil ?_
      rintro _ ⟨xq, rfl⟩
      go_wp2
      have HJ2 := join_all' x0 x1 x2 x3 b0 b1 b2 b3
      go_roundw
      case rel => exact ⟨t + 1, by omega, by go_num, (by (repeat (first | with_reducible exact HX.out | with_reducible exact Ext.refl _ | with_reducible refine Ext.drew ?_ | with_reducible refine Ext.drewN ?_ _ | with_reducible refine Ext.alloc ?_ _ | with_reducible refine Ext.onto ?_ _ | (with_reducible refine Ext.setCells ?_ ?_ _ _; rotate_left; focus (first | omega | (simp; done) | (simp; omega))) | (with_reducible refine Ext.setCell ?_ ?_ _; rotate_left; focus (first | omega | (simp; done) | (simp; omega)))))), (by (repeat (first | with_reducible exact H2.out | with_reducible refine RowAt.drew ?_ | with_reducible refine RowAt.later ?_ _ | with_reducible exact RowAt.newAt (by first | rfl | omega | (simp [later_size, setCells_size]; done) | (simp [later_size, setCells_size]; omega)) | with_reducible refine RowAt.alloc ?_ _ | with_reducible apply RowAt.store | with_reducible refine RowAt.others ?_ ?_ _ _ | with_reducible refine RowAt.other ?_ ?_ _)); all_goals first | omega | (simp; done) | (simp; omega) | (simp [go_sem]; done)), (H3.out.later _).set32 (by rw [HJ2, ← HJ.out]; exact HP.out)⟩
      case measure => simp [intOf]; omega
    · have e16 : t = 16 := by omega
      subst e16
      clear hx h2 h3
      go_wp2
      go_loopw [5] (fun i wr => ∃ t : Nat, 16 ≤ t ∧ t ≤ 64 ∧ i = .int .i64 t ∧ Ext w wr ∧ RowAt wr w.heap.size (cells32 (zeros32 64)) ∧ RowAt wr (w.heap.size + 1) (cells32 (Sha.part bs t))) (fun i _ => 64 - (intOf i).toNat)
      case atStart => exact ⟨16, by omega, by omega, rfl, HX.out, H2.out, H3.out⟩
      case round =>
        obtain ⟨t, ht0, ht, rfl, hx, h2, h3⟩ := hrel
        have HX := Lib.hid hx
        have H2 := Lib.hid h2
        have H3 := Lib.hid h3
        have hl3 := h3.lt
        by_cases h64 : t < 64
        · have hc3 : ∀ i, i < 64 → wr.cell? ⟨w.heap.size + 1, i, none⟩ = some (.int .u32 ((Sha.part bs t).getD i 0)) := fun i hi => by rw [h3.cell, cells32_get, Sha.part_length bs ht, if_pos hi]
          have hf3 : ∀ i, wr.frozen? ⟨w.heap.size + 1, i, none⟩ = false := h3.free
          have k15 := hc3 (t - 15) (by omega)
          have k2 := hc3 (t - 2) (by omega)
          have k16 := hc3 (t - 16) (by omega)
          have k7 := hc3 (t - 7) (by omega)
          have k0 := hc3 t h64
          have HP := Lib.hid (Sha.part_set bs h64 (Sha.upTo_high bs ht0))
          rw [Sha.next_part bs ht0] at HP
          generalize (Sha.part bs t).getD (t - 15) 0 = x15 at *
          generalize (Sha.part bs t).getD (t - 2) 0 = x2 at *
          generalize (Sha.part bs t).getD (t - 16) 0 = x16 at *
          generalize (Sha.part bs t).getD (t - 7) 0 = x7 at *
          clear hc3 hx h2 h3
          go_wp2
          refine wp_region_later (by kernel_rfl) (by kernel_rfl) ?_
          repeat (first | go_big_quiet_step ((go_at_call 176; exact quietE (rotr_any _ _ (by omega) _))) | quiet_step ((go_at_call 176; exact quietE (rotr_any _ _ (by omega) _))))
          refine wpQuiet_nil ?_
          rintro _ ⟨xq, rfl⟩
          go_wp2
          refine wp_region_later (by kernel_rfl) (by kernel_rfl) ?_
          repeat (first | go_big_quiet_step ((go_at_call 176; exact quietE (rotr_any _ _ (by omega) _))) | quiet_step ((go_at_call 176; exact quietE (rotr_any _ _ (by omega) _))))
          refine wpQuiet_nil ?_
          rintro _ ⟨xq, rfl⟩
          go_wp2
          refine wp_region_later_tail 15 (by kernel_rfl) (by kernel_rfl) ?_
          simp only [List.take_succ_cons, List.take_zero, List.drop_succ_cons, List.drop_zero]
          repeat (first | go_big_quiet_step (fail) | quiet_step (fail))
          refine wpQuiet_nil ?_
          rintro _ ⟨xq, rfl⟩
          go_wp2
          go_roundw
          case rel =>
            refine ⟨t + 1, by omega, by omega, by go_num, (by (repeat (first | with_reducible exact HX.out | with_reducible exact Ext.refl _ | with_reducible refine Ext.drew ?_ | with_reducible refine Ext.drewN ?_ _ | with_reducible refine Ext.alloc ?_ _ | with_reducible refine Ext.onto ?_ _ | (with_reducible refine Ext.setCells ?_ ?_ _ _; rotate_left; focus (first | omega | (simp; done) | (simp; omega))) | (with_reducible refine Ext.setCell ?_ ?_ _; rotate_left; focus (first | omega | (simp; done) | (simp; omega)))))), (by (repeat (first | with_reducible exact H2.out | with_reducible refine RowAt.drew ?_ | with_reducible refine RowAt.later ?_ _ | with_reducible exact RowAt.newAt (by first | rfl | omega | (simp [later_size, setCells_size]; done) | (simp [later_size, setCells_size]; omega)) | with_reducible refine RowAt.alloc ?_ _ | with_reducible apply RowAt.store | with_reducible refine RowAt.others ?_ ?_ _ _ | with_reducible refine RowAt.other ?_ ?_ _)); all_goals first | omega | (simp; done) | (simp; omega) | (simp [go_sem]; done)), (H3.out.later _).set32 ?_⟩
            rw [← HP.out]
            simp only [Sha.add, Sha.sm0, Sha.sm1, Sha.xor]
            congr 1
            omega
          case measure => simp [intOf]; omega
        · have e64 : t = 64 := by omega
          subst e64
          rw [Sha.part_all] at h3
          have r3 : rowOf wr (w.heap.size + 1) 0 64 = some (cells32 (Sha.sched bs)) := h3.all (by rw [cells32_size, Sha.sched_length]) (by omega)
          have r2 : roomOf wr w.heap.size 0 64 = true := by rw [h2.room]; simp [cells32_size, zeros32_length]
          have f2 : fitsRow 64 (cells32 (Sha.sched bs)) = true := fits32 (Sha.sched_length bs)
          have hl2 := h2.lt
          have rr := Lib.hid (h2.stored (n := 64) (ds := cells32 (Sha.sched bs)) (by rw [cells32_size, cells32_size, Sha.sched_length, zeros32_length]) (by rw [cells32_size, Sha.sched_length]) (by omega))
          clear hx h2 h3
          go_wp2
          exact post_row w64_ty Tryz.results175 rfl rfl rr.out ⟨rfl, (HX.out).setCells (Nat.le_refl _) _ _⟩
end Go.Proofs.YtpjacgcaibaggaaGreatDoor
