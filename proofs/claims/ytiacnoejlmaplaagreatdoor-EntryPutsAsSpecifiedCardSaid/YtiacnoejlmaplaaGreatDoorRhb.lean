/- Walks of the specification's hash: the padded message. -/
import Derived.Test.YtiacnoejlmaplaaGreatDoorProg
import Derived.Test.YtiacnoejlmaplaaGreatDoorExt
import Derived.WalkKit
import Derived.WalkSpells
import Derived.WalkLawsBesides
import Derived.Deep.QuietTactic
import Derived.BigQuiet
import Derived.Test.YtiacnoejlmaplaaGreatDoorOf
set_option linter.unusedVariables false
set_option linter.unusedSimpArgs false
namespace Go.Proofs.YtiacnoejlmaplaaGreatDoor
open Go.RowKit
open Go.Proofs

theorem odigest_ok (s : ByteArray) (w : World) (hk : Konst 0 w) (hl : s.size ≤ 140737488351200) :
    Calls Tryz.prog 32 #[.string s] w fun e w' => e = .returned (.agg (cells8 (Wire.digest 34 [bts s]))) ∧ Ext w w' := by
  have HK := Lib.hid hk
  have hd16 : (Wire.digest 34 [bts s]).length = 16 := by rw [Wire.digest, List.length_take, Sha.sha_length]; omega
  have HD : Hid (Wire.digest 34 ([s].map bts) = Wire.digest 34 [bts s]) := Lib.hid rfl
  have hfd : fitsRow 16 (cells8 (Wire.digest 34 [bts s])) = true := fits8 hd16
  clear hk
  go_enter Tryz.func32, Tryz.ntmps32
  go_wp2_with (go_at_call 52; refine (of_ok 34 (some ⟨w.heap.size + 1, 0, none⟩) 1 [s] _ ((HK.out.alloc _).alloc _) ((Owns.fresh (base := 0) sE (by simp) (by omega) rfl rfl (by simp)).reads sE) (by simp [lens]; omega)).mono ?_; rw [HD.out]; rintro e w' ⟨rfl, hxl⟩; obtain ⟨xl, rfl⟩ := hxl.asLater; clear hxl)
  generalize hDD : Wire.digest 34 [bts s] = D at *
  have rr : rowOf ((later ((w.alloc (.cells (cells8 (zeros32 16)) 23)).alloc (.cells #[.string s] 9)) xl).setCells w.heap.size 0 (cells8 D).toList) w.heap.size 0 16 = some (cells8 D) :=
    RowAt.stored (cs := cells8 (zeros32 16)) ((by (repeat (first | with_reducible exact rfl | with_reducible refine RowAt.drew ?_ | with_reducible refine RowAt.later ?_ _ | with_reducible exact RowAt.newAt (by first | rfl | omega | (simp [later_size, setCells_size]; done) | (simp [later_size, setCells_size]; omega)) | with_reducible refine RowAt.alloc ?_ _ | with_reducible apply RowAt.store | with_reducible refine RowAt.others ?_ ?_ _ _ | with_reducible refine RowAt.other ?_ ?_ _)); all_goals first | omega | (simp; done) | (simp; omega) | (simp [go_sem]; done))) (by rw [cells8_size, cells8_size, hd16, zeros32_length]) (by rw [cells8_size, hd16]) (by omega)
  refine post_row dig_ty Tryz.results32 rfl rfl rr ⟨rfl, (by (repeat (first | with_reducible exact Ext.refl _ | with_reducible exact Ext.refl _ | with_reducible refine Ext.drew ?_ | with_reducible refine Ext.drewN ?_ _ | with_reducible refine Ext.alloc ?_ _ | with_reducible refine Ext.onto ?_ _ | (with_reducible refine Ext.setCells ?_ ?_ _ _; rotate_left; focus (first | omega | (simp; done) | (simp; omega))) | (with_reducible refine Ext.setCell ?_ ?_ _; rotate_left; focus (first | omega | (simp; done) | (simp; omega))))))⟩

theorem rotr_any (x k : Int) (h : 0 < k ∧ k < 32) (w : World) : Calls Tryz.prog 116 #[.int .u32 x, .int .i64 k] w fun e w' => e = .returned (.int .u32 (Sha.rotr x k.toNat)) ∧ Ext w w' := by
  obtain ⟨n, rfl⟩ := Int.eq_ofNat_of_zero_le (show 0 ≤ k by omega)
  exact rotr_ok x n (by omega) w
theorem join_all' (a b c d : Int) (ha : 0 ≤ a ∧ a < 256) (hb : 0 ≤ b ∧ b < 256) (hc : 0 ≤ c ∧ c < 256) (hd : 0 ≤ d ∧ d < 256) :
    bits .or .u32 (bits .or .u32 (bits .or .u32 (a * 16777216) (b * 65536)) (c * 256)) d = Sha.be4 a b c d := by
  have := Sha.join_all a b c d ha hb hc hd
  rw [Int.emod_eq_of_lt (by omega) (by omega), Int.emod_eq_of_lt (by omega) (by omega), Int.emod_eq_of_lt (by omega) (by omega)] at this
  exact this
set_option maxRecDepth 100000 in
set_option maxHeartbeats 2000000 in
theorem words_ok (bs : List Int) (b off c : Nat) (w : World) (hcap : 64 ≤ c) (hb : b < w.heap.size) (hby : ∀ i, i < 64 → 0 ≤ bs.getD i 0 ∧ bs.getD i 0 < 256) (hc : ∀ i, i < 64 → w.cell? ⟨b, off + i, none⟩ = some (.int .u8 (bs.getD i 0))) :
    Calls Tryz.prog 115 #[.slice (some ⟨b, off, none⟩) 64 c] w fun e w' => e = .returned (.agg (cells32 (Sha.sched bs))) ∧ Ext w w' := by
  have HC := Lib.hid hc
  have HB := Lib.hid hby
  clear hc hby
  go_enter Tryz.func115, Tryz.ntmps115
  go_wp2
  go_loopw [4] (fun i wr => ∃ t : Nat, t ≤ 16 ∧ i = .int .i64 t ∧ Ext w wr ∧ RowAt wr w.heap.size (cells32 (zeros32 64)) ∧ RowAt wr (w.heap.size + 1) (cells32 (Sha.part bs t))) (fun i _ => 16 - (intOf i).toNat)
  case atStart => exact ⟨0, by omega, rfl, (by (repeat (first | with_reducible exact Ext.refl _ | with_reducible exact Ext.refl _ | with_reducible refine Ext.drew ?_ | with_reducible refine Ext.drewN ?_ _ | with_reducible refine Ext.alloc ?_ _ | with_reducible refine Ext.onto ?_ _ | (with_reducible refine Ext.setCells ?_ ?_ _ _; rotate_left; focus (first | omega | (simp; done) | (simp; omega))) | (with_reducible refine Ext.setCell ?_ ?_ _; rotate_left; focus (first | omega | (simp; done) | (simp; omega)))))), (by (repeat (first | with_reducible exact rfl | with_reducible refine RowAt.drew ?_ | with_reducible refine RowAt.later ?_ _ | with_reducible exact RowAt.newAt (by first | rfl | omega | (simp [later_size, setCells_size]; done) | (simp [later_size, setCells_size]; omega)) | with_reducible refine RowAt.alloc ?_ _ | with_reducible apply RowAt.store | with_reducible refine RowAt.others ?_ ?_ _ _ | with_reducible refine RowAt.other ?_ ?_ _)); all_goals first | omega | (simp; done) | (simp; omega) | (simp [go_sem]; done)), (show RowAt _ _ (cells32 (zeros32 64)) from (by (repeat (first | with_reducible exact rfl | with_reducible refine RowAt.drew ?_ | with_reducible refine RowAt.later ?_ _ | with_reducible exact RowAt.newAt (by first | rfl | omega | (simp [later_size, setCells_size]; done) | (simp [later_size, setCells_size]; omega)) | with_reducible refine RowAt.alloc ?_ _ | with_reducible apply RowAt.store | with_reducible refine RowAt.others ?_ ?_ _ _ | with_reducible refine RowAt.other ?_ ?_ _)); all_goals first | omega | (simp; done) | (simp; omega) | (simp [go_sem]; done)))⟩
  case round =>
    obtain ⟨t, ht, rfl, hx, h2, h3⟩ := hrel
    have HX := Lib.hid hx
    have H2 := Lib.hid h2
    have H3 := Lib.hid h3
    have hl3 := h3.lt
    by_cases h16 : t < 16
    · have c0 : wr.cell? ⟨b, off + 4 * t, none⟩ = some (.int .u8 (bs.getD (4 * t) 0)) := (hx.cell hb).trans (HC.out _ (by omega))
      have c1 : wr.cell? ⟨b, off + (4 * t + 1), none⟩ = some (.int .u8 (bs.getD (4 * t + 1) 0)) := (hx.cell hb).trans (HC.out _ (by omega))
      have c2 : wr.cell? ⟨b, off + (4 * t + 2), none⟩ = some (.int .u8 (bs.getD (4 * t + 2) 0)) := (hx.cell hb).trans (HC.out _ (by omega))
      have c3 : wr.cell? ⟨b, off + (4 * t + 3), none⟩ = some (.int .u8 (bs.getD (4 * t + 3) 0)) := (hx.cell hb).trans (HC.out _ (by omega))
      have b0 := HB.out (4 * t) (by omega)
      have b1 := HB.out (4 * t + 1) (by omega)
      have b2 := HB.out (4 * t + 2) (by omega)
      have b3 := HB.out (4 * t + 3) (by omega)
      have HJ := Lib.hid (show Sha.word bs t = Sha.be4 (bs.getD (4 * t) 0) (bs.getD (4 * t + 1) 0) (bs.getD (4 * t + 2) 0) (bs.getD (4 * t + 3) 0) from rfl)
      have HP := Lib.hid (Sha.part_set bs (by omega) (Sha.upTo_low bs h16))
      have hft : ∀ i, wr.frozen? ⟨w.heap.size + 1, i, none⟩ = false := h3.free
      have hct : wr.cell? ⟨w.heap.size + 1, t, none⟩ = some (.int .u32 ((Sha.part bs t).getD t 0)) := by rw [h3.cell, cells32_get, Sha.part_length bs (by omega), if_pos (by omega)]
      generalize bs.getD (4 * t) 0 = x0 at *
      generalize bs.getD (4 * t + 1) 0 = x1 at *
      generalize bs.getD (4 * t + 2) 0 = x2 at *
      generalize bs.getD (4 * t + 3) 0 = x3 at *
      have hbl : b < wr.heap.size := by have := hx.size; omega
      clear hx h2 h3
      go_wp2
      refine wp_region_later_tail 35 (by kernel_rfl) (by kernel_rfl) ?_
      simp only [List.take_succ_cons, List.take_zero, List.drop_succ_cons, List.drop_zero]
      repeat (first | go_big_quiet_step (fail) | quiet_step (fail))
      refine wpQuiet_nil ?_
      rintro _ ⟨xq, rfl⟩
      go_wp2
      have HJ2 := join_all' x0 x1 x2 x3 b0 b1 b2 b3
      go_roundw
      case rel => exact ⟨t + 1, by omega, by go_num, (by (repeat (first | with_reducible exact HX.out | with_reducible exact Ext.refl _ | with_reducible refine Ext.drew ?_ | with_reducible refine Ext.drewN ?_ _ | with_reducible refine Ext.alloc ?_ _ | with_reducible refine Ext.onto ?_ _ | (with_reducible refine Ext.setCells ?_ ?_ _ _; rotate_left; focus (first | omega | (simp; done) | (simp; omega))) | (with_reducible refine Ext.setCell ?_ ?_ _; rotate_left; focus (first | omega | (simp; done) | (simp; omega)))))), (by (repeat (first | with_reducible exact H2.out | with_reducible refine RowAt.drew ?_ | with_reducible refine RowAt.later ?_ _ | with_reducible exact RowAt.newAt (by first | rfl | omega | (simp [later_size, setCells_size]; done) | (simp [later_size, setCells_size]; omega)) | with_reducible refine RowAt.alloc ?_ _ | with_reducible apply RowAt.store | with_reducible refine RowAt.others ?_ ?_ _ _ | with_reducible refine RowAt.other ?_ ?_ _)); all_goals first | omega | (simp; done) | (simp; omega) | (simp [go_sem]; done)), (H3.out.later _).set32 (by rw [HJ2, ← HJ.out]; exact HP.out)⟩
      case measure => simp [intOf]; omega
    · have e16 : t = 16 := by omega
      subst e16
      clear hx h2 h3
      go_wp2
      go_loopw [5] (fun i wr => ∃ t : Nat, 16 ≤ t ∧ t ≤ 64 ∧ i = .int .i64 t ∧ Ext w wr ∧ RowAt wr w.heap.size (cells32 (zeros32 64)) ∧ RowAt wr (w.heap.size + 1) (cells32 (Sha.part bs t))) (fun i _ => 64 - (intOf i).toNat)
      case atStart => exact ⟨16, by omega, by omega, rfl, HX.out, H2.out, H3.out⟩
      case round =>
        obtain ⟨t, ht0, ht, rfl, hx, h2, h3⟩ := hrel
        have HX := Lib.hid hx
        have H2 := Lib.hid h2
        have H3 := Lib.hid h3
        have hl3 := h3.lt
        by_cases h64 : t < 64
        · have hc3 : ∀ i, i < 64 → wr.cell? ⟨w.heap.size + 1, i, none⟩ = some (.int .u32 ((Sha.part bs t).getD i 0)) := fun i hi => by rw [h3.cell, cells32_get, Sha.part_length bs ht, if_pos hi]
          have hf3 : ∀ i, wr.frozen? ⟨w.heap.size + 1, i, none⟩ = false := h3.free
          have k15 := hc3 (t - 15) (by omega)
          have k2 := hc3 (t - 2) (by omega)
          have k16 := hc3 (t - 16) (by omega)
          have k7 := hc3 (t - 7) (by omega)
          have k0 := hc3 t h64
          have HP := Lib.hid (Sha.part_set bs h64 (Sha.upTo_high bs ht0))
          rw [Sha.next_part bs ht0] at HP
          generalize (Sha.part bs t).getD (t - 15) 0 = x15 at *
          generalize (Sha.part bs t).getD (t - 2) 0 = x2 at *
          generalize (Sha.part bs t).getD (t - 16) 0 = x16 at *
          generalize (Sha.part bs t).getD (t - 7) 0 = x7 at *
          clear hc3 hx h2 h3
          go_wp2
          refine wp_region_later (by kernel_rfl) (by kernel_rfl) ?_
          repeat (first | go_big_quiet_step ((go_at_call 116; exact quietE (rotr_any _ _ (by omega) _))) | quiet_step ((go_at_call 116; exact quietE (rotr_any _ _ (by omega) _))))
          refine wpQuiet_nil ?_
          rintro _ ⟨xq, rfl⟩
          go_wp2
          refine wp_region_later (by kernel_rfl) (by kernel_rfl) ?_
          repeat (first | go_big_quiet_step ((go_at_call 116; exact quietE (rotr_any _ _ (by omega) _))) | quiet_step ((go_at_call 116; exact quietE (rotr_any _ _ (by omega) _))))
          refine wpQuiet_nil ?_
          rintro _ ⟨xq, rfl⟩
          go_wp2
          refine wp_region_later_tail 15 (by kernel_rfl) (by kernel_rfl) ?_
          simp only [List.take_succ_cons, List.take_zero, List.drop_succ_cons, List.drop_zero]
          repeat (first | go_big_quiet_step (fail) | quiet_step (fail))
          refine wpQuiet_nil ?_
          rintro _ ⟨xq, rfl⟩
          go_wp2
          go_roundw
          case rel =>
            refine ⟨t + 1, by omega, by omega, by go_num, (by (repeat (first | with_reducible exact HX.out | with_reducible exact Ext.refl _ | with_reducible refine Ext.drew ?_ | with_reducible refine Ext.drewN ?_ _ | with_reducible refine Ext.alloc ?_ _ | with_reducible refine Ext.onto ?_ _ | (with_reducible refine Ext.setCells ?_ ?_ _ _; rotate_left; focus (first | omega | (simp; done) | (simp; omega))) | (with_reducible refine Ext.setCell ?_ ?_ _; rotate_left; focus (first | omega | (simp; done) | (simp; omega)))))), (by (repeat (first | with_reducible exact H2.out | with_reducible refine RowAt.drew ?_ | with_reducible refine RowAt.later ?_ _ | with_reducible exact RowAt.newAt (by first | rfl | omega | (simp [later_size, setCells_size]; done) | (simp [later_size, setCells_size]; omega)) | with_reducible refine RowAt.alloc ?_ _ | with_reducible apply RowAt.store | with_reducible refine RowAt.others ?_ ?_ _ _ | with_reducible refine RowAt.other ?_ ?_ _)); all_goals first | omega | (simp; done) | (simp; omega) | (simp [go_sem]; done)), (H3.out.later _).set32 ?_⟩
            rw [← HP.out]
            simp only [Sha.add, Sha.sm0, Sha.sm1, Sha.xor]
            congr 1
            omega
          case measure => simp [intOf]; omega
        · have e64 : t = 64 := by omega
          subst e64
          rw [Sha.part_all] at h3
          have r3 : rowOf wr (w.heap.size + 1) 0 64 = some (cells32 (Sha.sched bs)) := h3.all (by rw [cells32_size, Sha.sched_length]) (by omega)
          have r2 : roomOf wr w.heap.size 0 64 = true := by rw [h2.room]; simp [cells32_size, zeros32_length]
          have f2 : fitsRow 64 (cells32 (Sha.sched bs)) = true := fits32 (Sha.sched_length bs)
          have hl2 := h2.lt
          have rr := Lib.hid (h2.stored (n := 64) (ds := cells32 (Sha.sched bs)) (by rw [cells32_size, cells32_size, Sha.sched_length, zeros32_length]) (by rw [cells32_size, Sha.sched_length]) (by omega))
          clear hx h2 h3
          go_wp2
          exact post_row w64_ty Tryz.results115 rfl rfl rr.out ⟨rfl, (HX.out).setCells (Nat.le_refl _) _ _⟩
end Go.Proofs.YtiacnoejlmaplaaGreatDoor

namespace Go.Proofs.YtiacnoejlmaplaaGreatDoor
open Go.RowKit
open Go.Proofs

def OwnRel (w : World) (base : Nat) (l0 : List Int) (wr : World) (v : Value) : Prop :=
  ∃ (A : Option Addr) (c : Nat) (l : List Int), Hid (l = l0) ∧ v = .slice A l.length c ∧ OwnsB base wr A c l ∧ Ext w wr

set_option maxRecDepth 100000 in
set_option maxHeartbeats 4000000 in
theorem padded_ok (m : List Int) (A : Option Addr) (c : Nat) (w : World) (hr : ReadsB w w.heap.size A m) (hA : A = none → c = 0) (hlen : m.length < 140737488355000) :
    Calls Tryz.prog 114 #[.slice A m.length c] w (BytesIs (Sha.padded m) w) := by
  have HR := Lib.hid hr
  have HA := Lib.hid hA
  clear hr hA
  go_enter Tryz.func114, Tryz.ntmps114
  go_wp2_with (at_builtin; first
    | (refine app_reads bT bE rfl (.tmp 6) (.tmp 7) rfl w.heap.size (some ⟨w.heap.size, 0, none⟩) 0 [] rfl (Owns.fresh bE rfl (Nat.le_refl _) rfl rfl (by omega)) w.heap.size A c m rfl (HR.out.ext ((Ext.refl _).alloc _) (Nat.le_refl _)) HA.out (by simp; omega) (by simp; omega) (by simp) ?_; intro A1 c1 l1 w1 HL1 HO1 hB1 hl1 hl2 _; have HO1' := Lib.hid HO1; have HB1 := Lib.hid hB1; have hs1 := hB1.size; clear HO1 hB1)
    | (refine app_from bT bE rfl (.tmp 9) (.tmp 10) rfl w.heap.size _ _ l1 rfl (HO1'.out.alloc _) _ 1 _ [128] rfl rfl (new_cells _ _ _) (by simp at hl1; omega) (by simp at hl1; omega) (by simp at hs1 ⊢; omega) ?_; intro A2 c2 l2 w2 HL2 HO2 hB2 hl3 hl4 _; have HO2' := Lib.hid HO2; have HB2 := Lib.hid hB2; have hs2 := hB2.size; clear HO2 hB2))
  have HX2 : Hid (Ext w w2) := Lib.hid ((((((Ext.refl w).alloc _).grown HB1.out (Nat.le_refl _)).alloc _).grown HB2.out (Nat.le_refl _)))
  have HL : Hid (l2 = m ++ 128 :: List.replicate 0 0) := Lib.hid (by rw [HL2.out, HL1.out]; simp)
  clear HL1 HL2 hl1 hl2 hl3 hl4 hs1 hs2 HO1' HB1 HB2
  have hz : zn m.length < 64 := by unfold zn; omega
  go_loopw [3] (fun v wr => ∃ k : Nat, k ≤ zn m.length ∧ OwnRel w w.heap.size (m ++ 128 :: List.replicate k 0) wr v) (fun v _ => m.length + 65 - lenOf v)
  case atStart => exact ⟨0, Nat.zero_le _, A2, c2, l2, HL, rfl, HO2'.out, HX2.out⟩
  case round =>
    obtain ⟨k, hk, A3, c3, l3, HL3, rfl, ho, hx⟩ := hrel
    have hll : l3.length = m.length + 1 + k := by rw [HL3.out]; simp; omega
    have hll1 : l3.length ≤ m.length + 1 + k := by omega
    have hll2 : m.length + 1 + k ≤ l3.length := by omega
    have HO := Lib.hid ho
    have HX := Lib.hid hx
    have hsz := hx.size
    clear ho hx hll
    by_cases hkz : k < zn m.length
    · have ht2 : ((l3.length : Int) % 64 != 56) = true := by rw [bne_iff_ne]; unfold zn at hkz; omega
      go_wp2_with (at_builtin; refine app_from bT bE rfl _ _ rfl w.heap.size _ _ l3 rfl (HO.out.alloc _) _ 1 _ [0] rfl rfl (new_cells _ _ _) (by omega) (by omega) (by simp; omega) ?_; intro A4 c4 l4 w4 HL4 HO4 hB hl1 hl2 _; have HO4' := Lib.hid HO4; have HB4 := Lib.hid hB; clear HO4 hB)
      go_roundw
      case rel => exact ⟨k + 1, by omega, A4, c4, l4, Lib.hid (by rw [HL4.out, HL3.out, List.replicate_succ']; simp), rfl, HO4'.out, (HX.out.alloc _).grown HB4.out (Nat.le_refl _)⟩
      case measure => simp [lenOf]; omega
    · have ht : ((l3.length : Int) % 64 != 56) = false := by rw [bne_eq_false_iff_eq]; unfold zn at hkz hk; omega
      have HL5 : Hid (l3 = m ++ 128 :: List.replicate (zn m.length) 0) := Lib.hid (by rw [HL3.out]; congr 3; omega)
      clear HL3
      go_wp2
      clear ht hll1 hll2 hkz hk
      go_loopw [3, 5] (fun v j wr => ∃ i : Nat, i ≤ 8 ∧ j = .int .i64 i ∧ OwnRel w w.heap.size (m ++ (128 :: List.replicate (zn m.length) 0 ++ (Sha.be8 (8 * m.length)).take i)) wr v) (fun _ j _ => 8 - (intOf j).toNat)
      case atStart => exact ⟨0, Nat.zero_le _, rfl, A3, c3, l3, Lib.hid (by rw [HL5.out]; simp), rfl, HO.out, HX.out⟩
      case round =>
        obtain ⟨i, hi, rfl, A4, c4, l4, HL4, rfl, ho, hx⟩ := hrel
        have hll : l4.length ≤ m.length + 72 := by rw [HL4.out]; simp; omega
        have HO := Lib.hid ho
        have HX := Lib.hid hx
        have hsz := hx.size
        clear ho hx
        by_cases hi8 : i < 8
        · have HT := Lib.hid (be8_snoc m.length hi8)
          obtain ⟨b, hbv⟩ : ∃ b : Int, 8 * (m.length : Int) / 2 ^ (56 - 8 * i) % 256 = b := ⟨_, rfl⟩
          rw [hbv] at HT
          go_wp2_with (at_builtin; refine app_from bT bE rfl _ _ rfl w.heap.size _ _ l4 rfl (HO.out.alloc _) _ 1 _ [b] rfl rfl (new_cells _ _ _) (by omega) (by omega) (by simp; omega) ?_; intro A6 c6 l6 w6 HL6 HO6 hB hl1 hl2 _; have HO6' := Lib.hid HO6; have HB6 := Lib.hid hB; clear HO6 hB)
          go_roundw
          case rel => exact ⟨i + 1, by omega, by go_num, A6, c6, l6, Lib.hid (by rw [HL6.out, HL4.out, HT.out]; simp), rfl, HO6'.out, (HX.out.alloc _).grown HB6.out (Nat.le_refl _)⟩
          case measure => simp [intOf]; omega
        · have e : l4 = Sha.padded m := by rw [HL4.out, Sha.padded, pad_eq, List.take_of_length_le (by simp [Sha.be8]; omega)]
          have HE := Lib.hid e
          clear e
          go_wp2
          go_ret
          have e := HE.out
          subst e
          exact ⟨A4, c4, rfl, HO.out, HX.out⟩
end Go.Proofs.YtiacnoejlmaplaaGreatDoor
