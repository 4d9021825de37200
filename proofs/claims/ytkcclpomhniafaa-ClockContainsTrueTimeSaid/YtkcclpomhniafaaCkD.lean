/- Walks of the clock: Sync, of the program and of the specification. -/
import Derived.Test.YtkcclpomhniafaaRows
import Derived.Test.YtkcclpomhniafaaExt
import Derived.WalkKit
import Derived.WalkSpells
import Derived.WalkLawsBesides
import Derived.Deep.QuietTactic
import Derived.BigQuiet
import Derived.Test.YtkcclpomhniafaaCkB
set_option linter.unusedVariables false
set_option linter.unusedSimpArgs false
namespace Go.Proofs.Ytkcclpomhniafaa
open Go.RowKit

theorem sync_arg (L lo hi D t a b : Int) (w : World) (hv : vld a b = false) :
    Calls Try.prog 16 #[.agg #[.int .i64 L, .int .i64 lo, .int .i64 hi, .int .i64 D], .int .i64 t, .agg #[.int .i64 a, .int .i64 b]] w fun e w' => e = .returned (.tuple #[.agg #[.int .i64 0, .int .i64 0, .int .i64 0, .int .i64 0], .int .i64 1]) ∧ Ext w w' := by
  have HV := Lib.hid hv
  clear hv
  go_enter Try.func16, Try.ntmps16
  go_wp2_with (go_at_call 33; refine (valid_any _ _ _).mono ?_; rintro e w' ⟨rfl, hxl⟩; obtain ⟨xl, rfl⟩ := hxl.asLater; clear hxl; rw [HV.out])
  refine bodyPost_ret (v := .tuple #[.agg #[.int .i64 0, .int .i64 0, .int .i64 0, .int .i64 0], .int .i64 1]) ?_ rfl ⟨rfl, (by (repeat (first | with_reducible exact Ext.refl _ | with_reducible refine Ext.drew ?_ | with_reducible refine Ext.drewN ?_ _ | with_reducible refine Ext.alloc ?_ _ | with_reducible refine Ext.onto ?_ _ | with_reducible refine Ext.setCell ?_ ?_ _)); all_goals (simp; try omega))⟩
  simp [results, Try.results16, go_sem, ↓IntWalk.iteOmega]
theorem sync_read1 (L lo hi D t a b : Int) (w : World) (hv : vld a b = true) (ht : t < 0 ∨ 2199023255552 < t) :
    Calls Try.prog 16 #[.agg #[.int .i64 L, .int .i64 lo, .int .i64 hi, .int .i64 D], .int .i64 t, .agg #[.int .i64 a, .int .i64 b]] w fun e w' => e = .returned (.tuple #[.agg #[.int .i64 0, .int .i64 0, .int .i64 0, .int .i64 0], .int .i64 1]) ∧ Ext w w' := by
  have HV := Lib.hid hv
  have HT := Lib.hid ht
  clear hv ht
  go_enter Try.func16, Try.ntmps16
  go_wp2_with (first | (go_at_call 33; refine (valid_any _ _ _).mono ?_; rintro e w' ⟨rfl, hxl⟩; obtain ⟨xl, rfl⟩ := hxl.asLater; clear hxl; rw [HV.out]) | (go_at_call 14; refine (read_arg _ _ _ _ _ _ HT.out).mono ?_; rintro e w' ⟨rfl, hxl⟩; obtain ⟨xl, rfl⟩ := hxl.asLater; clear hxl))
  refine bodyPost_ret (v := .tuple #[.agg #[.int .i64 0, .int .i64 0, .int .i64 0, .int .i64 0], .int .i64 1]) ?_ rfl ⟨rfl, (by (repeat (first | with_reducible exact Ext.refl _ | with_reducible refine Ext.drew ?_ | with_reducible refine Ext.drewN ?_ _ | with_reducible refine Ext.alloc ?_ _ | with_reducible refine Ext.onto ?_ _ | with_reducible refine Ext.setCell ?_ ?_ _)); all_goals (simp; try omega))⟩
  simp [results, Try.results16, go_sem, ↓IntWalk.iteOmega]
theorem sync_read9 (L lo hi D t a b : Int) (w : World) (hv : vld a b = true) (hr : CkR L lo hi D) (h0 : 0 ≤ t) (ht : t < L) :
    Calls Try.prog 16 #[.agg #[.int .i64 L, .int .i64 lo, .int .i64 hi, .int .i64 D], .int .i64 t, .agg #[.int .i64 a, .int .i64 b]] w fun e w' => e = .returned (.tuple #[.agg #[.int .i64 0, .int .i64 0, .int .i64 0, .int .i64 0], .int .i64 9]) ∧ Ext w w' := by
  have HV := Lib.hid hv
  have h1 := hr.l1
  clear hv hr
  go_enter Try.func16, Try.ntmps16
  go_wp2_with (first | (go_at_call 33; refine (valid_any _ _ _).mono ?_; rintro e w' ⟨rfl, hxl⟩; obtain ⟨xl, rfl⟩ := hxl.asLater; clear hxl; rw [HV.out]) | (go_at_call 14; refine (read_time _ _ _ _ _ _ (by omega) (by omega) (by omega) (by omega)).mono ?_; rintro e w' ⟨rfl, hxl⟩; obtain ⟨xl, rfl⟩ := hxl.asLater; clear hxl))
  refine bodyPost_ret (v := .tuple #[.agg #[.int .i64 0, .int .i64 0, .int .i64 0, .int .i64 0], .int .i64 9]) ?_ rfl ⟨rfl, (by (repeat (first | with_reducible exact Ext.refl _ | with_reducible refine Ext.drew ?_ | with_reducible refine Ext.drewN ?_ _ | with_reducible refine Ext.alloc ?_ _ | with_reducible refine Ext.onto ?_ _ | with_reducible refine Ext.setCell ?_ ?_ _)); all_goals (simp; try omega))⟩
  simp [results, Try.results16, go_sem, ↓IntWalk.iteOmega]
theorem sync_no (L lo hi D t a b : Int) (w : World) (hv : vld a b = true) (hr : CkR L lo hi D) (ht : L ≤ t) (ht1 : t ≤ 2199023255552) (hm : meetIs (rdLo L lo D t) (rdHi L hi D t) a b = false) :
    Calls Try.prog 16 #[.agg #[.int .i64 L, .int .i64 lo, .int .i64 hi, .int .i64 D], .int .i64 t, .agg #[.int .i64 a, .int .i64 b]] w fun e w' => e = .returned (.tuple #[.agg #[.int .i64 0, .int .i64 0, .int .i64 0, .int .i64 0], .int .i64 9]) ∧ Ext w w' := by
  have HV := Lib.hid hv
  have HM := Lib.hid hm
  clear hv hm
  go_enter Try.func16, Try.ntmps16
  go_wp2_with (first | (go_at_call 33; refine (valid_any _ _ _).mono ?_; rintro e w' ⟨rfl, hxl⟩; obtain ⟨xl, rfl⟩ := hxl.asLater; clear hxl; rw [HV.out]) | (go_at_call 14; refine (read_ok _ _ _ _ _ _ hr.l0 hr.a hr.b hr.c hr.d0 hr.d1 ht ht1).mono ?_; rintro e w' ⟨rfl, hxl⟩; obtain ⟨xl, rfl⟩ := hxl.asLater; clear hxl) | (go_at_call 30; refine (meet_any _ _ _ _ _).mono ?_; rintro e w' ⟨rfl, hxl⟩; obtain ⟨xl, rfl⟩ := hxl.asLater; clear hxl; rw [HM.out]))
  refine bodyPost_ret (v := .tuple #[.agg #[.int .i64 0, .int .i64 0, .int .i64 0, .int .i64 0], .int .i64 9]) ?_ rfl ⟨rfl, (by (repeat (first | with_reducible exact Ext.refl _ | with_reducible refine Ext.drew ?_ | with_reducible refine Ext.drewN ?_ _ | with_reducible refine Ext.alloc ?_ _ | with_reducible refine Ext.onto ?_ _ | with_reducible refine Ext.setCell ?_ ?_ _)); all_goals (simp; try omega))⟩
  simp [results, Try.results16, go_sem, ↓IntWalk.iteOmega]
theorem sync_ok (L lo hi D t a b : Int) (w : World) (hv : vld a b = true) (hr : CkR L lo hi D) (ht : L ≤ t) (ht1 : t ≤ 2199023255552) (hm : meetIs (rdLo L lo D t) (rdHi L hi D t) a b = true) :
    Calls Try.prog 16 #[.agg #[.int .i64 L, .int .i64 lo, .int .i64 hi, .int .i64 D], .int .i64 t, .agg #[.int .i64 a, .int .i64 b]] w fun e w' => e = .returned (.tuple #[.agg #[.int .i64 t, .int .i64 (meetLo (rdLo L lo D t) (rdHi L hi D t) a b), .int .i64 (meetHi (rdLo L lo D t) (rdHi L hi D t) a b), .int .i64 D], .int .i64 0]) ∧ Ext w w' := by
  have HV := Lib.hid hv
  have HM := Lib.hid hm
  clear hv hm
  go_enter Try.func16, Try.ntmps16
  go_wp2_with (first | (go_at_call 33; refine (valid_any _ _ _).mono ?_; rintro e w' ⟨rfl, hxl⟩; obtain ⟨xl, rfl⟩ := hxl.asLater; clear hxl; rw [HV.out]) | (go_at_call 14; refine (read_ok _ _ _ _ _ _ hr.l0 hr.a hr.b hr.c hr.d0 hr.d1 ht ht1).mono ?_; rintro e w' ⟨rfl, hxl⟩; obtain ⟨xl, rfl⟩ := hxl.asLater; clear hxl) | (go_at_call 30; refine (meet_any _ _ _ _ _).mono ?_; rintro e w' ⟨rfl, hxl⟩; obtain ⟨xl, rfl⟩ := hxl.asLater; clear hxl; rw [HM.out]))
  refine bodyPost_ret (v := .tuple #[.agg #[.int .i64 t, .int .i64 (meetLo (rdLo L lo D t) (rdHi L hi D t) a b), .int .i64 (meetHi (rdLo L lo D t) (rdHi L hi D t) a b), .int .i64 D], .int .i64 0]) ?_ rfl ⟨rfl, (by (repeat (first | with_reducible exact Ext.refl _ | with_reducible refine Ext.drew ?_ | with_reducible refine Ext.drewN ?_ _ | with_reducible refine Ext.alloc ?_ _ | with_reducible refine Ext.onto ?_ _ | with_reducible refine Ext.setCell ?_ ?_ _)); all_goals (simp; try omega))⟩
  simp [results, Try.results16, go_sem, ↓IntWalk.iteOmega]
theorem rsync_arg (L lo hi D t a b : Int) (w : World) (hv : vld a b = false) :
    Calls Try.prog 17 #[.agg #[.int .i64 L, .int .i64 lo, .int .i64 hi, .int .i64 D], .int .i64 t, .agg #[.int .i64 a, .int .i64 b]] w fun e w' => e = .returned (.agg #[.int .i64 0, .int .i64 0, .int .i64 0, .int .i64 0, .int .i64 1]) ∧ Ext w w' := by
  have HV := Lib.hid hv
  clear hv
  go_enter Try.func17, Try.ntmps17
  go_wp2_with (go_at_call 25; refine (rvalid_any _ _ _).mono ?_; rintro e w' ⟨rfl, hxl⟩; obtain ⟨xl, rfl⟩ := hxl.asLater; clear hxl; rw [HV.out])
  refine bodyPost_ret (v := .agg #[.int .i64 0, .int .i64 0, .int .i64 0, .int .i64 0, .int .i64 1]) ?_ rfl ⟨rfl, (by (repeat (first | with_reducible exact Ext.refl _ | with_reducible refine Ext.drew ?_ | with_reducible refine Ext.drewN ?_ _ | with_reducible refine Ext.alloc ?_ _ | with_reducible refine Ext.onto ?_ _ | with_reducible refine Ext.setCell ?_ ?_ _)); all_goals (simp; try omega))⟩
  simp [results, Try.results17, go_sem, ↓IntWalk.iteOmega]
theorem rsync_read1 (L lo hi D t a b : Int) (w : World) (hv : vld a b = true) (ht : t < 0 ∨ 2199023255552 < t) :
    Calls Try.prog 17 #[.agg #[.int .i64 L, .int .i64 lo, .int .i64 hi, .int .i64 D], .int .i64 t, .agg #[.int .i64 a, .int .i64 b]] w fun e w' => e = .returned (.agg #[.int .i64 0, .int .i64 0, .int .i64 0, .int .i64 0, .int .i64 1]) ∧ Ext w w' := by
  have HV := Lib.hid hv
  have HT := Lib.hid ht
  clear hv ht
  go_enter Try.func17, Try.ntmps17
  go_wp2_with (first | (go_at_call 25; refine (rvalid_any _ _ _).mono ?_; rintro e w' ⟨rfl, hxl⟩; obtain ⟨xl, rfl⟩ := hxl.asLater; clear hxl; rw [HV.out]) | (go_at_call 15; refine (rread_arg _ _ _ _ _ _ HT.out).mono ?_; rintro e w' ⟨rfl, hxl⟩; obtain ⟨xl, rfl⟩ := hxl.asLater; clear hxl))
  refine bodyPost_ret (v := .agg #[.int .i64 0, .int .i64 0, .int .i64 0, .int .i64 0, .int .i64 1]) ?_ rfl ⟨rfl, (by (repeat (first | with_reducible exact Ext.refl _ | with_reducible refine Ext.drew ?_ | with_reducible refine Ext.drewN ?_ _ | with_reducible refine Ext.alloc ?_ _ | with_reducible refine Ext.onto ?_ _ | with_reducible refine Ext.setCell ?_ ?_ _)); all_goals (simp; try omega))⟩
  simp [results, Try.results17, go_sem, ↓IntWalk.iteOmega]
theorem rsync_read9 (L lo hi D t a b : Int) (w : World) (hv : vld a b = true) (hr : CkR L lo hi D) (h0 : 0 ≤ t) (ht : t < L) :
    Calls Try.prog 17 #[.agg #[.int .i64 L, .int .i64 lo, .int .i64 hi, .int .i64 D], .int .i64 t, .agg #[.int .i64 a, .int .i64 b]] w fun e w' => e = .returned (.agg #[.int .i64 0, .int .i64 0, .int .i64 0, .int .i64 0, .int .i64 9]) ∧ Ext w w' := by
  have HV := Lib.hid hv
  have h1 := hr.l1
  clear hv hr
  go_enter Try.func17, Try.ntmps17
  go_wp2_with (first | (go_at_call 25; refine (rvalid_any _ _ _).mono ?_; rintro e w' ⟨rfl, hxl⟩; obtain ⟨xl, rfl⟩ := hxl.asLater; clear hxl; rw [HV.out]) | (go_at_call 15; refine (rread_time _ _ _ _ _ _ (by omega) (by omega) (by omega) (by omega)).mono ?_; rintro e w' ⟨rfl, hxl⟩; obtain ⟨xl, rfl⟩ := hxl.asLater; clear hxl))
  refine bodyPost_ret (v := .agg #[.int .i64 0, .int .i64 0, .int .i64 0, .int .i64 0, .int .i64 9]) ?_ rfl ⟨rfl, (by (repeat (first | with_reducible exact Ext.refl _ | with_reducible refine Ext.drew ?_ | with_reducible refine Ext.drewN ?_ _ | with_reducible refine Ext.alloc ?_ _ | with_reducible refine Ext.onto ?_ _ | with_reducible refine Ext.setCell ?_ ?_ _)); all_goals (simp; try omega))⟩
  simp [results, Try.results17, go_sem, ↓IntWalk.iteOmega]
theorem rsync_no (L lo hi D t a b : Int) (w : World) (hv : vld a b = true) (hr : CkR L lo hi D) (ht : L ≤ t) (ht1 : t ≤ 2199023255552) (hm : meetIs (rdLo L lo D t) (rdHi L hi D t) a b = false) :
    Calls Try.prog 17 #[.agg #[.int .i64 L, .int .i64 lo, .int .i64 hi, .int .i64 D], .int .i64 t, .agg #[.int .i64 a, .int .i64 b]] w fun e w' => e = .returned (.agg #[.int .i64 0, .int .i64 0, .int .i64 0, .int .i64 0, .int .i64 9]) ∧ Ext w w' := by
  have HV := Lib.hid hv
  have HM := Lib.hid hm
  clear hv hm
  go_enter Try.func17, Try.ntmps17
  go_wp2_with (first | (go_at_call 25; refine (rvalid_any _ _ _).mono ?_; rintro e w' ⟨rfl, hxl⟩; obtain ⟨xl, rfl⟩ := hxl.asLater; clear hxl; rw [HV.out]) | (go_at_call 15; refine (rread_ok _ _ _ _ _ _ hr.l0 hr.a hr.b hr.c hr.d0 hr.d1 ht ht1).mono ?_; rintro e w' ⟨rfl, hxl⟩; obtain ⟨xl, rfl⟩ := hxl.asLater; clear hxl) | (go_at_call 34; refine (rmeet_any _ _ _ _ _).mono ?_; rintro e w' ⟨rfl, hxl⟩; obtain ⟨xl, rfl⟩ := hxl.asLater; clear hxl; rw [HM.out]))
  refine bodyPost_ret (v := .agg #[.int .i64 0, .int .i64 0, .int .i64 0, .int .i64 0, .int .i64 9]) ?_ rfl ⟨rfl, (by (repeat (first | with_reducible exact Ext.refl _ | with_reducible refine Ext.drew ?_ | with_reducible refine Ext.drewN ?_ _ | with_reducible refine Ext.alloc ?_ _ | with_reducible refine Ext.onto ?_ _ | with_reducible refine Ext.setCell ?_ ?_ _)); all_goals (simp; try omega))⟩
  simp [results, Try.results17, go_sem, ↓IntWalk.iteOmega]
theorem rsync_ok (L lo hi D t a b : Int) (w : World) (hv : vld a b = true) (hr : CkR L lo hi D) (ht : L ≤ t) (ht1 : t ≤ 2199023255552) (hm : meetIs (rdLo L lo D t) (rdHi L hi D t) a b = true) :
    Calls Try.prog 17 #[.agg #[.int .i64 L, .int .i64 lo, .int .i64 hi, .int .i64 D], .int .i64 t, .agg #[.int .i64 a, .int .i64 b]] w fun e w' => e = .returned (.agg #[.int .i64 t, .int .i64 (meetLo (rdLo L lo D t) (rdHi L hi D t) a b), .int .i64 (meetHi (rdLo L lo D t) (rdHi L hi D t) a b), .int .i64 D, .int .i64 0]) ∧ Ext w w' := by
  have HV := Lib.hid hv
  have HM := Lib.hid hm
  clear hv hm
  go_enter Try.func17, Try.ntmps17
  go_wp2_with (first | (go_at_call 25; refine (rvalid_any _ _ _).mono ?_; rintro e w' ⟨rfl, hxl⟩; obtain ⟨xl, rfl⟩ := hxl.asLater; clear hxl; rw [HV.out]) | (go_at_call 15; refine (rread_ok _ _ _ _ _ _ hr.l0 hr.a hr.b hr.c hr.d0 hr.d1 ht ht1).mono ?_; rintro e w' ⟨rfl, hxl⟩; obtain ⟨xl, rfl⟩ := hxl.asLater; clear hxl) | (go_at_call 34; refine (rmeet_any _ _ _ _ _).mono ?_; rintro e w' ⟨rfl, hxl⟩; obtain ⟨xl, rfl⟩ := hxl.asLater; clear hxl; rw [HM.out]))
  refine bodyPost_ret (v := .agg #[.int .i64 t, .int .i64 (meetLo (rdLo L lo D t) (rdHi L hi D t) a b), .int .i64 (meetHi (rdLo L lo D t) (rdHi L hi D t) a b), .int .i64 D, .int .i64 0]) ?_ rfl ⟨rfl, (by (repeat (first | with_reducible exact Ext.refl _ | with_reducible refine Ext.drew ?_ | with_reducible refine Ext.drewN ?_ _ | with_reducible refine Ext.alloc ?_ _ | with_reducible refine Ext.onto ?_ _ | with_reducible refine Ext.setCell ?_ ?_ _)); all_goals (simp; try omega))⟩
  simp [results, Try.results17, go_sem, ↓IntWalk.iteOmega]
end Go.Proofs.Ytkcclpomhniafaa
