/- The law ClockReadsAsSpecified, walked: it returns true for every clock, reading and period. -/
import Derived.Test.YtkcclpomhniafaaRows
import Derived.Test.YtkcclpomhniafaaExt
import Derived.WalkKit
import Derived.WalkSpells
import Derived.WalkLawsBesides
import Derived.Deep.QuietTactic
import Derived.BigQuiet
import Derived.Test.YtkcclpomhniafaaCkJ
set_option linter.unusedVariables false
set_option linter.unusedSimpArgs false
namespace Go.Proofs.Ytkcclpomhniafaa
open Go.RowKit

set_option maxHeartbeats 1000000 in
theorem law1_bad (L lo hi D t a b : Int) (w : World) (hr : ¬ CkR L lo hi D) :
    Calls Try.prog 3 #[.agg #[.int .i64 L, .int .i64 lo, .int .i64 hi, .int .i64 D], .int .i64 t, .agg #[.int .i64 a, .int .i64 b]] w fun e w' => e = .returned (.bool true) ∧ Ext w w' := by
  have HR := Lib.hid hr
  clear hr
  go_enter Try.func3, Try.ntmps3
  go_wp2_with (first
    | (go_at_call 10; refine (new_bad _ _ _ _ _ HR.out).mono ?_; rintro e w' ⟨rfl, hx⟩; obtain ⟨x, rfl⟩ := hx.asLater; clear hx)
    | (go_at_call 11; refine (rcheck_bad _ _ _ _ _ HR.out).mono ?_; rintro e w' ⟨rfl, hx⟩; obtain ⟨x, rfl⟩ := hx.asLater; clear hx)
    | (go_at_call 12; refine (check_bad _ _ _ _ _ HR.out).mono ?_; rintro e w' ⟨rfl, hx⟩; obtain ⟨x, rfl⟩ := hx.asLater; clear hx)
    | (go_at_call 13; refine (sanity_any _).mono ?_; rintro e w' ⟨rfl, hx⟩; obtain ⟨x, rfl⟩ := hx.asLater; clear hx))
  go_ret
  exact ⟨rfl, (by (repeat (first | with_reducible exact Ext.refl _ | with_reducible refine Ext.drew ?_ | with_reducible refine Ext.drewN ?_ _ | with_reducible refine Ext.alloc ?_ _ | with_reducible refine Ext.onto ?_ _ | with_reducible refine Ext.setCell ?_ ?_ _)); all_goals (simp; try omega))⟩

set_option maxHeartbeats 1000000 in
theorem law1_arg (L lo hi D t a b : Int) (w : World) (hr : CkR L lo hi D) (ht : t < 0 ∨ 2199023255552 < t) :
    Calls Try.prog 3 #[.agg #[.int .i64 L, .int .i64 lo, .int .i64 hi, .int .i64 D], .int .i64 t, .agg #[.int .i64 a, .int .i64 b]] w fun e w' => e = .returned (.bool true) ∧ Ext w w' := by
  have HR := Lib.hid hr
  have HT := Lib.hid ht
  clear hr ht
  by_cases hv : vld a b = true
  · have HV := Lib.hid hv
    clear hv
    go_enter Try.func3, Try.ntmps3
    go_wp2_with (first
      | (go_at_call 10; refine (new_ok _ _ _ _ _ HR.out).mono ?_; rintro e w' ⟨rfl, hx⟩; obtain ⟨x, rfl⟩ := hx.asLater; clear hx)
      | (go_at_call 11; refine (rcheck_ok _ _ _ _ _ HR.out).mono ?_; rintro e w' ⟨rfl, hx⟩; obtain ⟨x, rfl⟩ := hx.asLater; clear hx)
      | (go_at_call 12; refine (check_ok _ _ _ _ _ HR.out).mono ?_; rintro e w' ⟨rfl, hx⟩; obtain ⟨x, rfl⟩ := hx.asLater; clear hx)
      | (go_at_call 14; refine (read_arg _ _ _ _ _ _ HT.out).mono ?_; rintro e w' ⟨rfl, hx⟩; obtain ⟨x, rfl⟩ := hx.asLater; clear hx)
      | (go_at_call 15; refine (rread_arg _ _ _ _ _ _ HT.out).mono ?_; rintro e w' ⟨rfl, hx⟩; obtain ⟨x, rfl⟩ := hx.asLater; clear hx)
      | (go_at_call 16; refine (sync_read1 _ _ _ _ _ _ _ _ HV.out HT.out).mono ?_; rintro e w' ⟨rfl, hx⟩; obtain ⟨x, rfl⟩ := hx.asLater; clear hx)
      | (go_at_call 17; refine (rsync_read1 _ _ _ _ _ _ _ _ HV.out HT.out).mono ?_; rintro e w' ⟨rfl, hx⟩; obtain ⟨x, rfl⟩ := hx.asLater; clear hx)
      | (go_at_call 13; refine (sanity_any _).mono ?_; rintro e w' ⟨rfl, hx⟩; obtain ⟨x, rfl⟩ := hx.asLater; clear hx))
    go_ret
    exact ⟨rfl, (by (repeat (first | with_reducible exact Ext.refl _ | with_reducible refine Ext.drew ?_ | with_reducible refine Ext.drewN ?_ _ | with_reducible refine Ext.alloc ?_ _ | with_reducible refine Ext.onto ?_ _ | with_reducible refine Ext.setCell ?_ ?_ _)); all_goals (simp; try omega))⟩
  · have HV : Hid (vld a b = false) := Lib.hid (by simpa using hv)
    clear hv
    go_enter Try.func3, Try.ntmps3
    go_wp2_with (first
      | (go_at_call 10; refine (new_ok _ _ _ _ _ HR.out).mono ?_; rintro e w' ⟨rfl, hx⟩; obtain ⟨x, rfl⟩ := hx.asLater; clear hx)
      | (go_at_call 11; refine (rcheck_ok _ _ _ _ _ HR.out).mono ?_; rintro e w' ⟨rfl, hx⟩; obtain ⟨x, rfl⟩ := hx.asLater; clear hx)
      | (go_at_call 12; refine (check_ok _ _ _ _ _ HR.out).mono ?_; rintro e w' ⟨rfl, hx⟩; obtain ⟨x, rfl⟩ := hx.asLater; clear hx)
      | (go_at_call 14; refine (read_arg _ _ _ _ _ _ HT.out).mono ?_; rintro e w' ⟨rfl, hx⟩; obtain ⟨x, rfl⟩ := hx.asLater; clear hx)
      | (go_at_call 15; refine (rread_arg _ _ _ _ _ _ HT.out).mono ?_; rintro e w' ⟨rfl, hx⟩; obtain ⟨x, rfl⟩ := hx.asLater; clear hx)
      | (go_at_call 16; refine (sync_arg _ _ _ _ _ _ _ _ HV.out).mono ?_; rintro e w' ⟨rfl, hx⟩; obtain ⟨x, rfl⟩ := hx.asLater; clear hx)
      | (go_at_call 17; refine (rsync_arg _ _ _ _ _ _ _ _ HV.out).mono ?_; rintro e w' ⟨rfl, hx⟩; obtain ⟨x, rfl⟩ := hx.asLater; clear hx)
      | (go_at_call 13; refine (sanity_any _).mono ?_; rintro e w' ⟨rfl, hx⟩; obtain ⟨x, rfl⟩ := hx.asLater; clear hx))
    go_ret
    exact ⟨rfl, (by (repeat (first | with_reducible exact Ext.refl _ | with_reducible refine Ext.drew ?_ | with_reducible refine Ext.drewN ?_ _ | with_reducible refine Ext.alloc ?_ _ | with_reducible refine Ext.onto ?_ _ | with_reducible refine Ext.setCell ?_ ?_ _)); all_goals (simp; try omega))⟩

set_option maxHeartbeats 1000000 in
theorem law1_time (L lo hi D t a b : Int) (w : World) (hr : CkR L lo hi D) (ht : 0 ≤ t) (ht1 : t < L) :
    Calls Try.prog 3 #[.agg #[.int .i64 L, .int .i64 lo, .int .i64 hi, .int .i64 D], .int .i64 t, .agg #[.int .i64 a, .int .i64 b]] w fun e w' => e = .returned (.bool true) ∧ Ext w w' := by
  have HR := Lib.hid hr
  have hl := hr.l1
  clear hr
  by_cases hv : vld a b = true
  · have HV := Lib.hid hv
    clear hv
    go_enter Try.func3, Try.ntmps3
    go_wp2_with (first
      | (go_at_call 10; refine (new_ok _ _ _ _ _ HR.out).mono ?_; rintro e w' ⟨rfl, hx⟩; obtain ⟨x, rfl⟩ := hx.asLater; clear hx)
      | (go_at_call 11; refine (rcheck_ok _ _ _ _ _ HR.out).mono ?_; rintro e w' ⟨rfl, hx⟩; obtain ⟨x, rfl⟩ := hx.asLater; clear hx)
      | (go_at_call 12; refine (check_ok _ _ _ _ _ HR.out).mono ?_; rintro e w' ⟨rfl, hx⟩; obtain ⟨x, rfl⟩ := hx.asLater; clear hx)
      | (go_at_call 14; refine (read_time _ _ _ _ _ _ (by omega) ht (by omega) ht1).mono ?_; rintro e w' ⟨rfl, hx⟩; obtain ⟨x, rfl⟩ := hx.asLater; clear hx)
      | (go_at_call 15; refine (rread_time _ _ _ _ _ _ (by omega) ht (by omega) ht1).mono ?_; rintro e w' ⟨rfl, hx⟩; obtain ⟨x, rfl⟩ := hx.asLater; clear hx)
      | (go_at_call 16; refine (sync_read9 _ _ _ _ _ _ _ _ HV.out HR.out ht ht1).mono ?_; rintro e w' ⟨rfl, hx⟩; obtain ⟨x, rfl⟩ := hx.asLater; clear hx)
      | (go_at_call 17; refine (rsync_read9 _ _ _ _ _ _ _ _ HV.out HR.out ht ht1).mono ?_; rintro e w' ⟨rfl, hx⟩; obtain ⟨x, rfl⟩ := hx.asLater; clear hx)
      | (go_at_call 13; refine (sanity_any _).mono ?_; rintro e w' ⟨rfl, hx⟩; obtain ⟨x, rfl⟩ := hx.asLater; clear hx))
    go_ret
    exact ⟨rfl, (by (repeat (first | with_reducible exact Ext.refl _ | with_reducible refine Ext.drew ?_ | with_reducible refine Ext.drewN ?_ _ | with_reducible refine Ext.alloc ?_ _ | with_reducible refine Ext.onto ?_ _ | with_reducible refine Ext.setCell ?_ ?_ _)); all_goals (simp; try omega))⟩
  · have HV : Hid (vld a b = false) := Lib.hid (by simpa using hv)
    clear hv
    go_enter Try.func3, Try.ntmps3
    go_wp2_with (first
      | (go_at_call 10; refine (new_ok _ _ _ _ _ HR.out).mono ?_; rintro e w' ⟨rfl, hx⟩; obtain ⟨x, rfl⟩ := hx.asLater; clear hx)
      | (go_at_call 11; refine (rcheck_ok _ _ _ _ _ HR.out).mono ?_; rintro e w' ⟨rfl, hx⟩; obtain ⟨x, rfl⟩ := hx.asLater; clear hx)
      | (go_at_call 12; refine (check_ok _ _ _ _ _ HR.out).mono ?_; rintro e w' ⟨rfl, hx⟩; obtain ⟨x, rfl⟩ := hx.asLater; clear hx)
      | (go_at_call 14; refine (read_time _ _ _ _ _ _ (by omega) ht (by omega) ht1).mono ?_; rintro e w' ⟨rfl, hx⟩; obtain ⟨x, rfl⟩ := hx.asLater; clear hx)
      | (go_at_call 15; refine (rread_time _ _ _ _ _ _ (by omega) ht (by omega) ht1).mono ?_; rintro e w' ⟨rfl, hx⟩; obtain ⟨x, rfl⟩ := hx.asLater; clear hx)
      | (go_at_call 16; refine (sync_arg _ _ _ _ _ _ _ _ HV.out).mono ?_; rintro e w' ⟨rfl, hx⟩; obtain ⟨x, rfl⟩ := hx.asLater; clear hx)
      | (go_at_call 17; refine (rsync_arg _ _ _ _ _ _ _ _ HV.out).mono ?_; rintro e w' ⟨rfl, hx⟩; obtain ⟨x, rfl⟩ := hx.asLater; clear hx)
      | (go_at_call 13; refine (sanity_any _).mono ?_; rintro e w' ⟨rfl, hx⟩; obtain ⟨x, rfl⟩ := hx.asLater; clear hx))
    go_ret
    exact ⟨rfl, (by (repeat (first | with_reducible exact Ext.refl _ | with_reducible refine Ext.drew ?_ | with_reducible refine Ext.drewN ?_ _ | with_reducible refine Ext.alloc ?_ _ | with_reducible refine Ext.onto ?_ _ | with_reducible refine Ext.setCell ?_ ?_ _)); all_goals (simp; try omega))⟩

set_option maxHeartbeats 1000000 in
theorem law1_ok (L lo hi D t a b : Int) (w : World) (hr : CkR L lo hi D) (ht : L ≤ t) (ht1 : t ≤ 2199023255552) :
    Calls Try.prog 3 #[.agg #[.int .i64 L, .int .i64 lo, .int .i64 hi, .int .i64 D], .int .i64 t, .agg #[.int .i64 a, .int .i64 b]] w fun e w' => e = .returned (.bool true) ∧ Ext w w' := by
  have HR := Lib.hid hr
  clear hr
  by_cases hv : vld a b = true
  · have HV := Lib.hid hv
    clear hv
    by_cases hm : meetIs (rdLo L lo D t) (rdHi L hi D t) a b = true
    · have HM := Lib.hid hm
      clear hm
      go_enter Try.func3, Try.ntmps3
      go_wp2_with (first
        | (go_at_call 10; refine (new_ok _ _ _ _ _ HR.out).mono ?_; rintro e w' ⟨rfl, hx⟩; obtain ⟨x, rfl⟩ := hx.asLater; clear hx)
        | (go_at_call 11; refine (rcheck_ok _ _ _ _ _ HR.out).mono ?_; rintro e w' ⟨rfl, hx⟩; obtain ⟨x, rfl⟩ := hx.asLater; clear hx)
        | (go_at_call 12; refine (check_ok _ _ _ _ _ HR.out).mono ?_; rintro e w' ⟨rfl, hx⟩; obtain ⟨x, rfl⟩ := hx.asLater; clear hx)
        | (go_at_call 14; refine (read_ok _ _ _ _ _ _ HR.out.l0 HR.out.a HR.out.b HR.out.c HR.out.d0 HR.out.d1 ht ht1).mono ?_; rintro e w' ⟨rfl, hx⟩; obtain ⟨x, rfl⟩ := hx.asLater; clear hx)
        | (go_at_call 15; refine (rread_ok _ _ _ _ _ _ HR.out.l0 HR.out.a HR.out.b HR.out.c HR.out.d0 HR.out.d1 ht ht1).mono ?_; rintro e w' ⟨rfl, hx⟩; obtain ⟨x, rfl⟩ := hx.asLater; clear hx)
        | (go_at_call 16; refine (sync_ok _ _ _ _ _ _ _ _ HV.out HR.out ht ht1 HM.out).mono ?_; rintro e w' ⟨rfl, hx⟩; obtain ⟨x, rfl⟩ := hx.asLater; clear hx)
        | (go_at_call 17; refine (rsync_ok _ _ _ _ _ _ _ _ HV.out HR.out ht ht1 HM.out).mono ?_; rintro e w' ⟨rfl, hx⟩; obtain ⟨x, rfl⟩ := hx.asLater; clear hx)
        | (go_at_call 13; refine (sanity_any _).mono ?_; rintro e w' ⟨rfl, hx⟩; obtain ⟨x, rfl⟩ := hx.asLater; clear hx))
      go_ret
      exact ⟨rfl, (by (repeat (first | with_reducible exact Ext.refl _ | with_reducible refine Ext.drew ?_ | with_reducible refine Ext.drewN ?_ _ | with_reducible refine Ext.alloc ?_ _ | with_reducible refine Ext.onto ?_ _ | with_reducible refine Ext.setCell ?_ ?_ _)); all_goals (simp; try omega))⟩
    · have HM : Hid (meetIs (rdLo L lo D t) (rdHi L hi D t) a b = false) := Lib.hid (by simpa using hm)
      clear hm
      go_enter Try.func3, Try.ntmps3
      go_wp2_with (first
        | (go_at_call 10; refine (new_ok _ _ _ _ _ HR.out).mono ?_; rintro e w' ⟨rfl, hx⟩; obtain ⟨x, rfl⟩ := hx.asLater; clear hx)
        | (go_at_call 11; refine (rcheck_ok _ _ _ _ _ HR.out).mono ?_; rintro e w' ⟨rfl, hx⟩; obtain ⟨x, rfl⟩ := hx.asLater; clear hx)
        | (go_at_call 12; refine (check_ok _ _ _ _ _ HR.out).mono ?_; rintro e w' ⟨rfl, hx⟩; obtain ⟨x, rfl⟩ := hx.asLater; clear hx)
        | (go_at_call 14; refine (read_ok _ _ _ _ _ _ HR.out.l0 HR.out.a HR.out.b HR.out.c HR.out.d0 HR.out.d1 ht ht1).mono ?_; rintro e w' ⟨rfl, hx⟩; obtain ⟨x, rfl⟩ := hx.asLater; clear hx)
        | (go_at_call 15; refine (rread_ok _ _ _ _ _ _ HR.out.l0 HR.out.a HR.out.b HR.out.c HR.out.d0 HR.out.d1 ht ht1).mono ?_; rintro e w' ⟨rfl, hx⟩; obtain ⟨x, rfl⟩ := hx.asLater; clear hx)
        | (go_at_call 16; refine (sync_no _ _ _ _ _ _ _ _ HV.out HR.out ht ht1 HM.out).mono ?_; rintro e w' ⟨rfl, hx⟩; obtain ⟨x, rfl⟩ := hx.asLater; clear hx)
        | (go_at_call 17; refine (rsync_no _ _ _ _ _ _ _ _ HV.out HR.out ht ht1 HM.out).mono ?_; rintro e w' ⟨rfl, hx⟩; obtain ⟨x, rfl⟩ := hx.asLater; clear hx)
        | (go_at_call 13; refine (sanity_any _).mono ?_; rintro e w' ⟨rfl, hx⟩; obtain ⟨x, rfl⟩ := hx.asLater; clear hx))
      go_ret
      exact ⟨rfl, (by (repeat (first | with_reducible exact Ext.refl _ | with_reducible refine Ext.drew ?_ | with_reducible refine Ext.drewN ?_ _ | with_reducible refine Ext.alloc ?_ _ | with_reducible refine Ext.onto ?_ _ | with_reducible refine Ext.setCell ?_ ?_ _)); all_goals (simp; try omega))⟩
  · have HV : Hid (vld a b = false) := Lib.hid (by simpa using hv)
    clear hv
    go_enter Try.func3, Try.ntmps3
    go_wp2_with (first
      | (go_at_call 10; refine (new_ok _ _ _ _ _ HR.out).mono ?_; rintro e w' ⟨rfl, hx⟩; obtain ⟨x, rfl⟩ := hx.asLater; clear hx)
      | (go_at_call 11; refine (rcheck_ok _ _ _ _ _ HR.out).mono ?_; rintro e w' ⟨rfl, hx⟩; obtain ⟨x, rfl⟩ := hx.asLater; clear hx)
      | (go_at_call 12; refine (check_ok _ _ _ _ _ HR.out).mono ?_; rintro e w' ⟨rfl, hx⟩; obtain ⟨x, rfl⟩ := hx.asLater; clear hx)
      | (go_at_call 14; refine (read_ok _ _ _ _ _ _ HR.out.l0 HR.out.a HR.out.b HR.out.c HR.out.d0 HR.out.d1 ht ht1).mono ?_; rintro e w' ⟨rfl, hx⟩; obtain ⟨x, rfl⟩ := hx.asLater; clear hx)
      | (go_at_call 15; refine (rread_ok _ _ _ _ _ _ HR.out.l0 HR.out.a HR.out.b HR.out.c HR.out.d0 HR.out.d1 ht ht1).mono ?_; rintro e w' ⟨rfl, hx⟩; obtain ⟨x, rfl⟩ := hx.asLater; clear hx)
      | (go_at_call 16; refine (sync_arg _ _ _ _ _ _ _ _ HV.out).mono ?_; rintro e w' ⟨rfl, hx⟩; obtain ⟨x, rfl⟩ := hx.asLater; clear hx)
      | (go_at_call 17; refine (rsync_arg _ _ _ _ _ _ _ _ HV.out).mono ?_; rintro e w' ⟨rfl, hx⟩; obtain ⟨x, rfl⟩ := hx.asLater; clear hx)
      | (go_at_call 13; refine (sanity_any _).mono ?_; rintro e w' ⟨rfl, hx⟩; obtain ⟨x, rfl⟩ := hx.asLater; clear hx))
    go_ret
    exact ⟨rfl, (by (repeat (first | with_reducible exact Ext.refl _ | with_reducible refine Ext.drew ?_ | with_reducible refine Ext.drewN ?_ _ | with_reducible refine Ext.alloc ?_ _ | with_reducible refine Ext.onto ?_ _ | with_reducible refine Ext.setCell ?_ ?_ _)); all_goals (simp; try omega))⟩

theorem law1_any (L lo hi D t a b : Int) (w : World) :
    Calls Try.prog 3 #[.agg #[.int .i64 L, .int .i64 lo, .int .i64 hi, .int .i64 D], .int .i64 t, .agg #[.int .i64 a, .int .i64 b]] w fun e w' => e = .returned (.bool true) ∧ Ext w w' := by
  by_cases hr : CkR L lo hi D
  · by_cases h1 : t < 0
    · exact law1_arg L lo hi D t a b w hr (.inl h1)
    · by_cases h2 : 2199023255552 < t
      · exact law1_arg L lo hi D t a b w hr (.inr h2)
      · by_cases h3 : t < L
        · exact law1_time L lo hi D t a b w hr (by omega) h3
        · exact law1_ok L lo hi D t a b w hr (by omega) (by omega)
  · exact law1_bad L lo hi D t a b w hr
end Go.Proofs.Ytkcclpomhniafaa
