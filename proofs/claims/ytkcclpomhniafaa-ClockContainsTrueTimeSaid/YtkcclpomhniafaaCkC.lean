/- Walks of the clock: Check, New, Sync, of the program and of the specification. -/
import Derived.Test.YtkcclpomhniafaaRows
import Derived.Test.YtkcclpomhniafaaExt
import Derived.WalkKit
import Derived.WalkSpells
import Derived.WalkLawsBesides
import Derived.Deep.QuietTactic
import Derived.BigQuiet
import Derived.Test.YtkcclpomhniafaaCkB
set_option linter.unusedVariables false
set_option linter.unusedSimpArgs false
namespace Go.Proofs.Ytkcclpomhniafaa
open Go.RowKit

theorem check_ok (L lo hi D : Int) (w : World) (h : CkR L lo hi D) :
    Calls Try.prog 12 #[.agg #[.int .i64 L, .int .i64 lo, .int .i64 hi, .int .i64 D]] w fun e w' => e = .returned (.int .i64 0) ∧ Ext w w' := by
  obtain ⟨h1, h2, h3, h4, h5, h6, h7⟩ := h
  go_enter Try.func12, Try.ntmps12
  go_wp2
  go_ret
  exact ⟨rfl, (by (repeat (first | with_reducible exact Ext.refl _ | with_reducible refine Ext.drew ?_ | with_reducible refine Ext.drewN ?_ _ | with_reducible refine Ext.alloc ?_ _ | with_reducible refine Ext.onto ?_ _ | with_reducible refine Ext.setCell ?_ ?_ _)); all_goals (simp; try omega))⟩
theorem check_bad (L lo hi D : Int) (w : World) (h : ¬ CkR L lo hi D) :
    Calls Try.prog 12 #[.agg #[.int .i64 L, .int .i64 lo, .int .i64 hi, .int .i64 D]] w fun e w' => e = .returned (.int .i64 1) ∧ Ext w w' := by
  have h' := not_right h
  clear h
  by_cases h1 : L < 0
  · clear h'
    go_enter Try.func12, Try.ntmps12
    go_wp2
    go_ret
    exact ⟨rfl, (by (repeat (first | with_reducible exact Ext.refl _ | with_reducible refine Ext.drew ?_ | with_reducible refine Ext.drewN ?_ _ | with_reducible refine Ext.alloc ?_ _ | with_reducible refine Ext.onto ?_ _ | with_reducible refine Ext.setCell ?_ ?_ _)); all_goals (simp; try omega))⟩
  by_cases h2 : 2199023255552 < L
  · clear h'
    go_enter Try.func12, Try.ntmps12
    go_wp2
    go_ret
    exact ⟨rfl, (by (repeat (first | with_reducible exact Ext.refl _ | with_reducible refine Ext.drew ?_ | with_reducible refine Ext.drewN ?_ _ | with_reducible refine Ext.alloc ?_ _ | with_reducible refine Ext.onto ?_ _ | with_reducible refine Ext.setCell ?_ ?_ _)); all_goals (simp; try omega))⟩
  by_cases h3 : vld lo hi = false
  · clear h'
    have HV : Hid (vld lo hi = false) := h3
    clear h3
    go_enter Try.func12, Try.ntmps12
    go_wp2_with (go_at_call 33; refine (valid_any _ _ _).mono ?_; rintro e w' ⟨rfl, hx⟩; obtain ⟨x, rfl⟩ := hx.asLater; clear hx; rw [HV.out])
    go_ret
    exact ⟨rfl, (by (repeat (first | with_reducible exact Ext.refl _ | with_reducible refine Ext.drew ?_ | with_reducible refine Ext.drewN ?_ _ | with_reducible refine Ext.alloc ?_ _ | with_reducible refine Ext.onto ?_ _ | with_reducible refine Ext.setCell ?_ ?_ _)); all_goals (simp; try omega))⟩
  have h4 : D < 0 ∨ 100000 < D := by rcases h' with h | h | h | h
                                     · omega
                                     · omega
                                     · exact absurd h h3
                                     · exact h
  rw [vld_false] at h3
  have h5 : 0 ≤ lo ∧ lo ≤ hi ∧ hi ≤ 1099511627776 := by omega
  obtain ⟨h6, h7, h8⟩ := h5
  clear h' h3
  rcases h4 with h4 | h4
  all_goals
    go_enter Try.func12, Try.ntmps12
    go_wp2
    go_ret
    exact ⟨rfl, (by (repeat (first | with_reducible exact Ext.refl _ | with_reducible refine Ext.drew ?_ | with_reducible refine Ext.drewN ?_ _ | with_reducible refine Ext.alloc ?_ _ | with_reducible refine Ext.onto ?_ _ | with_reducible refine Ext.setCell ?_ ?_ _)); all_goals (simp; try omega))⟩
theorem rcheck_ok (L lo hi D : Int) (w : World) (h : CkR L lo hi D) :
    Calls Try.prog 11 #[.agg #[.int .i64 L, .int .i64 lo, .int .i64 hi, .int .i64 D]] w fun e w' => e = .returned (.int .i64 0) ∧ Ext w w' := by
  obtain ⟨h1, h2, h3, h4, h5, h6, h7⟩ := h
  go_enter Try.func11, Try.ntmps11
  go_wp2
  go_ret
  exact ⟨rfl, (by (repeat (first | with_reducible exact Ext.refl _ | with_reducible refine Ext.drew ?_ | with_reducible refine Ext.drewN ?_ _ | with_reducible refine Ext.alloc ?_ _ | with_reducible refine Ext.onto ?_ _ | with_reducible refine Ext.setCell ?_ ?_ _)); all_goals (simp; try omega))⟩
theorem rcheck_bad (L lo hi D : Int) (w : World) (h : ¬ CkR L lo hi D) :
    Calls Try.prog 11 #[.agg #[.int .i64 L, .int .i64 lo, .int .i64 hi, .int .i64 D]] w fun e w' => e = .returned (.int .i64 1) ∧ Ext w w' := by
  have h' := not_right h
  clear h
  by_cases h1 : L < 0
  · clear h'
    go_enter Try.func11, Try.ntmps11
    go_wp2
    go_ret
    exact ⟨rfl, (by (repeat (first | with_reducible exact Ext.refl _ | with_reducible refine Ext.drew ?_ | with_reducible refine Ext.drewN ?_ _ | with_reducible refine Ext.alloc ?_ _ | with_reducible refine Ext.onto ?_ _ | with_reducible refine Ext.setCell ?_ ?_ _)); all_goals (simp; try omega))⟩
  by_cases h2 : 2199023255552 < L
  · clear h'
    go_enter Try.func11, Try.ntmps11
    go_wp2
    go_ret
    exact ⟨rfl, (by (repeat (first | with_reducible exact Ext.refl _ | with_reducible refine Ext.drew ?_ | with_reducible refine Ext.drewN ?_ _ | with_reducible refine Ext.alloc ?_ _ | with_reducible refine Ext.onto ?_ _ | with_reducible refine Ext.setCell ?_ ?_ _)); all_goals (simp; try omega))⟩
  by_cases h3 : vld lo hi = false
  · clear h'
    have HV : Hid (vld lo hi = false) := h3
    clear h3
    go_enter Try.func11, Try.ntmps11
    go_wp2_with (go_at_call 25; refine (rvalid_any _ _ _).mono ?_; rintro e w' ⟨rfl, hx⟩; obtain ⟨x, rfl⟩ := hx.asLater; clear hx; rw [HV.out])
    go_ret
    exact ⟨rfl, (by (repeat (first | with_reducible exact Ext.refl _ | with_reducible refine Ext.drew ?_ | with_reducible refine Ext.drewN ?_ _ | with_reducible refine Ext.alloc ?_ _ | with_reducible refine Ext.onto ?_ _ | with_reducible refine Ext.setCell ?_ ?_ _)); all_goals (simp; try omega))⟩
  have h4 : D < 0 ∨ 100000 < D := by rcases h' with h | h | h | h
                                     · omega
                                     · omega
                                     · exact absurd h h3
                                     · exact h
  rw [vld_false] at h3
  have h5 : 0 ≤ lo ∧ lo ≤ hi ∧ hi ≤ 1099511627776 := by omega
  obtain ⟨h6, h7, h8⟩ := h5
  clear h' h3
  rcases h4 with h4 | h4
  all_goals
    go_enter Try.func11, Try.ntmps11
    go_wp2
    go_ret
    exact ⟨rfl, (by (repeat (first | with_reducible exact Ext.refl _ | with_reducible refine Ext.drew ?_ | with_reducible refine Ext.drewN ?_ _ | with_reducible refine Ext.alloc ?_ _ | with_reducible refine Ext.onto ?_ _ | with_reducible refine Ext.setCell ?_ ?_ _)); all_goals (simp; try omega))⟩

theorem new_ok (L lo hi D : Int) (w : World) (h : CkR L lo hi D) :
    Calls Try.prog 10 #[.int .i64 L, .agg #[.int .i64 lo, .int .i64 hi], .int .i64 D] w fun e w' => e = .returned (.tuple #[.agg #[.int .i64 L, .int .i64 lo, .int .i64 hi, .int .i64 D], .int .i64 0]) ∧ Ext w w' := by
  go_enter Try.func10, Try.ntmps10
  go_wp2_with (go_at_call 12; refine (check_ok _ _ _ _ _ h).mono ?_; rintro e w' ⟨rfl, hx⟩; obtain ⟨x, rfl⟩ := hx.asLater; clear hx)
  refine bodyPost_ret (v := .tuple #[.agg #[.int .i64 L, .int .i64 lo, .int .i64 hi, .int .i64 D], .int .i64 0]) ?_ rfl ⟨rfl, (by (repeat (first | with_reducible exact Ext.refl _ | with_reducible refine Ext.drew ?_ | with_reducible refine Ext.drewN ?_ _ | with_reducible refine Ext.alloc ?_ _ | with_reducible refine Ext.onto ?_ _ | with_reducible refine Ext.setCell ?_ ?_ _)); all_goals (simp; try omega))⟩
  simp [results, Try.results10, go_sem, ↓IntWalk.iteOmega]
theorem new_bad (L lo hi D : Int) (w : World) (h : ¬ CkR L lo hi D) :
    Calls Try.prog 10 #[.int .i64 L, .agg #[.int .i64 lo, .int .i64 hi], .int .i64 D] w fun e w' => e = .returned (.tuple #[.agg #[.int .i64 0, .int .i64 0, .int .i64 0, .int .i64 0], .int .i64 1]) ∧ Ext w w' := by
  have H : Hid (¬ CkR L lo hi D) := h
  clear h
  go_enter Try.func10, Try.ntmps10
  go_wp2_with (go_at_call 12; refine (check_bad _ _ _ _ _ H.out).mono ?_; rintro e w' ⟨rfl, hx⟩; obtain ⟨x, rfl⟩ := hx.asLater; clear hx)
  refine bodyPost_ret (v := .tuple #[.agg #[.int .i64 0, .int .i64 0, .int .i64 0, .int .i64 0], .int .i64 1]) ?_ rfl ⟨rfl, (by (repeat (first | with_reducible exact Ext.refl _ | with_reducible refine Ext.drew ?_ | with_reducible refine Ext.drewN ?_ _ | with_reducible refine Ext.alloc ?_ _ | with_reducible refine Ext.onto ?_ _ | with_reducible refine Ext.setCell ?_ ?_ _)); all_goals (simp; try omega))⟩
  simp [results, Try.results10, go_sem, ↓IntWalk.iteOmega]
end Go.Proofs.Ytkcclpomhniafaa
