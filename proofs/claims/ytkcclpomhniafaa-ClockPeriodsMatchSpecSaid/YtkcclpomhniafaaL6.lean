/- The laws ClockIsSureOrNot and ClockPeriodsMatchSpec, walked. -/
import Derived.Test.YtkcclpomhniafaaRows
import Derived.Test.YtkcclpomhniafaaExt
import Derived.WalkKit
import Derived.WalkSpells
import Derived.WalkLawsBesides
import Derived.Deep.QuietTactic
import Derived.BigQuiet
import Derived.Test.YtkcclpomhniafaaCkJ
set_option linter.unusedVariables false
set_option linter.unusedSimpArgs false
namespace Go.Proofs.Ytkcclpomhniafaa
open Go.RowKit

theorem hull_out (a b c d : Int) (w : World) (h1 : a ≤ c) (h2 : d ≤ b) :
    Calls Try.prog 32 #[.agg #[.int .i64 a, .int .i64 b], .agg #[.int .i64 c, .int .i64 d]] w fun e w' => e = .returned (.agg #[.int .i64 a, .int .i64 b]) ∧ Ext w w' := by
  have := hull_any a b c d w
  rwa [show min a c = a by omega, show max b d = b by omega] at this
theorem hull_in (a b c d : Int) (w : World) (h1 : a ≤ c) (h2 : d ≤ b) :
    Calls Try.prog 32 #[.agg #[.int .i64 c, .int .i64 d], .agg #[.int .i64 a, .int .i64 b]] w fun e w' => e = .returned (.agg #[.int .i64 a, .int .i64 b]) ∧ Ext w w' := by
  have := hull_any c d a b w
  rwa [show min c a = a by omega, show max d b = b by omega] at this
theorem meet_in (a b c d : Int) (w : World) (h1 : a ≤ c) (h2 : d ≤ b) (h3 : c ≤ d) :
    Calls Try.prog 30 #[.agg #[.int .i64 a, .int .i64 b], .agg #[.int .i64 c, .int .i64 d]] w fun e w' => e = .returned (.tuple #[.agg #[.int .i64 c, .int .i64 d], .bool true]) ∧ Ext w w' := by
  have h := meet_any a b c d w
  have e1 : meetLo a b c d = c := by unfold meetLo; rw [if_pos (by omega)]; omega
  have e2 : meetHi a b c d = d := by unfold meetHi; rw [if_pos (by omega)]; omega
  have e3 : meetIs a b c d = true := by unfold meetIs; simp; omega
  rwa [e1, e2, e3] at h

set_option maxHeartbeats 1000000 in
theorem law6_bad (a b c d t : Int) (w : World) (h : vld a b = false ∨ vld c d = false ∨ c < a ∨ b < d) :
    Calls Try.prog 8 #[.agg #[.int .i64 a, .int .i64 b], .agg #[.int .i64 c, .int .i64 d], .int .i64 t] w fun e w' => e = .returned (.bool true) ∧ Ext w w' := by
  by_cases h1 : vld a b = false
  · have H1 := Lib.hid h1
    clear h h1
    go_enter Try.func8, Try.ntmps8
    go_wp2_with (first
      | (go_at_call 25; refine (rvalid_any _ _ _).mono ?_; rintro e w' ⟨rfl, hx⟩; obtain ⟨x, rfl⟩ := hx.asLater; clear hx; (first | rw [H1.out] | skip))
      | (go_at_call 13; refine (sanity_any _).mono ?_; rintro e w' ⟨rfl, hx⟩; obtain ⟨x, rfl⟩ := hx.asLater; clear hx))
    go_ret
    exact ⟨rfl, (by (repeat (first | with_reducible exact Ext.refl _ | with_reducible refine Ext.drew ?_ | with_reducible refine Ext.drewN ?_ _ | with_reducible refine Ext.alloc ?_ _ | with_reducible refine Ext.onto ?_ _ | with_reducible refine Ext.setCell ?_ ?_ _)); all_goals (simp; try omega))⟩
  have H1 : Hid (vld a b = true) := Lib.hid (by simpa using h1)
  by_cases h2 : vld c d = false
  · have H2 := Lib.hid h2
    clear h h1 h2
    go_enter Try.func8, Try.ntmps8
    go_wp2_with (first
      | (go_at_call 25; refine (rvalid_any _ _ _).mono ?_; rintro e w' ⟨rfl, hx⟩; obtain ⟨x, rfl⟩ := hx.asLater; clear hx; (first | rw [H1.out] | rw [H2.out]))
      | (go_at_call 13; refine (sanity_any _).mono ?_; rintro e w' ⟨rfl, hx⟩; obtain ⟨x, rfl⟩ := hx.asLater; clear hx))
    go_ret
    exact ⟨rfl, (by (repeat (first | with_reducible exact Ext.refl _ | with_reducible refine Ext.drew ?_ | with_reducible refine Ext.drewN ?_ _ | with_reducible refine Ext.alloc ?_ _ | with_reducible refine Ext.onto ?_ _ | with_reducible refine Ext.setCell ?_ ?_ _)); all_goals (simp; try omega))⟩
  have H2 : Hid (vld c d = true) := Lib.hid (by simpa using h2)
  have h3 : c < a ∨ b < d := by rcases h with h | h | h
                                · exact absurd h h1
                                · exact absurd h h2
                                · exact h
  clear h h1 h2
  by_cases h4 : c < a
  · clear h3
    go_enter Try.func8, Try.ntmps8
    go_wp2_with (first
      | (go_at_call 25; refine (rvalid_any _ _ _).mono ?_; rintro e w' ⟨rfl, hx⟩; obtain ⟨x, rfl⟩ := hx.asLater; clear hx; (first | rw [H1.out] | rw [H2.out]))
      | (go_at_call 13; refine (sanity_any _).mono ?_; rintro e w' ⟨rfl, hx⟩; obtain ⟨x, rfl⟩ := hx.asLater; clear hx))
    go_ret
    exact ⟨rfl, (by (repeat (first | with_reducible exact Ext.refl _ | with_reducible refine Ext.drew ?_ | with_reducible refine Ext.drewN ?_ _ | with_reducible refine Ext.alloc ?_ _ | with_reducible refine Ext.onto ?_ _ | with_reducible refine Ext.setCell ?_ ?_ _)); all_goals (simp; try omega))⟩
  · have h5 : b < d := by omega
    clear h3
    go_enter Try.func8, Try.ntmps8
    go_wp2_with (first
      | (go_at_call 25; refine (rvalid_any _ _ _).mono ?_; rintro e w' ⟨rfl, hx⟩; obtain ⟨x, rfl⟩ := hx.asLater; clear hx; (first | rw [H1.out] | rw [H2.out]))
      | (go_at_call 13; refine (sanity_any _).mono ?_; rintro e w' ⟨rfl, hx⟩; obtain ⟨x, rfl⟩ := hx.asLater; clear hx))
    go_ret
    exact ⟨rfl, (by (repeat (first | with_reducible exact Ext.refl _ | with_reducible refine Ext.drew ?_ | with_reducible refine Ext.drewN ?_ _ | with_reducible refine Ext.alloc ?_ _ | with_reducible refine Ext.onto ?_ _ | with_reducible refine Ext.setCell ?_ ?_ _)); all_goals (simp; try omega))⟩

set_option maxHeartbeats 1000000 in
theorem law6_good (a b c d t : Int) (w : World) (h1 : vld a b = true) (h2 : vld c d = true) (h3 : a ≤ c) (h4 : d ≤ b) :
    Calls Try.prog 8 #[.agg #[.int .i64 a, .int .i64 b], .agg #[.int .i64 c, .int .i64 d], .int .i64 t] w fun e w' => e = .returned (.bool true) ∧ Ext w w' := by
  have H1 := Lib.hid h1
  have H2 := Lib.hid h2
  have h5 : c ≤ d := by rw [vld_iff] at h2; omega
  clear h1 h2
  have hc : (t ≤ a ∧ t ≤ c ∧ ¬ d < t ∧ ¬ b < t) ∨ (¬ t ≤ a ∧ t ≤ c ∧ ¬ d < t ∧ ¬ b < t) ∨ (¬ t ≤ a ∧ ¬ t ≤ c ∧ ¬ d < t ∧ ¬ b < t) ∨ (¬ t ≤ a ∧ ¬ t ≤ c ∧ d < t ∧ ¬ b < t) ∨ (¬ t ≤ a ∧ ¬ t ≤ c ∧ d < t ∧ b < t) := by omega
  rcases hc with ⟨g1, g2, g3, g4⟩ | ⟨g1, g2, g3, g4⟩ | ⟨g1, g2, g3, g4⟩ | ⟨g1, g2, g3, g4⟩ | ⟨g1, g2, g3, g4⟩
  all_goals
    go_enter Try.func8, Try.ntmps8
    go_wp2_with (first
      | (go_at_call 25; refine (rvalid_any _ _ _).mono ?_; rintro e w' ⟨rfl, hx⟩; obtain ⟨x, rfl⟩ := hx.asLater; clear hx; (first | rw [H1.out] | rw [H2.out]))
      | (go_at_call 30; refine (meet_in _ _ _ _ _ h3 h4 h5).mono ?_; rintro e w' ⟨rfl, hx⟩; obtain ⟨x, rfl⟩ := hx.asLater; clear hx)
      | (go_at_call 23; refine (before_any _ _ _ _).mono ?_; rintro e w' ⟨rfl, hx⟩; obtain ⟨x, rfl⟩ := hx.asLater; clear hx)
      | (go_at_call 31; refine (from_any _ _ _ _).mono ?_; rintro e w' ⟨rfl, hx⟩; obtain ⟨x, rfl⟩ := hx.asLater; clear hx))
    refine wp_region_later (by kernel_rfl) (by kernel_rfl) ?_
    repeat (first | go_big_quiet_step ((first | (go_at_call 13; exact quietE (sanity_any _)) | (go_at_call 32; exact quietE (hull_out _ _ _ _ _ h3 h4)) | (go_at_call 32; exact quietE (hull_in _ _ _ _ _ h3 h4)))) | quiet_step ((first | (go_at_call 13; exact quietE (sanity_any _)) | (go_at_call 32; exact quietE (hull_out _ _ _ _ _ h3 h4)) | (go_at_call 32; exact quietE (hull_in _ _ _ _ _ h3 h4)))))
    refine wpQuiet_nil ?_
    rintro _ ⟨xq, rfl⟩
    go_wp2
    go_ret
    exact ⟨rfl, (by (repeat (first | with_reducible exact Ext.refl _ | with_reducible refine Ext.drew ?_ | with_reducible refine Ext.drewN ?_ _ | with_reducible refine Ext.alloc ?_ _ | with_reducible refine Ext.onto ?_ _ | with_reducible refine Ext.setCell ?_ ?_ _)); all_goals (simp; try omega))⟩

theorem law6_any (a b c d t : Int) (w : World) :
    Calls Try.prog 8 #[.agg #[.int .i64 a, .int .i64 b], .agg #[.int .i64 c, .int .i64 d], .int .i64 t] w fun e w' => e = .returned (.bool true) ∧ Ext w w' := by
  by_cases h : vld a b = false ∨ vld c d = false ∨ c < a ∨ b < d
  · exact law6_bad a b c d t w h
  · simp only [not_or, Bool.not_eq_false, Int.not_lt] at h
    exact law6_good a b c d t w h.1 h.2.1 h.2.2.1 h.2.2.2

set_option maxHeartbeats 1000000 in
theorem law7_bad (a b c d n t : Int) (w : World) (h : vld a b = false ∨ vld c d = false) :
    Calls Try.prog 9 #[.agg #[.int .i64 a, .int .i64 b], .agg #[.int .i64 c, .int .i64 d], .int .i64 n, .int .i64 t] w fun e w' => e = .returned (.bool true) ∧ Ext w w' := by
  have hc : (vld a b = false ∧ vld c d = false) ∨ (vld a b = false ∧ vld c d = true) ∨ (vld a b = true ∧ vld c d = false) := by
    cases h1 : vld a b <;> cases h2 : vld c d <;> simp_all
  rcases hc with ⟨h1, h2⟩ | ⟨h1, h2⟩ | ⟨h1, h2⟩
  all_goals
    have H1 := Lib.hid h1
    have H2 := Lib.hid h2
    clear h h1 h2
    go_enter Try.func9, Try.ntmps9
    go_wp2_with (first
      | (go_at_call 25; refine (rvalid_any _ _ _).mono ?_; rintro e w' ⟨rfl, hx⟩; obtain ⟨x, rfl⟩ := hx.asLater; clear hx; (first | rw [H1.out] | rw [H2.out]))
      | (go_at_call 33; refine (valid_any _ _ _).mono ?_; rintro e w' ⟨rfl, hx⟩; obtain ⟨x, rfl⟩ := hx.asLater; clear hx; (first | rw [H1.out] | rw [H2.out]))
      | (go_at_call 13; refine (sanity_any _).mono ?_; rintro e w' ⟨rfl, hx⟩; obtain ⟨x, rfl⟩ := hx.asLater; clear hx))
    go_ret
    exact ⟨rfl, (by (repeat (first | with_reducible exact Ext.refl _ | with_reducible refine Ext.drew ?_ | with_reducible refine Ext.drewN ?_ _ | with_reducible refine Ext.alloc ?_ _ | with_reducible refine Ext.onto ?_ _ | with_reducible refine Ext.setCell ?_ ?_ _)); all_goals (simp; try omega))⟩

set_option maxHeartbeats 2000000 in
theorem law7_good (a b c d n t : Int) (w : World) (h1 : vld a b = true) (h2 : vld c d = true) :
    Calls Try.prog 9 #[.agg #[.int .i64 a, .int .i64 b], .agg #[.int .i64 c, .int .i64 d], .int .i64 n, .int .i64 t] w fun e w' => e = .returned (.bool true) ∧ Ext w w' := by
  have H1 := Lib.hid h1
  have H2 := Lib.hid h2
  rw [vld_iff] at h1
  obtain ⟨a1, a2, a3⟩ := h1
  clear h2
  have hc : (n < 0 ∧ decide (0 ≤ n) = false) ∨ (0 ≤ n ∧ decide (n ≤ 1099511627776) = false) ∨ (0 ≤ n ∧ n ≤ 1099511627776) := by simp; omega
  rcases hc with ⟨g1, g2⟩ | ⟨g1, g2⟩ | ⟨g1, g2⟩
  all_goals
    go_enter Try.func9, Try.ntmps9
    go_wp2_with (first
      | (go_at_call 25; refine (rvalid_any _ _ _).mono ?_; rintro e w' ⟨rfl, hx⟩; obtain ⟨x, rfl⟩ := hx.asLater; clear hx; (first | rw [H1.out] | rw [H2.out]))
      | (go_at_call 33; refine (valid_any _ _ _).mono ?_; rintro e w' ⟨rfl, hx⟩; obtain ⟨x, rfl⟩ := hx.asLater; clear hx; (first | rw [H1.out] | rw [H2.out]))
      | (go_at_call 30; refine (meet_any _ _ _ _ _).mono ?_; rintro e w' ⟨rfl, hx⟩; obtain ⟨x, rfl⟩ := hx.asLater; clear hx)
      | (go_at_call 34; refine (rmeet_any _ _ _ _ _).mono ?_; rintro e w' ⟨rfl, hx⟩; obtain ⟨x, rfl⟩ := hx.asLater; clear hx))
    refine wp_region_later (by kernel_rfl) (by kernel_rfl) ?_
    repeat (first | go_big_quiet_step ((first | (go_at_call 32; exact quietE (hull_any _ _ _ _ _)) | (go_at_call 35; exact quietE (rhull_any _ _ _ _ _)))) | quiet_step ((first | (go_at_call 32; exact quietE (hull_any _ _ _ _ _)) | (go_at_call 35; exact quietE (rhull_any _ _ _ _ _)))))
    refine wpQuiet_nil ?_
    rintro _ ⟨xq, rfl⟩
    go_wp2
    refine wp_region_later (by kernel_rfl) (by kernel_rfl) ?_
    repeat (first | go_big_quiet_step ((first | (go_at_call 36; exact quietE (widen_any _ _ _ _ a1 a2 a3 g1 g2)) | (go_at_call 37; exact quietE (rwiden_any _ _ _ _ a1 a2 a3 g1 g2)))) | quiet_step ((first | (go_at_call 36; exact quietE (widen_any _ _ _ _ a1 a2 a3 g1 g2)) | (go_at_call 37; exact quietE (rwiden_any _ _ _ _ a1 a2 a3 g1 g2)))))
    refine wpQuiet_nil ?_
    rintro _ ⟨xq, rfl⟩
    go_wp2
    refine wp_region_later (by kernel_rfl) (by kernel_rfl) ?_
    repeat (first | go_big_quiet_step ((first | (go_at_call 13; exact quietE (sanity_any _)) | (go_at_call 23; exact quietE (before_any _ _ _ _)) | (go_at_call 38; exact quietE (rbefore_any _ _ _ _)) | (go_at_call 31; exact quietE (from_any _ _ _ _)) | (go_at_call 39; exact quietE (rfrom_any _ _ _ _)))) | quiet_step ((first | (go_at_call 13; exact quietE (sanity_any _)) | (go_at_call 23; exact quietE (before_any _ _ _ _)) | (go_at_call 38; exact quietE (rbefore_any _ _ _ _)) | (go_at_call 31; exact quietE (from_any _ _ _ _)) | (go_at_call 39; exact quietE (rfrom_any _ _ _ _)))))
    refine wpQuiet_nil ?_
    rintro _ ⟨xq, rfl⟩
    go_wp2
    go_ret
    exact ⟨rfl, (by (repeat (first | with_reducible exact Ext.refl _ | with_reducible refine Ext.drew ?_ | with_reducible refine Ext.drewN ?_ _ | with_reducible refine Ext.alloc ?_ _ | with_reducible refine Ext.onto ?_ _ | with_reducible refine Ext.setCell ?_ ?_ _)); all_goals (simp; try omega))⟩

theorem law7_any (a b c d n t : Int) (w : World) :
    Calls Try.prog 9 #[.agg #[.int .i64 a, .int .i64 b], .agg #[.int .i64 c, .int .i64 d], .int .i64 n, .int .i64 t] w fun e w' => e = .returned (.bool true) ∧ Ext w w' := by
  by_cases h : vld a b = false ∨ vld c d = false
  · exact law7_bad a b c d n t w h
  · simp only [not_or, Bool.not_eq_false] at h
    exact law7_good a b c d n t w h.1 h.2
end Go.Proofs.Ytkcclpomhniafaa
