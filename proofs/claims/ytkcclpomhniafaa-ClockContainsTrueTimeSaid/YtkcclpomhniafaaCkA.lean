/- Walks of the plain functions of the clock: periods. -/
import Derived.Test.YtkcclpomhniafaaRows
import Derived.Test.YtkcclpomhniafaaExt
import Derived.WalkKit
import Derived.WalkSpells
import Derived.WalkLawsBesides
import Derived.Deep.QuietTactic
import Derived.BigQuiet
import Derived.Test.YtkcclpomhniafaaCkS
set_option linter.unusedVariables false
set_option linter.unusedSimpArgs false
namespace Go.Proofs.Ytkcclpomhniafaa
open Go.RowKit

theorem valid_any (lo hi : Int) (w : World) :
    Calls Try.prog 33 #[.agg #[.int .i64 lo, .int .i64 hi]] w fun e w' => e = .returned (.bool (vld lo hi)) ∧ Ext w w' := by
  go_enter Try.func33, Try.ntmps33
  go_wp2
  all_goals
    go_ret
    refine ⟨ret_bool ?_, (by (repeat (first | with_reducible exact Ext.refl _ | with_reducible refine Ext.drew ?_ | with_reducible refine Ext.drewN ?_ _ | with_reducible refine Ext.alloc ?_ _ | with_reducible refine Ext.onto ?_ _ | with_reducible refine Ext.setCell ?_ ?_ _)); all_goals (simp; try omega))⟩
    rw [Bool.eq_iff_iff]
    simp [vld]
    try omega

theorem inst_any (t : Int) (w : World) :
    Calls Try.prog 18 #[.int .i64 t] w fun e w' => e = .returned (.bool (inst t)) ∧ w = w' := by
  go_enter Try.func18, Try.ntmps18
  go_wp2
  all_goals
    go_ret
    refine ⟨ret_bool ?_, rfl⟩
    rw [Bool.eq_iff_iff]
    simp [inst]
    try omega

theorem rvalid_any (lo hi : Int) (w : World) :
    Calls Try.prog 25 #[.agg #[.int .i64 lo, .int .i64 hi]] w fun e w' => e = .returned (.bool (vld lo hi)) ∧ Ext w w' := by
  go_enter Try.func25, Try.ntmps25
  go_wp2
  all_goals
    go_ret
    refine ⟨ret_bool ?_, (by (repeat (first | with_reducible exact Ext.refl _ | with_reducible refine Ext.drew ?_ | with_reducible refine Ext.drewN ?_ _ | with_reducible refine Ext.alloc ?_ _ | with_reducible refine Ext.onto ?_ _ | with_reducible refine Ext.setCell ?_ ?_ _)); all_goals (simp; try omega))⟩
    rw [Bool.eq_iff_iff]
    simp [vld]
    try omega

theorem meet_any (a b c d : Int) (w : World) :
    Calls Try.prog 30 #[.agg #[.int .i64 a, .int .i64 b], .agg #[.int .i64 c, .int .i64 d]] w fun e w' => e = .returned (.tuple #[.agg #[.int .i64 (meetLo a b c d), .int .i64 (meetHi a b c d)], .bool (meetIs a b c d)]) ∧ Ext w w' := by
  by_cases h1 : a < c <;> by_cases h2 : d < b
  all_goals
    go_enter Try.func30, Try.ntmps30
    go_wp2
    all_goals
      refine bodyPost_ret (v := .tuple #[.agg #[.int .i64 (meetLo a b c d), .int .i64 (meetHi a b c d)], .bool (meetIs a b c d)]) ?_ rfl ⟨rfl, (by (repeat (first | with_reducible exact Ext.refl _ | with_reducible refine Ext.drew ?_ | with_reducible refine Ext.drewN ?_ _ | with_reducible refine Ext.alloc ?_ _ | with_reducible refine Ext.onto ?_ _ | with_reducible refine Ext.setCell ?_ ?_ _)); all_goals (simp; try omega))⟩
      simp [results, Try.results30, go_sem, meetLo, meetHi, meetIs]
      try omega

theorem rmeet_any (a b c d : Int) (w : World) :
    Calls Try.prog 34 #[.agg #[.int .i64 a, .int .i64 b], .agg #[.int .i64 c, .int .i64 d]] w fun e w' => e = .returned (.agg #[.int .i64 (meetLo a b c d), .int .i64 (meetHi a b c d), .bool (meetIs a b c d)]) ∧ Ext w w' := by
  by_cases h1 : a < c <;> by_cases h2 : d < b
  all_goals
    go_enter Try.func34, Try.ntmps34
    go_wp2
    all_goals
      refine bodyPost_ret (v := .agg #[.int .i64 (meetLo a b c d), .int .i64 (meetHi a b c d), .bool (meetIs a b c d)]) ?_ rfl ⟨rfl, (by (repeat (first | with_reducible exact Ext.refl _ | with_reducible refine Ext.drew ?_ | with_reducible refine Ext.drewN ?_ _ | with_reducible refine Ext.alloc ?_ _ | with_reducible refine Ext.onto ?_ _ | with_reducible refine Ext.setCell ?_ ?_ _)); all_goals (simp; try omega))⟩
      simp [results, Try.results34, go_sem, meetLo, meetHi, meetIs]
      try omega

theorem hull_any (a b c d : Int) (w : World) :
    Calls Try.prog 32 #[.agg #[.int .i64 a, .int .i64 b], .agg #[.int .i64 c, .int .i64 d]] w fun e w' => e = .returned (.agg #[.int .i64 (min a c), .int .i64 (max b d)]) ∧ Ext w w' := by
  by_cases h1 : c < a <;> by_cases h2 : b < d
  all_goals
    go_enter Try.func32, Try.ntmps32
    go_wp2
    all_goals
      refine bodyPost_ret (v := .agg #[.int .i64 (min a c), .int .i64 (max b d)]) ?_ rfl ⟨rfl, (by (repeat (first | with_reducible exact Ext.refl _ | with_reducible refine Ext.drew ?_ | with_reducible refine Ext.drewN ?_ _ | with_reducible refine Ext.alloc ?_ _ | with_reducible refine Ext.onto ?_ _ | with_reducible refine Ext.setCell ?_ ?_ _)); all_goals (simp; try omega))⟩
      simp [results, Try.results32, go_sem, ↓IntWalk.iteOmega]
      try omega

theorem rhull_any (a b c d : Int) (w : World) :
    Calls Try.prog 35 #[.agg #[.int .i64 a, .int .i64 b], .agg #[.int .i64 c, .int .i64 d]] w fun e w' => e = .returned (.agg #[.int .i64 (min a c), .int .i64 (max b d)]) ∧ Ext w w' := by
  by_cases h1 : c < a <;> by_cases h2 : b < d
  all_goals
    go_enter Try.func35, Try.ntmps35
    go_wp2
    all_goals
      refine bodyPost_ret (v := .agg #[.int .i64 (min a c), .int .i64 (max b d)]) ?_ rfl ⟨rfl, (by (repeat (first | with_reducible exact Ext.refl _ | with_reducible refine Ext.drew ?_ | with_reducible refine Ext.drewN ?_ _ | with_reducible refine Ext.alloc ?_ _ | with_reducible refine Ext.onto ?_ _ | with_reducible refine Ext.setCell ?_ ?_ _)); all_goals (simp; try omega))⟩
      simp [results, Try.results35, go_sem, ↓IntWalk.iteOmega]
      try omega

theorem before_any (a b t : Int) (w : World) :
    Calls Try.prog 23 #[.agg #[.int .i64 a, .int .i64 b], .int .i64 t] w fun e w' => e = .returned (.bool (decide (b < t))) ∧ Ext w w' := by
  go_enter Try.func23, Try.ntmps23
  go_wp2
  go_ret
  exact ⟨rfl, (by (repeat (first | with_reducible exact Ext.refl _ | with_reducible refine Ext.drew ?_ | with_reducible refine Ext.drewN ?_ _ | with_reducible refine Ext.alloc ?_ _ | with_reducible refine Ext.onto ?_ _ | with_reducible refine Ext.setCell ?_ ?_ _)); all_goals (simp; try omega))⟩
theorem from_any (a b t : Int) (w : World) :
    Calls Try.prog 31 #[.agg #[.int .i64 a, .int .i64 b], .int .i64 t] w fun e w' => e = .returned (.bool (decide (t ≤ a))) ∧ Ext w w' := by
  go_enter Try.func31, Try.ntmps31
  go_wp2
  go_ret
  exact ⟨rfl, (by (repeat (first | with_reducible exact Ext.refl _ | with_reducible refine Ext.drew ?_ | with_reducible refine Ext.drewN ?_ _ | with_reducible refine Ext.alloc ?_ _ | with_reducible refine Ext.onto ?_ _ | with_reducible refine Ext.setCell ?_ ?_ _)); all_goals (simp; try omega))⟩
theorem rbefore_any (a b t : Int) (w : World) :
    Calls Try.prog 38 #[.agg #[.int .i64 a, .int .i64 b], .int .i64 t] w fun e w' => e = .returned (.bool (decide (b < t))) ∧ Ext w w' := by
  go_enter Try.func38, Try.ntmps38
  go_wp2
  go_ret
  exact ⟨rfl, (by (repeat (first | with_reducible exact Ext.refl _ | with_reducible refine Ext.drew ?_ | with_reducible refine Ext.drewN ?_ _ | with_reducible refine Ext.alloc ?_ _ | with_reducible refine Ext.onto ?_ _ | with_reducible refine Ext.setCell ?_ ?_ _)); all_goals (simp; try omega))⟩
theorem rfrom_any (a b t : Int) (w : World) :
    Calls Try.prog 39 #[.agg #[.int .i64 a, .int .i64 b], .int .i64 t] w fun e w' => e = .returned (.bool (decide (t ≤ a))) ∧ Ext w w' := by
  go_enter Try.func39, Try.ntmps39
  go_wp2
  go_ret
  exact ⟨rfl, (by (repeat (first | with_reducible exact Ext.refl _ | with_reducible refine Ext.drew ?_ | with_reducible refine Ext.drewN ?_ _ | with_reducible refine Ext.alloc ?_ _ | with_reducible refine Ext.onto ?_ _ | with_reducible refine Ext.setCell ?_ ?_ _)); all_goals (simp; try omega))⟩

theorem clip_any (t : Int) (w : World) :
    Calls Try.prog 40 #[.int .i64 t] w fun e w' => e = .returned (.int .i64 (clip t)) ∧ w = w' := by
  go_enter Try.func40, Try.ntmps40
  go_wp2
  all_goals
    go_ret
    refine ⟨ret_int ?_, rfl⟩
    unfold clip
    omega

theorem widen_any (a b n : Int) (w : World) (ha : 0 ≤ a) (hab : a ≤ b) (hb : b ≤ 1099511627776) (hn : 0 ≤ n) (hn1 : n ≤ 1099511627776) :
    Calls Try.prog 36 #[.agg #[.int .i64 a, .int .i64 b], .int .i64 n] w fun e w' => e = .returned (.agg #[.int .i64 (clip (a - n)), .int .i64 (clip (b + n))]) ∧ Ext w w' := by
  by_cases h1 : a - n < 0 <;> by_cases h2 : 1099511627776 < b + n
  all_goals
    go_enter Try.func36, Try.ntmps36
    go_wp2
    all_goals
      refine bodyPost_ret (v := .agg #[.int .i64 (clip (a - n)), .int .i64 (clip (b + n))]) ?_ rfl ⟨rfl, (by (repeat (first | with_reducible exact Ext.refl _ | with_reducible refine Ext.drew ?_ | with_reducible refine Ext.drewN ?_ _ | with_reducible refine Ext.alloc ?_ _ | with_reducible refine Ext.onto ?_ _ | with_reducible refine Ext.setCell ?_ ?_ _)); all_goals (simp; try omega))⟩
      simp [results, Try.results36, go_sem, clip]
      try omega


theorem rwiden_any (a b n : Int) (w : World) (ha : 0 ≤ a) (hab : a ≤ b) (hb : b ≤ 1099511627776) (hn : 0 ≤ n) (hn1 : n ≤ 1099511627776) :
    Calls Try.prog 37 #[.agg #[.int .i64 a, .int .i64 b], .int .i64 n] w fun e w' => e = .returned (.agg #[.int .i64 (clip (a - n)), .int .i64 (clip (b + n))]) ∧ Ext w w' := by
  go_enter Try.func37, Try.ntmps37
  go_wp2_with fail
  refine wp_region_later_tail 11 (by kernel_rfl) (by kernel_rfl) ?_
  simp only [List.take_succ_cons, List.take_zero, List.drop_succ_cons, List.drop_zero]
  repeat (first | go_big_quiet_step ((go_at_call 40; exact quietS (clip_any _ _))) | quiet_step ((go_at_call 40; exact quietS (clip_any _ _))))
  refine wpQuiet_nil ?_
  rintro _ ⟨xq, rfl⟩
  go_wp2
  refine bodyPost_ret (v := .agg #[.int .i64 (clip (a - n)), .int .i64 (clip (b + n))]) ?_ rfl ⟨rfl, (by (repeat (first | with_reducible exact Ext.refl _ | with_reducible refine Ext.drew ?_ | with_reducible refine Ext.drewN ?_ _ | with_reducible refine Ext.alloc ?_ _ | with_reducible refine Ext.onto ?_ _ | with_reducible refine Ext.setCell ?_ ?_ _)); all_goals (simp; try omega))⟩
  simp [results, Try.results37, go_sem, ↓IntWalk.iteOmega]
end Go.Proofs.Ytkcclpomhniafaa
