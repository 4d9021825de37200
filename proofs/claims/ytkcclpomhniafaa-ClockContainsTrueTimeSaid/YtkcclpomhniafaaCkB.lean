/- Walks of the clock: Read, Check, New, Sync, of the program and of the specification. -/
import Derived.Test.YtkcclpomhniafaaRows
import Derived.Test.YtkcclpomhniafaaExt
import Derived.WalkKit
import Derived.WalkSpells
import Derived.WalkLawsBesides
import Derived.Deep.QuietTactic
import Derived.BigQuiet
import Derived.Test.YtkcclpomhniafaaCkA
set_option linter.unusedVariables false
set_option linter.unusedSimpArgs false
namespace Go.Proofs.Ytkcclpomhniafaa
open Go.RowKit

theorem read_arg (L lo hi D t : Int) (w : World) (ht : t < 0 ∨ 2199023255552 < t) :
    Calls Try.prog 14 #[.agg #[.int .i64 L, .int .i64 lo, .int .i64 hi, .int .i64 D], .int .i64 t] w fun e w' => e = .returned (.tuple #[.agg #[.int .i64 0, .int .i64 0], .int .i64 1]) ∧ Ext w w' := by
  rcases ht with ht | ht
  all_goals
    go_enter Try.func14, Try.ntmps14
    go_wp2
    refine bodyPost_ret (v := .tuple #[.agg #[.int .i64 0, .int .i64 0], .int .i64 1]) ?_ rfl ⟨rfl, (by (repeat (first | with_reducible exact Ext.refl _ | with_reducible refine Ext.drew ?_ | with_reducible refine Ext.drewN ?_ _ | with_reducible refine Ext.alloc ?_ _ | with_reducible refine Ext.onto ?_ _ | with_reducible refine Ext.setCell ?_ ?_ _)); all_goals (simp; try omega))⟩
    simp [results, Try.results14, go_sem, ↓IntWalk.iteOmega]
theorem read_time (L lo hi D t : Int) (w : World) (_hL : L ≤ 2199023255552) (h0 : 0 ≤ t) (h1 : t ≤ 2199023255552) (ht : t < L) :
    Calls Try.prog 14 #[.agg #[.int .i64 L, .int .i64 lo, .int .i64 hi, .int .i64 D], .int .i64 t] w fun e w' => e = .returned (.tuple #[.agg #[.int .i64 0, .int .i64 0], .int .i64 9]) ∧ Ext w w' := by
  go_enter Try.func14, Try.ntmps14
  go_wp2
  refine bodyPost_ret (v := .tuple #[.agg #[.int .i64 0, .int .i64 0], .int .i64 9]) ?_ rfl ⟨rfl, (by (repeat (first | with_reducible exact Ext.refl _ | with_reducible refine Ext.drew ?_ | with_reducible refine Ext.drewN ?_ _ | with_reducible refine Ext.alloc ?_ _ | with_reducible refine Ext.onto ?_ _ | with_reducible refine Ext.setCell ?_ ?_ _)); all_goals (simp; try omega))⟩
  simp [results, Try.results14, go_sem, ↓IntWalk.iteOmega]

set_option maxHeartbeats 400000 in
theorem read_core (L lo hi D t n f s : Int) (w : World) (hL : 0 ≤ L) (hlo : 0 ≤ lo) (hlh : lo ≤ hi) (hhi : hi ≤ 1099511627776) (hD : 0 ≤ D) (hD1 : D ≤ 100000) (ht : L < t) (ht1 : t ≤ 2199023255552)
    (Hn : Hid (t - L = n)) (Hf : Hid (1000000 + D = f)) (Hs : Hid (1000000 - D = s)) :
    Calls Try.prog 14 #[.agg #[.int .i64 L, .int .i64 lo, .int .i64 hi, .int .i64 D], .int .i64 t] w fun e w' => e = .returned (.tuple #[.agg #[.int .i64 (min (lo + ((n - 1) * 1000000 + f - 1) / f) 1099511627776), .int .i64 (min (hi + (n + 1) * 1000000 / s) 1099511627776)], .int .i64 0]) ∧ Ext w w' := by
  have d1 : decide (t < 0) = false := by simp; omega
  have d2 : decide (2199023255552 < t) = false := by simp; omega
  have d3 : decide (t < L) = false := by simp; omega
  have hn : 0 < n := by have := Hn.out; omega
  have hn1 : n ≤ 2199023255552 := by have := Hn.out; omega
  have hf : 1000000 ≤ f := by have := Hf.out; omega
  have hf1 : f ≤ 1100000 := by have := Hf.out; omega
  have hs : 900000 ≤ s := by have := Hs.out; omega
  have hs1 : s ≤ 1000000 := by have := Hs.out; omega
  have g1 := least_nonneg (n := n) (f := f) (by omega) (by omega)
  have g2 := least_le (n := n) (f := f) (by omega) (by omega)
  have g3 := great_nonneg (n := n) (s := s) (by omega) (by omega)
  have g4 := great_le (n := n) (s := s) (by omega) (by omega)
  unfold rdLeast at g1 g2
  unfold rdGreat at g3 g4
  rw [if_neg (by omega)] at g1 g2
  go_enter Try.func14, Try.ntmps14
  go_wp2
  refine wp_region_later (by kernel_rfl) (by kernel_rfl) ?_
  repeat (first | go_big_quiet_step (fail) | quiet_step (fail))
  refine wpQuiet_nil ?_
  rintro _ ⟨xq, rfl⟩
  clear d1 d2 d3
  rw [Hn.out, Hf.out, Hs.out]
  clear Hn Hf Hs hD hD1 hL ht ht1
  go_wp2
  all_goals
    refine bodyPost_ret (v := .tuple #[.agg #[.int .i64 (min (lo + ((n - 1) * 1000000 + f - 1) / f) 1099511627776), .int .i64 (min (hi + (n + 1) * 1000000 / s) 1099511627776)], .int .i64 0]) ?_ rfl ⟨rfl, (by (repeat (first | with_reducible exact Ext.refl _ | with_reducible refine Ext.drew ?_ | with_reducible refine Ext.drewN ?_ _ | with_reducible refine Ext.alloc ?_ _ | with_reducible refine Ext.onto ?_ _ | with_reducible refine Ext.setCell ?_ ?_ _)); all_goals (simp; try omega))⟩
    simp [results, Try.results14, go_sem, ↓IntWalk.iteOmega]
    try omega

set_option maxHeartbeats 400000 in
theorem read_same (L lo hi D f s : Int) (w : World) (hL : 0 ≤ L) (hlo : 0 ≤ lo) (hlh : lo ≤ hi) (hhi : hi ≤ 1099511627776) (hD : 0 ≤ D) (hD1 : D ≤ 100000) (ht1 : L ≤ 2199023255552)
    (Hf : Hid (1000000 + D = f)) (Hs : Hid (1000000 - D = s)) :
    Calls Try.prog 14 #[.agg #[.int .i64 L, .int .i64 lo, .int .i64 hi, .int .i64 D], .int .i64 L] w fun e w' => e = .returned (.tuple #[.agg #[.int .i64 lo, .int .i64 (min (hi + 1000000 / s) 1099511627776)], .int .i64 0]) ∧ Ext w w' := by
  have d1 : decide (L < 0) = false := by simp; omega
  have d2 : decide (2199023255552 < L) = false := by simp; omega
  have hf : 1000000 ≤ f := by have := Hf.out; omega
  have hf1 : f ≤ 1100000 := by have := Hf.out; omega
  have hs : 900000 ≤ s := by have := Hs.out; omega
  have hs1 : s ≤ 1000000 := by have := Hs.out; omega
  have g1 : (f - 1) / f = 0 := Int.ediv_eq_zero_of_lt (by omega) (by omega)
  have g3 := great_nonneg (n := 0) (s := s) (by omega) (by omega)
  have g4 := great_le (n := 0) (s := s) (by omega) (by omega)
  unfold rdGreat at g3 g4
  simp only [Int.zero_add, Int.one_mul] at g3 g4
  go_enter Try.func14, Try.ntmps14
  go_wp2
  refine wp_region_later (by kernel_rfl) (by kernel_rfl) ?_
  repeat (first | go_big_quiet_step (fail) | quiet_step (fail))
  refine wpQuiet_nil ?_
  rintro _ ⟨xq, rfl⟩
  clear d1 d2
  rw [Hf.out, Hs.out]
  clear Hf Hs hD hD1 hL
  go_wp2
  all_goals
    refine bodyPost_ret (v := .tuple #[.agg #[.int .i64 lo, .int .i64 (min (hi + 1000000 / s) 1099511627776)], .int .i64 0]) ?_ rfl ⟨rfl, (by (repeat (first | with_reducible exact Ext.refl _ | with_reducible refine Ext.drew ?_ | with_reducible refine Ext.drewN ?_ _ | with_reducible refine Ext.alloc ?_ _ | with_reducible refine Ext.onto ?_ _ | with_reducible refine Ext.setCell ?_ ?_ _)); all_goals (simp; try omega))⟩
    simp [results, Try.results14, go_sem, ↓IntWalk.iteOmega]
    try omega

theorem read_ok (L lo hi D t : Int) (w : World) (hL : 0 ≤ L) (hlo : 0 ≤ lo) (hlh : lo ≤ hi) (hhi : hi ≤ 1099511627776) (hD : 0 ≤ D) (hD1 : D ≤ 100000) (ht : L ≤ t) (ht1 : t ≤ 2199023255552) :
    Calls Try.prog 14 #[.agg #[.int .i64 L, .int .i64 lo, .int .i64 hi, .int .i64 D], .int .i64 t] w fun e w' => e = .returned (.tuple #[.agg #[.int .i64 (rdLo L lo D t), .int .i64 (rdHi L hi D t)], .int .i64 0]) ∧ Ext w w' := by
  unfold rdLo rdHi rdLeast rdGreat
  by_cases h : t = L
  · subst h
    simp only [Int.sub_self, if_true, Int.add_zero, Int.zero_add, Int.one_mul]
    rw [show min lo 1099511627776 = lo by omega]
    exact read_same t lo hi D _ _ w hL hlo hlh hhi hD hD1 ht1 (Lib.hid rfl) (Lib.hid rfl)
  · rw [if_neg (by omega)]
    exact read_core L lo hi D t _ _ _ w hL hlo hlh hhi hD hD1 (by omega) ht1 (Lib.hid rfl) (Lib.hid rfl) (Lib.hid rfl)

theorem rread_arg (L lo hi D t : Int) (w : World) (ht : t < 0 ∨ 2199023255552 < t) :
    Calls Try.prog 15 #[.agg #[.int .i64 L, .int .i64 lo, .int .i64 hi, .int .i64 D], .int .i64 t] w fun e w' => e = .returned (.agg #[.int .i64 0, .int .i64 0, .int .i64 1]) ∧ Ext w w' := by
  rcases ht with ht | ht
  all_goals
    go_enter Try.func15, Try.ntmps15
    go_wp2
    refine bodyPost_ret (v := .agg #[.int .i64 0, .int .i64 0, .int .i64 1]) ?_ rfl ⟨rfl, (by (repeat (first | with_reducible exact Ext.refl _ | with_reducible refine Ext.drew ?_ | with_reducible refine Ext.drewN ?_ _ | with_reducible refine Ext.alloc ?_ _ | with_reducible refine Ext.onto ?_ _ | with_reducible refine Ext.setCell ?_ ?_ _)); all_goals (simp; try omega))⟩
    simp [results, Try.results15, go_sem, ↓IntWalk.iteOmega]
theorem rread_time (L lo hi D t : Int) (w : World) (hL : L ≤ 2199023255552) (h0 : 0 ≤ t) (h1 : t ≤ 2199023255552) (ht : t < L) :
    Calls Try.prog 15 #[.agg #[.int .i64 L, .int .i64 lo, .int .i64 hi, .int .i64 D], .int .i64 t] w fun e w' => e = .returned (.agg #[.int .i64 0, .int .i64 0, .int .i64 9]) ∧ Ext w w' := by
  have h2 : t - L < 0 := by omega
  go_enter Try.func15, Try.ntmps15
  go_wp2
  refine bodyPost_ret (v := .agg #[.int .i64 0, .int .i64 0, .int .i64 9]) ?_ rfl ⟨rfl, (by (repeat (first | with_reducible exact Ext.refl _ | with_reducible refine Ext.drew ?_ | with_reducible refine Ext.drewN ?_ _ | with_reducible refine Ext.alloc ?_ _ | with_reducible refine Ext.onto ?_ _ | with_reducible refine Ext.setCell ?_ ?_ _)); all_goals (simp; try omega))⟩
  simp [results, Try.results15, go_sem, ↓IntWalk.iteOmega]

set_option maxHeartbeats 600000 in
theorem rread_more (L lo hi D t : Int) (w : World) (hL : 0 ≤ L) (hlo : 0 ≤ lo) (hlh : lo ≤ hi) (hhi : hi ≤ 1099511627776) (hD : 0 ≤ D) (hD1 : D ≤ 100000) (ht : L < t) (ht1 : t ≤ 2199023255552) :
    Calls Try.prog 15 #[.agg #[.int .i64 L, .int .i64 lo, .int .i64 hi, .int .i64 D], .int .i64 t] w fun e w' => e = .returned (.agg #[.int .i64 (rdLo L lo D t), .int .i64 (rdHi L hi D t), .int .i64 0]) ∧ Ext w w' := by
  have Hc := Lib.hid (ceil_two (m := (t - L - 1) * 1000000) (f := 1000000 + D) (by omega))
  have g3 := great_nonneg (n := t - L) (s := 1000000 - D) (by omega) (by omega)
  have g4 := great_le (n := t - L) (s := 1000000 - D) (by omega) (by omega)
  have H3 := Lib.hid g3
  have g1 := least_nonneg (n := t - L) (f := 1000000 + D) (by omega) (by omega)
  have g2 := least_le (n := t - L) (f := 1000000 + D) (by omega) (by omega)
  unfold rdLeast at g1 g2
  unfold rdGreat at g3 g4
  rw [if_neg (by omega)] at g1 g2
  have m1 : 0 ≤ (t - L - 1) * 1000000 / (1000000 + D) := Int.ediv_nonneg (by omega) (by omega)
  have m2 : (t - L - 1) * 1000000 / (1000000 + D) * (1000000 + D) ≤ (t - L - 1) * 1000000 := Int.ediv_mul_le _ (by omega)
  have m3 : 0 ≤ (t - L - 1) * 1000000 / (1000000 + D) * (1000000 + D) := Int.mul_nonneg m1 (by omega)
  have HA := Lib.hid g1
  have HB := Lib.hid g2
  rw [Hc.out] at g1 g2
  have hR := Lib.hid (rfl : rdLo L lo D t = rdLo L lo D t)
  have hfin : rdLo L lo D t = clip (lo + (if (t - L - 1) * 1000000 / (1000000 + D) * (1000000 + D) < (t - L - 1) * 1000000 then (t - L - 1) * 1000000 / (1000000 + D) + 1 else (t - L - 1) * 1000000 / (1000000 + D))) := by
    rw [← Hc.out]; unfold rdLo rdLeast clip; rw [if_neg (by omega)]; have := HA.out; omega
  have hfin2 : rdHi L hi D t = clip (hi + (t - L + 1) * 1000000 / (1000000 - D)) := by
    unfold rdHi clip rdGreat; omega
  rw [hfin, hfin2]
  clear hfin hfin2 hR HA HB Hc H3
  by_cases h5 : (t - L - 1) * 1000000 / (1000000 + D) * (1000000 + D) < (t - L - 1) * 1000000
  all_goals
    first | rw [if_pos h5] at g1 g2 ⊢ | rw [if_neg h5] at g1 g2 ⊢
    go_enter Try.func15, Try.ntmps15
    go_wp2_with fail
    refine wp_region_later_tail 14 (by kernel_rfl) (by kernel_rfl) ?_
    simp only [List.take_succ_cons, List.take_zero, List.drop_succ_cons, List.drop_zero]
    repeat (first | go_big_quiet_step ((go_at_call 40; exact quietS (clip_any _ _))) | quiet_step ((go_at_call 40; exact quietS (clip_any _ _))))
    refine wpQuiet_nil ?_
    rintro _ ⟨xq, rfl⟩
    go_wp2
    refine bodyPost_ret (v := .agg #[_, _, .int .i64 0]) ?_ rfl ⟨rfl, (by (repeat (first | with_reducible exact Ext.refl _ | with_reducible refine Ext.drew ?_ | with_reducible refine Ext.drewN ?_ _ | with_reducible refine Ext.alloc ?_ _ | with_reducible refine Ext.onto ?_ _ | with_reducible refine Ext.setCell ?_ ?_ _)); all_goals (simp; try omega))⟩
    simp [results, Try.results15, go_sem, ↓IntWalk.iteOmega]

set_option maxHeartbeats 600000 in
theorem rread_same (L lo hi D : Int) (w : World) (hL : 0 ≤ L) (hlo : 0 ≤ lo) (hlh : lo ≤ hi) (hhi : hi ≤ 1099511627776) (hD : 0 ≤ D) (hD1 : D ≤ 100000) (ht1 : L ≤ 2199023255552) :
    Calls Try.prog 15 #[.agg #[.int .i64 L, .int .i64 lo, .int .i64 hi, .int .i64 D], .int .i64 L] w fun e w' => e = .returned (.agg #[.int .i64 (rdLo L lo D L), .int .i64 (rdHi L hi D L), .int .i64 0]) ∧ Ext w w' := by
  have g3 := great_nonneg (n := 0) (s := 1000000 - D) (by omega) (by omega)
  have g4 := great_le (n := 0) (s := 1000000 - D) (by omega) (by omega)
  unfold rdGreat at g3 g4
  simp only [Int.zero_add, Int.one_mul] at g3 g4
  have hfin : rdLo L lo D L = clip lo := by
    unfold rdLo rdLeast clip; rw [if_pos (by omega)]; omega
  have hfin2 : rdHi L hi D L = clip (hi + 1000000 / (1000000 - D)) := by
    unfold rdHi clip rdGreat; rw [Int.sub_self, Int.zero_add, Int.one_mul]; omega
  rw [hfin, hfin2]
  clear hfin hfin2
  go_enter Try.func15, Try.ntmps15
  go_wp2_with fail
  refine wp_region_later_tail 14 (by kernel_rfl) (by kernel_rfl) ?_
  simp only [List.take_succ_cons, List.take_zero, List.drop_succ_cons, List.drop_zero]
  repeat (first | go_big_quiet_step ((go_at_call 40; exact quietS (clip_any _ _))) | quiet_step ((go_at_call 40; exact quietS (clip_any _ _))))
  refine wpQuiet_nil ?_
  rintro _ ⟨xq, rfl⟩
  go_wp2
  refine bodyPost_ret (v := .agg #[_, _, .int .i64 0]) ?_ rfl ⟨rfl, (by (repeat (first | with_reducible exact Ext.refl _ | with_reducible refine Ext.drew ?_ | with_reducible refine Ext.drewN ?_ _ | with_reducible refine Ext.alloc ?_ _ | with_reducible refine Ext.onto ?_ _ | with_reducible refine Ext.setCell ?_ ?_ _)); all_goals (simp; try omega))⟩
  simp [results, Try.results15, go_sem, ↓IntWalk.iteOmega]

theorem rread_ok (L lo hi D t : Int) (w : World) (hL : 0 ≤ L) (hlo : 0 ≤ lo) (hlh : lo ≤ hi) (hhi : hi ≤ 1099511627776) (hD : 0 ≤ D) (hD1 : D ≤ 100000) (ht : L ≤ t) (ht1 : t ≤ 2199023255552) :
    Calls Try.prog 15 #[.agg #[.int .i64 L, .int .i64 lo, .int .i64 hi, .int .i64 D], .int .i64 t] w fun e w' => e = .returned (.agg #[.int .i64 (rdLo L lo D t), .int .i64 (rdHi L hi D t), .int .i64 0]) ∧ Ext w w' := by
  by_cases h : t = L
  · subst h; exact rread_same t lo hi D w hL hlo hlh hhi hD hD1 ht1
  · exact rread_more L lo hi D t w hL hlo hlh hhi hD hD1 (by omega) ht1
end Go.Proofs.Ytkcclpomhniafaa
