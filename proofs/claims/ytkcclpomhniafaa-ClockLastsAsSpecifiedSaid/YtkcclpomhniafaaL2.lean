/- The law ClockLastsAsSpecified, walked. -/
import Derived.Test.YtkcclpomhniafaaRows
import Derived.Test.YtkcclpomhniafaaExt
import Derived.WalkKit
import Derived.WalkSpells
import Derived.WalkLawsBesides
import Derived.Deep.QuietTactic
import Derived.BigQuiet
import Derived.Test.YtkcclpomhniafaaCkJ
set_option linter.unusedVariables false
set_option linter.unusedSimpArgs false
namespace Go.Proofs.Ytkcclpomhniafaa
open Go.RowKit

theorem until_at (L lo hi D t u : Int) (w : World) (hr : CkR L lo hi D) (hu : IsU L hi D t u) :
    Calls Try.prog 19 #[.agg #[.int .i64 L, .int .i64 lo, .int .i64 hi, .int .i64 D], .int .i64 t] w fun e w' => e = .returned (.int .i64 u) ∧ Ext w w' :=
  (until_any L lo hi D t w hr).mono fun e w' ⟨⟨v, he, hv⟩, hx⟩ => ⟨by rw [he, IsU.unique hr.l0 hr.l1 hr.d1 hv hu], hx⟩
theorem runtil_at (L lo hi D t u : Int) (w : World) (hr : CkR L lo hi D) (hu : IsU L hi D t u) :
    Calls Try.prog 20 #[.agg #[.int .i64 L, .int .i64 lo, .int .i64 hi, .int .i64 D], .int .i64 t] w fun e w' => e = .returned (.int .i64 u) ∧ Ext w w' :=
  (runtil_any L lo hi D t w hr).mono fun e w' ⟨⟨v, he, hv⟩, hx⟩ => ⟨by rw [he, IsU.unique hr.l0 hr.l1 hr.d1 hv hu], hx⟩
theorem worth_at (L lo hi D t x u : Int) (w : World) (hr : CkR L lo hi D) (hu : IsU L hi D t u) :
    Calls Try.prog 21 #[.agg #[.int .i64 L, .int .i64 lo, .int .i64 hi, .int .i64 D], .int .i64 x, .int .i64 t] w fun e w' => e = .returned (.int .i64 (wth u x L)) ∧ Ext w w' :=
  (worth_any L lo hi D t x w hr).mono fun e w' ⟨⟨v, he, hv⟩, hx⟩ => ⟨by rw [he, IsU.unique hr.l0 hr.l1 hr.d1 hv hu], hx⟩
theorem rworth_at (L lo hi D t x u : Int) (w : World) (hr : CkR L lo hi D) (hu : IsU L hi D t u) :
    Calls Try.prog 22 #[.agg #[.int .i64 L, .int .i64 lo, .int .i64 hi, .int .i64 D], .int .i64 x, .int .i64 t] w fun e w' => e = .returned (.int .i64 (wth u x L)) ∧ Ext w w' :=
  (rworth_any L lo hi D t x w hr).mono fun e w' ⟨⟨v, he, hv⟩, hx⟩ => ⟨by rw [he, IsU.unique hr.l0 hr.l1 hr.d1 hv hu], hx⟩

theorem law2_bad (L lo hi D x t : Int) (w : World) (h : ¬ CkR L lo hi D ∨ inst t = false) :
    Calls Try.prog 4 #[.agg #[.int .i64 L, .int .i64 lo, .int .i64 hi, .int .i64 D], .int .i64 x, .int .i64 t] w fun e w' => e = .returned (.bool true) ∧ Ext w w' := by
  by_cases hr : CkR L lo hi D
  · have HI : Hid (inst t = false) := Lib.hid (h.resolve_left (fun h => h hr))
    have HR := Lib.hid hr
    clear h hr
    go_enter Try.func4, Try.ntmps4
    go_wp2_with (first
      | (go_at_call 18; refine (inst_any _ _).mono ?_; rintro e w' ⟨rfl, rfl⟩; rw [HI.out])
      | (go_at_call 11; refine (rcheck_ok _ _ _ _ _ HR.out).mono ?_; rintro e w' ⟨rfl, hx⟩; obtain ⟨x, rfl⟩ := hx.asLater; clear hx)
      | (go_at_call 13; refine (sanity_any _).mono ?_; rintro e w' ⟨rfl, hx⟩; obtain ⟨x, rfl⟩ := hx.asLater; clear hx))
    go_ret
    exact ⟨rfl, (by (repeat (first | with_reducible exact Ext.refl _ | with_reducible refine Ext.drew ?_ | with_reducible refine Ext.drewN ?_ _ | with_reducible refine Ext.alloc ?_ _ | with_reducible refine Ext.onto ?_ _ | with_reducible refine Ext.setCell ?_ ?_ _)); all_goals (simp; try omega))⟩
  · have HR := Lib.hid hr
    clear h hr
    go_enter Try.func4, Try.ntmps4
    go_wp2_with (first
      | (go_at_call 18; refine (inst_any _ _).mono ?_; rintro e w' ⟨rfl, rfl⟩)
      | (go_at_call 11; refine (rcheck_bad _ _ _ _ _ HR.out).mono ?_; rintro e w' ⟨rfl, hx⟩; obtain ⟨x, rfl⟩ := hx.asLater; clear hx)
      | (go_at_call 13; refine (sanity_any _).mono ?_; rintro e w' ⟨rfl, hx⟩; obtain ⟨x, rfl⟩ := hx.asLater; clear hx))
    go_ret
    exact ⟨rfl, (by (repeat (first | with_reducible exact Ext.refl _ | with_reducible refine Ext.drew ?_ | with_reducible refine Ext.drewN ?_ _ | with_reducible refine Ext.alloc ?_ _ | with_reducible refine Ext.onto ?_ _ | with_reducible refine Ext.setCell ?_ ?_ _)); all_goals (simp; try omega))⟩

set_option maxHeartbeats 1000000 in
theorem law2_none (L lo hi D x t : Int) (w : World) (hr : CkR L lo hi D) (hi' : inst t = true) (hu : t ≤ rdHi L hi D L) :
    Calls Try.prog 4 #[.agg #[.int .i64 L, .int .i64 lo, .int .i64 hi, .int .i64 D], .int .i64 x, .int .i64 t] w fun e w' => e = .returned (.bool true) ∧ Ext w w' := by
  have HR := Lib.hid hr
  have HI := Lib.hid hi'
  have HU : Hid (IsU L hi D t (-1)) := Lib.hid (.inl ⟨rfl, hu⟩)
  have HD := Lib.hid (decide_eq_false (show ¬ rdHi L hi D L < t by omega))
  have h0 := hr.l0
  have h1 := hr.l1
  clear hr hi' hu
  by_cases hz : L = 0
  · subst hz
    go_enter Try.func4, Try.ntmps4
    go_wp2_with (first
      | (go_at_call 18; refine (inst_any _ _).mono ?_; rintro e w' ⟨rfl, rfl⟩; rw [HI.out])
      | (go_at_call 11; refine (rcheck_ok _ _ _ _ _ HR.out).mono ?_; rintro e w' ⟨rfl, hx⟩; obtain ⟨x, rfl⟩ := hx.asLater; clear hx)
      | (go_at_call 19; refine (until_at _ _ _ _ _ _ _ HR.out HU.out).mono ?_; rintro e w' ⟨rfl, hx⟩; obtain ⟨x, rfl⟩ := hx.asLater; clear hx))
    refine wp_region_later (by kernel_rfl) (by kernel_rfl) ?_
    repeat (first | go_big_quiet_step ((first | (go_at_call 20; exact quietE (runtil_at _ _ _ _ _ _ _ HR.out HU.out)) | (go_at_call 21; exact quietE (worth_at _ _ _ _ _ _ _ _ HR.out HU.out)) | (go_at_call 22; exact quietE (rworth_at _ _ _ _ _ _ _ _ HR.out HU.out)))) | quiet_step ((first | (go_at_call 20; exact quietE (runtil_at _ _ _ _ _ _ _ HR.out HU.out)) | (go_at_call 21; exact quietE (worth_at _ _ _ _ _ _ _ _ HR.out HU.out)) | (go_at_call 22; exact quietE (rworth_at _ _ _ _ _ _ _ _ HR.out HU.out)))))
    refine wpQuiet_nil ?_
    rintro _ ⟨xq, rfl⟩
    go_wp2_with (first
      | (go_at_call 14; refine (read_ok _ _ _ _ _ _ HR.out.l0 HR.out.a HR.out.b HR.out.c HR.out.d0 HR.out.d1 (by omega) (by omega)).mono ?_; rintro e w' ⟨rfl, hx⟩; obtain ⟨x, rfl⟩ := hx.asLater; clear hx)
      | (go_at_call 23; refine (before_any _ _ _ _).mono ?_; rintro e w' ⟨rfl, hx⟩; obtain ⟨x, rfl⟩ := hx.asLater; clear hx; rw [HD.out])
      | (go_at_call 13; refine (sanity_any _).mono ?_; rintro e w' ⟨rfl, hx⟩; obtain ⟨x, rfl⟩ := hx.asLater; clear hx))
    go_ret
    exact ⟨rfl, (by (repeat (first | with_reducible exact Ext.refl _ | with_reducible refine Ext.drew ?_ | with_reducible refine Ext.drewN ?_ _ | with_reducible refine Ext.alloc ?_ _ | with_reducible refine Ext.onto ?_ _ | with_reducible refine Ext.setCell ?_ ?_ _)); all_goals (simp; try omega))⟩
  · have hz' : 0 < L := by omega
    clear hz
    go_enter Try.func4, Try.ntmps4
    go_wp2_with (first
      | (go_at_call 18; refine (inst_any _ _).mono ?_; rintro e w' ⟨rfl, rfl⟩; rw [HI.out])
      | (go_at_call 11; refine (rcheck_ok _ _ _ _ _ HR.out).mono ?_; rintro e w' ⟨rfl, hx⟩; obtain ⟨x, rfl⟩ := hx.asLater; clear hx)
      | (go_at_call 19; refine (until_at _ _ _ _ _ _ _ HR.out HU.out).mono ?_; rintro e w' ⟨rfl, hx⟩; obtain ⟨x, rfl⟩ := hx.asLater; clear hx))
    refine wp_region_later (by kernel_rfl) (by kernel_rfl) ?_
    repeat (first | go_big_quiet_step ((first | (go_at_call 20; exact quietE (runtil_at _ _ _ _ _ _ _ HR.out HU.out)) | (go_at_call 21; exact quietE (worth_at _ _ _ _ _ _ _ _ HR.out HU.out)) | (go_at_call 22; exact quietE (rworth_at _ _ _ _ _ _ _ _ HR.out HU.out)))) | quiet_step ((first | (go_at_call 20; exact quietE (runtil_at _ _ _ _ _ _ _ HR.out HU.out)) | (go_at_call 21; exact quietE (worth_at _ _ _ _ _ _ _ _ HR.out HU.out)) | (go_at_call 22; exact quietE (rworth_at _ _ _ _ _ _ _ _ HR.out HU.out)))))
    refine wpQuiet_nil ?_
    rintro _ ⟨xq, rfl⟩
    go_wp2_with (first
      | (go_at_call 14; refine (read_ok _ _ _ _ _ _ HR.out.l0 HR.out.a HR.out.b HR.out.c HR.out.d0 HR.out.d1 (by omega) (by omega)).mono ?_; rintro e w' ⟨rfl, hx⟩; obtain ⟨x, rfl⟩ := hx.asLater; clear hx)
      | (go_at_call 23; refine (before_any _ _ _ _).mono ?_; rintro e w' ⟨rfl, hx⟩; obtain ⟨x, rfl⟩ := hx.asLater; clear hx; rw [HD.out])
      | (go_at_call 13; refine (sanity_any _).mono ?_; rintro e w' ⟨rfl, hx⟩; obtain ⟨x, rfl⟩ := hx.asLater; clear hx))
    go_ret
    exact ⟨rfl, (by (repeat (first | with_reducible exact Ext.refl _ | with_reducible refine Ext.drew ?_ | with_reducible refine Ext.drewN ?_ _ | with_reducible refine Ext.alloc ?_ _ | with_reducible refine Ext.onto ?_ _ | with_reducible refine Ext.setCell ?_ ?_ _)); all_goals (simp; try omega))⟩

set_option maxHeartbeats 1000000 in
theorem law2_some (L lo hi D x t u : Int) (w : World) (hr : CkR L lo hi D) (hi' : inst t = true) (h1 : L ≤ u) (h2 : u < 2199023255552) (h3 : rdHi L hi D u < t) (h4 : t ≤ rdHi L hi D (u + 1)) :
    Calls Try.prog 4 #[.agg #[.int .i64 L, .int .i64 lo, .int .i64 hi, .int .i64 D], .int .i64 x, .int .i64 t] w fun e w' => e = .returned (.bool true) ∧ Ext w w' := by
  have HR := Lib.hid hr
  have HI := Lib.hid hi'
  have HU : Hid (IsU L hi D t u) := Lib.hid (.inr ⟨h1, by omega, h3, fun _ => h4⟩)
  have HD := Lib.hid (decide_eq_false (show ¬ rdHi L hi D (u + 1) < t by omega))
  have HE := Lib.hid (decide_eq_true h3)
  have h0 := hr.l0
  clear hr hi' h3 h4
  go_enter Try.func4, Try.ntmps4
  go_wp2_with (first
    | (go_at_call 18; refine (inst_any _ _).mono ?_; rintro e w' ⟨rfl, rfl⟩; rw [HI.out])
    | (go_at_call 11; refine (rcheck_ok _ _ _ _ _ HR.out).mono ?_; rintro e w' ⟨rfl, hx⟩; obtain ⟨x, rfl⟩ := hx.asLater; clear hx)
    | (go_at_call 19; refine (until_at _ _ _ _ _ _ _ HR.out HU.out).mono ?_; rintro e w' ⟨rfl, hx⟩; obtain ⟨x, rfl⟩ := hx.asLater; clear hx))
  refine wp_region_later (by kernel_rfl) (by kernel_rfl) ?_
  repeat (first | go_big_quiet_step ((first | (go_at_call 20; exact quietE (runtil_at _ _ _ _ _ _ _ HR.out HU.out)) | (go_at_call 21; exact quietE (worth_at _ _ _ _ _ _ _ _ HR.out HU.out)) | (go_at_call 22; exact quietE (rworth_at _ _ _ _ _ _ _ _ HR.out HU.out)))) | quiet_step ((first | (go_at_call 20; exact quietE (runtil_at _ _ _ _ _ _ _ HR.out HU.out)) | (go_at_call 21; exact quietE (worth_at _ _ _ _ _ _ _ _ HR.out HU.out)) | (go_at_call 22; exact quietE (rworth_at _ _ _ _ _ _ _ _ HR.out HU.out)))))
  refine wpQuiet_nil ?_
  rintro _ ⟨xq, rfl⟩
  go_wp2_with (first
    | (go_at_call 14; refine (read_ok _ _ _ _ _ _ HR.out.l0 HR.out.a HR.out.b HR.out.c HR.out.d0 HR.out.d1 (by omega) (by omega)).mono ?_; rintro e w' ⟨rfl, hx⟩; obtain ⟨x, rfl⟩ := hx.asLater; clear hx)
    | (go_at_call 23; refine (before_any _ _ _ _).mono ?_; rintro e w' ⟨rfl, hx⟩; obtain ⟨x, rfl⟩ := hx.asLater; clear hx; (first | rw [HD.out] | rw [HE.out]))
    | (go_at_call 13; refine (sanity_any _).mono ?_; rintro e w' ⟨rfl, hx⟩; obtain ⟨x, rfl⟩ := hx.asLater; clear hx))
  go_ret
  exact ⟨rfl, (by (repeat (first | with_reducible exact Ext.refl _ | with_reducible refine Ext.drew ?_ | with_reducible refine Ext.drewN ?_ _ | with_reducible refine Ext.alloc ?_ _ | with_reducible refine Ext.onto ?_ _ | with_reducible refine Ext.setCell ?_ ?_ _)); all_goals (simp; try omega))⟩

set_option maxHeartbeats 1000000 in
theorem law2_last (L lo hi D x t : Int) (w : World) (hr : CkR L lo hi D) (hi' : inst t = true) (h3 : rdHi L hi D 2199023255552 < t) :
    Calls Try.prog 4 #[.agg #[.int .i64 L, .int .i64 lo, .int .i64 hi, .int .i64 D], .int .i64 x, .int .i64 t] w fun e w' => e = .returned (.bool true) ∧ Ext w w' := by
  have HR := Lib.hid hr
  have HI := Lib.hid hi'
  have HU : Hid (IsU L hi D t 2199023255552) := Lib.hid (.inr ⟨hr.l1, by omega, h3, by omega⟩)
  have HE := Lib.hid (decide_eq_true h3)
  have h0 := hr.l0
  have h1 := hr.l1
  clear hr hi' h3
  go_enter Try.func4, Try.ntmps4
  go_wp2_with (first
    | (go_at_call 18; refine (inst_any _ _).mono ?_; rintro e w' ⟨rfl, rfl⟩; rw [HI.out])
    | (go_at_call 11; refine (rcheck_ok _ _ _ _ _ HR.out).mono ?_; rintro e w' ⟨rfl, hx⟩; obtain ⟨x, rfl⟩ := hx.asLater; clear hx)
    | (go_at_call 19; refine (until_at _ _ _ _ _ _ _ HR.out HU.out).mono ?_; rintro e w' ⟨rfl, hx⟩; obtain ⟨x, rfl⟩ := hx.asLater; clear hx))
  refine wp_region_later (by kernel_rfl) (by kernel_rfl) ?_
  repeat (first | go_big_quiet_step ((first | (go_at_call 20; exact quietE (runtil_at _ _ _ _ _ _ _ HR.out HU.out)) | (go_at_call 21; exact quietE (worth_at _ _ _ _ _ _ _ _ HR.out HU.out)) | (go_at_call 22; exact quietE (rworth_at _ _ _ _ _ _ _ _ HR.out HU.out)))) | quiet_step ((first | (go_at_call 20; exact quietE (runtil_at _ _ _ _ _ _ _ HR.out HU.out)) | (go_at_call 21; exact quietE (worth_at _ _ _ _ _ _ _ _ HR.out HU.out)) | (go_at_call 22; exact quietE (rworth_at _ _ _ _ _ _ _ _ HR.out HU.out)))))
  refine wpQuiet_nil ?_
  rintro _ ⟨xq, rfl⟩
  go_wp2_with (first
    | (go_at_call 14; (first | with_reducible refine (read_arg _ _ _ _ 2199023255553 _ (by omega)).mono ?_ | refine (read_ok _ _ _ _ _ _ HR.out.l0 HR.out.a HR.out.b HR.out.c HR.out.d0 HR.out.d1 (by omega) (by omega)).mono ?_); rintro e w' ⟨rfl, hx⟩; obtain ⟨x, rfl⟩ := hx.asLater; clear hx)
    | (go_at_call 23; refine (before_any _ _ _ _).mono ?_; rintro e w' ⟨rfl, hx⟩; obtain ⟨x, rfl⟩ := hx.asLater; clear hx; rw [HE.out])
    | (go_at_call 13; refine (sanity_any _).mono ?_; rintro e w' ⟨rfl, hx⟩; obtain ⟨x, rfl⟩ := hx.asLater; clear hx))
  go_ret
  exact ⟨rfl, (by (repeat (first | with_reducible exact Ext.refl _ | with_reducible refine Ext.drew ?_ | with_reducible refine Ext.drewN ?_ _ | with_reducible refine Ext.alloc ?_ _ | with_reducible refine Ext.onto ?_ _ | with_reducible refine Ext.setCell ?_ ?_ _)); all_goals (simp; try omega))⟩

theorem law2_any (L lo hi D x t : Int) (w : World) :
    Calls Try.prog 4 #[.agg #[.int .i64 L, .int .i64 lo, .int .i64 hi, .int .i64 D], .int .i64 x, .int .i64 t] w fun e w' => e = .returned (.bool true) ∧ Ext w w' := by
  by_cases hr : CkR L lo hi D
  · by_cases ht : inst t = true
    · obtain ⟨u, hu⟩ := isU_ex t hr
      rcases hu with ⟨_, hu⟩ | ⟨h1, h2, h3, h4⟩
      · exact law2_none L lo hi D x t w hr ht hu
      · by_cases hl : u < 2199023255552
        · exact law2_some L lo hi D x t u w hr ht h1 hl h3 (h4 hl)
        · obtain rfl : u = 2199023255552 := by omega
          exact law2_last L lo hi D x t w hr ht h3
    · exact law2_bad L lo hi D x t w (.inr (by simpa using ht))
  · exact law2_bad L lo hi D x t w (.inl hr)
end Go.Proofs.Ytkcclpomhniafaa
