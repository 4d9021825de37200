/- Walks of the clock: Honest, and the specification's Honest and Show. -/
import Derived.Test.YtkcclpomhniafaaRows
import Derived.Test.YtkcclpomhniafaaExt
import Derived.WalkKit
import Derived.WalkSpells
import Derived.WalkLawsBesides
import Derived.Deep.QuietTactic
import Derived.BigQuiet
import Derived.Test.YtkcclpomhniafaaCkA
import Derived.Test.YtkcclpomhniafaaCkE
import Derived.Test.YtkcclpomhniafaaCkF
import Derived.LoopTactic
set_option linter.unusedVariables false
set_option linter.unusedSimpArgs false
namespace Go.Proofs.Ytkcclpomhniafaa
open Go.RowKit

theorem PReads.up {w w' : World} {A : Option Addr} {ps : List (Int × Int)} (h : PReads w w.heap.size A ps) (hx : Ext w w') : PReads w' w'.heap.size A ps := by
  intro h0
  obtain ⟨b, off, e, hb, hc⟩ := h.ext hx (Nat.le_refl _) h0
  exact ⟨b, off, e, by have := hx.size; omega, hc⟩

def honB (ps : List (Int × Int)) (d : Int) : Bool := rightB ps 100000 && (decide (100000 ≤ d) || ps.isEmpty || (decide (0 ≤ d) && rightB ps d))

set_option maxHeartbeats 400000 in
theorem honest_any (A : Option Addr) (c : Nat) (ps : List (Int × Int)) (d : Int) (w : World) (hm : ps.length ≤ 9223372036854775807) (hr : PReads w w.heap.size A ps) :
    Calls Try.prog 29 #[.slice A ps.length c, .int .i64 d] w fun e w' => e = .returned (.bool (honB ps d)) ∧ Ext w w' := by
  have HP := Lib.hid hr
  clear hr
  by_cases h1 : rightB ps 100000 = true
  · have H1 := Lib.hid h1
    clear h1
    by_cases h2 : 100000 ≤ d
    · have HF : Hid (honB ps d = true) := Lib.hid (by simp [honB, H1.out, h2])
      go_enter Try.func29, Try.ntmps29
      go_wp2_with (go_at_call 45; refine (right_any _ _ _ _ _ (by omega) (by omega) hm (HP.out.up (by (repeat (first | with_reducible exact Ext.refl _ | with_reducible refine Ext.drew ?_ | with_reducible refine Ext.drewN ?_ _ | with_reducible refine Ext.alloc ?_ _ | with_reducible refine Ext.onto ?_ _ | with_reducible refine Ext.setCell ?_ ?_ _)); all_goals (simp; try omega)))).mono ?_; rintro e w' ⟨rfl, hxl⟩; obtain ⟨xl, rfl⟩ := hxl.asLater; clear hxl; rw [H1.out])
      go_ret
      exact ⟨ret_bool (by rw [HF.out]), (by (repeat (first | with_reducible exact Ext.refl _ | with_reducible refine Ext.drew ?_ | with_reducible refine Ext.drewN ?_ _ | with_reducible refine Ext.alloc ?_ _ | with_reducible refine Ext.onto ?_ _ | with_reducible refine Ext.setCell ?_ ?_ _)); all_goals (simp; try omega))⟩
    · by_cases h3 : ps.length = 0
      · have HF : Hid (honB ps d = true) := Lib.hid (by have : ps = [] := List.eq_nil_of_length_eq_zero h3
                                                        subst this; simp [honB, rightB])
        have h3' : ((ps.length : Int) == 0) = true := by simp [h3]
        have H3 := Lib.hid h3
        clear h3
        go_enter Try.func29, Try.ntmps29
        go_wp2_with (go_at_call 45; refine (right_any _ _ _ _ _ (by omega) (by omega) hm (HP.out.up (by (repeat (first | with_reducible exact Ext.refl _ | with_reducible refine Ext.drew ?_ | with_reducible refine Ext.drewN ?_ _ | with_reducible refine Ext.alloc ?_ _ | with_reducible refine Ext.onto ?_ _ | with_reducible refine Ext.setCell ?_ ?_ _)); all_goals (simp; try omega)))).mono ?_; rintro e w' ⟨rfl, hxl⟩; obtain ⟨xl, rfl⟩ := hxl.asLater; clear hxl; rw [H1.out])
        go_ret
        exact ⟨ret_bool (by rw [HF.out]), (by (repeat (first | with_reducible exact Ext.refl _ | with_reducible refine Ext.drew ?_ | with_reducible refine Ext.drewN ?_ _ | with_reducible refine Ext.alloc ?_ _ | with_reducible refine Ext.onto ?_ _ | with_reducible refine Ext.setCell ?_ ?_ _)); all_goals (simp; try omega))⟩
      · have h3' : ((ps.length : Int) == 0) = false := by simp; intro e; exact h3 (by simp [e])
        have h3'' : 0 < ps.length := by omega
        have he : ps.isEmpty = false := by cases ps; simp at h3''; rfl
        by_cases h4 : 0 ≤ d
        · have HF : Hid (honB ps d = rightB ps d) := Lib.hid (by simp [honB, H1.out, h2, h4, he])
          clear he h3
          go_enter Try.func29, Try.ntmps29
          go_wp2_with fail
          refine (right_any _ _ _ _ _ (by omega) (by omega) hm (HP.out.up (by (repeat (first | with_reducible exact Ext.refl _ | with_reducible refine Ext.drew ?_ | with_reducible refine Ext.drewN ?_ _ | with_reducible refine Ext.alloc ?_ _ | with_reducible refine Ext.onto ?_ _ | with_reducible refine Ext.setCell ?_ ?_ _)); all_goals (simp; try omega)))).mono ?_
          rintro e w' ⟨rfl, hxl⟩; obtain ⟨xl, rfl⟩ := hxl.asLater; clear hxl
          rw [H1.out]
          go_wp2_with fail
          refine (right_any _ _ _ _ _ (by omega) (by omega) hm (HP.out.up (by (repeat (first | with_reducible exact Ext.refl _ | with_reducible refine Ext.drew ?_ | with_reducible refine Ext.drewN ?_ _ | with_reducible refine Ext.alloc ?_ _ | with_reducible refine Ext.onto ?_ _ | with_reducible refine Ext.setCell ?_ ?_ _)); all_goals (simp; try omega)))).mono ?_
          rintro e w' ⟨rfl, hxl⟩; obtain ⟨xl, rfl⟩ := hxl.asLater; clear hxl
          go_wp2_with fail
          go_ret
          exact ⟨ret_bool (by rw [HF.out, decide_eq_false (show ¬ 100000 ≤ d by omega), Bool.false_or]), (by (repeat (first | with_reducible exact Ext.refl _ | with_reducible refine Ext.drew ?_ | with_reducible refine Ext.drewN ?_ _ | with_reducible refine Ext.alloc ?_ _ | with_reducible refine Ext.onto ?_ _ | with_reducible refine Ext.setCell ?_ ?_ _)); all_goals (simp; try omega))⟩
        · have HF : Hid (honB ps d = false) := Lib.hid (by simp [honB, h2, h4, he])
          clear he h3
          go_enter Try.func29, Try.ntmps29
          go_wp2_with (go_at_call 45; refine (right_any _ _ _ _ _ (by omega) (by omega) hm (HP.out.up (by (repeat (first | with_reducible exact Ext.refl _ | with_reducible refine Ext.drew ?_ | with_reducible refine Ext.drewN ?_ _ | with_reducible refine Ext.alloc ?_ _ | with_reducible refine Ext.onto ?_ _ | with_reducible refine Ext.setCell ?_ ?_ _)); all_goals (simp; try omega)))).mono ?_; rintro e w' ⟨rfl, hxl⟩; obtain ⟨xl, rfl⟩ := hxl.asLater; clear hxl; rw [H1.out])
          go_ret
          exact ⟨ret_bool (by rw [HF.out]; simp; omega), (by (repeat (first | with_reducible exact Ext.refl _ | with_reducible refine Ext.drew ?_ | with_reducible refine Ext.drewN ?_ _ | with_reducible refine Ext.alloc ?_ _ | with_reducible refine Ext.onto ?_ _ | with_reducible refine Ext.setCell ?_ ?_ _)); all_goals (simp; try omega))⟩
  · have H1 : Hid (rightB ps 100000 = false) := Lib.hid (by simpa using h1)
    have HF : Hid (honB ps d = false) := Lib.hid (by simp [honB, H1.out])
    clear h1
    go_enter Try.func29, Try.ntmps29
    go_wp2_with (go_at_call 45; refine (right_any _ _ _ _ _ (by omega) (by omega) hm (HP.out.up (by (repeat (first | with_reducible exact Ext.refl _ | with_reducible refine Ext.drew ?_ | with_reducible refine Ext.drewN ?_ _ | with_reducible refine Ext.alloc ?_ _ | with_reducible refine Ext.onto ?_ _ | with_reducible refine Ext.setCell ?_ ?_ _)); all_goals (simp; try omega)))).mono ?_; rintro e w' ⟨rfl, hxl⟩; obtain ⟨xl, rfl⟩ := hxl.asLater; clear hxl; rw [H1.out])
    go_ret
    exact ⟨ret_bool (by rw [HF.out]), (by (repeat (first | with_reducible exact Ext.refl _ | with_reducible refine Ext.drew ?_ | with_reducible refine Ext.drewN ?_ _ | with_reducible refine Ext.alloc ?_ _ | with_reducible refine Ext.onto ?_ _ | with_reducible refine Ext.setCell ?_ ?_ _)); all_goals (simp; try omega))⟩

set_option maxHeartbeats 400000 in
theorem rhonest_any (A : Option Addr) (c : Nat) (ps : List (Int × Int)) (d : Int) (w : World) (hm : ps.length ≤ 9223372036854775807) (hr : PReads w w.heap.size A ps) :
    Calls Try.prog 24 #[.slice A ps.length c, .int .i64 d] w fun e w' => e = .returned (.bool (honB ps d)) ∧ w = w' := by
  have HP := Lib.hid hr
  clear hr
  by_cases h1 : rightB ps 100000 = true
  · have H1 := Lib.hid h1
    clear h1
    by_cases h2 : d < 0
    · have HF : Hid (honB ps d = ((ps.length : Int) == 0)) := Lib.hid (by
        rw [Bool.eq_iff_iff]; simp [honB, H1.out]; have h3 : ¬ 100000 ≤ d := by omega
        have h4 : ¬ 0 ≤ d := by omega
        simp [h3, h4])
      go_enter Try.func24, Try.ntmps24
      go_wp2_with (go_at_call 44; refine (rright_any _ _ _ _ _ (by omega) (by omega) hm HP.out).mono ?_; rintro e w' ⟨rfl, rfl⟩; rw [H1.out])
      go_ret
      exact ⟨ret_bool (by rw [HF.out]), rfl⟩
    · by_cases h3 : 100000 < d
      · have HF : Hid (honB ps d = true) := Lib.hid (by have : 100000 ≤ d := by omega
                                                        simp [honB, H1.out, this])
        go_enter Try.func24, Try.ntmps24
        go_wp2_with (go_at_call 44; refine (rright_any _ _ _ _ _ (by omega) (by omega) hm HP.out).mono ?_; rintro e w' ⟨rfl, rfl⟩; rw [H1.out])
        go_ret
        exact ⟨ret_bool (by rw [HF.out]), rfl⟩
      · have HF : Hid (honB ps d = rightB ps d) := Lib.hid (by
          by_cases h4 : d = 100000
          · subst h4; simp [honB]
          · have h5 : ¬ 100000 ≤ d := by omega
            have h6 : 0 ≤ d := by omega
            cases ps with
            | nil => simp [honB, rightB]
            | cons p ps => simp [honB, H1.out, h5, h6])
        go_enter Try.func24, Try.ntmps24
        go_wp2_with fail
        refine (rright_any _ _ _ _ _ (by omega) (by omega) hm HP.out).mono ?_
        rintro e w' ⟨rfl, rfl⟩
        rw [H1.out]
        go_wp2_with fail
        refine (rright_any _ _ _ _ _ (by omega) (by omega) hm HP.out).mono ?_
        rintro e w' ⟨rfl, rfl⟩
        go_wp2_with fail
        go_ret
        exact ⟨ret_bool (by rw [HF.out, decide_eq_false (show ¬ 100000 < d by omega), Bool.false_or]), rfl⟩
  · have H1 : Hid (rightB ps 100000 = false) := Lib.hid (by simpa using h1)
    have HF : Hid (honB ps d = false) := Lib.hid (by simp [honB, H1.out])
    clear h1
    by_cases h2 : d < 0
    all_goals
      go_enter Try.func24, Try.ntmps24
      go_wp2_with (go_at_call 44; refine (rright_any _ _ _ _ _ (by omega) (by omega) hm HP.out).mono ?_; rintro e w' ⟨rfl, rfl⟩; rw [H1.out])
      go_ret
      exact ⟨ret_bool (by rw [HF.out]), rfl⟩

theorem rshow_bad (base t : Int) (A : Option Addr) (c : Nat) (ps : List (Int × Int)) (w : World) (hm : ps.length ≤ 9223372036854775807) (hr : PReads w w.heap.size A ps)
    (h : base < 0 ∨ 1099511627776 < base ∨ t < 0 ∨ 1099511627776 < t ∨ rightB ps 100000 = false) :
    Calls Try.prog 28 #[.int .i64 base, .slice A ps.length c, .int .i64 t] w fun e w' => e = .returned (.agg #[.int .i64 0, .int .i64 1]) ∧ Ext w w' := by
  have HP := Lib.hid hr
  clear hr
  by_cases h1 : inst base = true
  · by_cases h2 : inst t = true
    · have H1 := Lib.hid h1
      have H2 := Lib.hid h2
      have H5 : Hid (rightB ps 100000 = false) := by
        rw [inst_iff] at h1 h2
        rcases h with h | h | h | h | h
        · omega
        · omega
        · omega
        · omega
        · exact Lib.hid h
      clear h h1 h2
      go_enter Try.func28, Try.ntmps28
      go_wp2_with (first
        | (go_at_call 44; refine (rright_any _ _ _ _ _ (by omega) (by omega) hm (HP.out.up (by (repeat (first | with_reducible exact Ext.refl _ | with_reducible refine Ext.drew ?_ | with_reducible refine Ext.drewN ?_ _ | with_reducible refine Ext.alloc ?_ _ | with_reducible refine Ext.onto ?_ _ | with_reducible refine Ext.setCell ?_ ?_ _)); all_goals (simp; try omega)))).mono ?_; rintro e w' ⟨rfl, rfl⟩; rw [H5.out])
        | (go_at_call 18; refine (inst_any _ _).mono ?_; rintro e w' ⟨rfl, rfl⟩; (first | rw [H1.out] | rw [H2.out])))
      refine bodyPost_ret (v := .agg #[.int .i64 0, .int .i64 1]) ?_ rfl ⟨rfl, (by (repeat (first | with_reducible exact Ext.refl _ | with_reducible refine Ext.drew ?_ | with_reducible refine Ext.drewN ?_ _ | with_reducible refine Ext.alloc ?_ _ | with_reducible refine Ext.onto ?_ _ | with_reducible refine Ext.setCell ?_ ?_ _)); all_goals (simp; try omega))⟩
      simp [results, Try.results28, go_sem, ↓IntWalk.iteOmega]
    · have H1 := Lib.hid h1
      have H2 : Hid (inst t = false) := Lib.hid (by simpa using h2)
      clear h h1 h2
      go_enter Try.func28, Try.ntmps28
      go_wp2_with (first
        | (go_at_call 44; refine (rright_any _ _ _ _ _ (by omega) (by omega) hm (HP.out.up (by (repeat (first | with_reducible exact Ext.refl _ | with_reducible refine Ext.drew ?_ | with_reducible refine Ext.drewN ?_ _ | with_reducible refine Ext.alloc ?_ _ | with_reducible refine Ext.onto ?_ _ | with_reducible refine Ext.setCell ?_ ?_ _)); all_goals (simp; try omega)))).mono ?_; rintro e w' ⟨rfl, rfl⟩)
        | (go_at_call 18; refine (inst_any _ _).mono ?_; rintro e w' ⟨rfl, rfl⟩; (first | rw [H1.out] | rw [H2.out])))
      refine bodyPost_ret (v := .agg #[.int .i64 0, .int .i64 1]) ?_ rfl ⟨rfl, (by (repeat (first | with_reducible exact Ext.refl _ | with_reducible refine Ext.drew ?_ | with_reducible refine Ext.drewN ?_ _ | with_reducible refine Ext.alloc ?_ _ | with_reducible refine Ext.onto ?_ _ | with_reducible refine Ext.setCell ?_ ?_ _)); all_goals (simp; try omega))⟩
      simp [results, Try.results28, go_sem, ↓IntWalk.iteOmega]
  · have H1 : Hid (inst base = false) := Lib.hid (by simpa using h1)
    clear h h1
    go_enter Try.func28, Try.ntmps28
    go_wp2_with (first
      | (go_at_call 44; refine (rright_any _ _ _ _ _ (by omega) (by omega) hm (HP.out.up (by (repeat (first | with_reducible exact Ext.refl _ | with_reducible refine Ext.drew ?_ | with_reducible refine Ext.drewN ?_ _ | with_reducible refine Ext.alloc ?_ _ | with_reducible refine Ext.onto ?_ _ | with_reducible refine Ext.setCell ?_ ?_ _)); all_goals (simp; try omega)))).mono ?_; rintro e w' ⟨rfl, rfl⟩)
      | (go_at_call 18; refine (inst_any _ _).mono ?_; rintro e w' ⟨rfl, rfl⟩; (first | rw [H1.out] | skip)))
    refine bodyPost_ret (v := .agg #[.int .i64 0, .int .i64 1]) ?_ rfl ⟨rfl, (by (repeat (first | with_reducible exact Ext.refl _ | with_reducible refine Ext.drew ?_ | with_reducible refine Ext.drewN ?_ _ | with_reducible refine Ext.alloc ?_ _ | with_reducible refine Ext.onto ?_ _ | with_reducible refine Ext.setCell ?_ ?_ _)); all_goals (simp; try omega))⟩
    simp [results, Try.results28, go_sem, ↓IntWalk.iteOmega]

set_option maxHeartbeats 1000000 in
theorem rshow_ok (base t : Int) (A : Option Addr) (c : Nat) (ps : List (Int × Int)) (w : World) (hr : PReads w w.heap.size A ps)
    (h1 : 0 ≤ base) (h2 : base ≤ 1099511627776) (h3 : 0 ≤ t) (h4 : t ≤ 1099511627776) (hR : rightB ps 100000 = true) (q : Int) (hq : Hid (((shFold ps t).1 + (shFold ps t).2 * 1000000) = q))
    (v : Value) (hv : (base + q / 1000000 ≤ 2199023255552 ∧ v = .agg #[.int .i64 (base + q / 1000000), .int .i64 0]) ∨ (2199023255552 < base + q / 1000000 ∧ v = .agg #[.int .i64 0, .int .i64 2])) :
    Calls Try.prog 28 #[.int .i64 base, .slice A ps.length c, .int .i64 t] w fun e w' => e = .returned v ∧ Ext w w' := by
  have hlen : ps.length ≤ 100 := by simp [rightB] at hR; omega
  have hall : ps.all (okPace 100000) = true := by simp [rightB] at hR ⊢; exact hR.1
  have hbd := shFold_bd ps t h3 ps.length hall
  rw [List.take_length] at hbd
  have hq0 : 0 ≤ q := by have := hq.out; omega
  have hq1 : q ≤ 1209462790553600000 := by have := hq.out; omega
  clear hbd
  have HV := Lib.hid hv
  clear hv
  have HA := Lib.hid hall
  have HR := Lib.hid hR
  have HP := Lib.hid hr
  have HI1 : Hid (inst base = true) := Lib.hid (inst_iff.2 ⟨h1, h2⟩)
  have HI2 : Hid (inst t = true) := Lib.hid (inst_iff.2 ⟨h3, h4⟩)
  clear hall hR hr
  go_enter Try.func28, Try.ntmps28
  go_wp2_with (first
    | (go_at_call 44; refine (rright_any _ _ _ _ _ (by omega) (by omega) (by omega) (HP.out.up (by (repeat (first | with_reducible exact Ext.refl _ | with_reducible refine Ext.drew ?_ | with_reducible refine Ext.drewN ?_ _ | with_reducible refine Ext.alloc ?_ _ | with_reducible refine Ext.onto ?_ _ | with_reducible refine Ext.setCell ?_ ?_ _)); all_goals (simp; try omega)))).mono ?_; rintro e w' ⟨rfl, rfl⟩; rw [HR.out])
    | (go_at_call 18; refine (inst_any _ _).mono ?_; rintro e w' ⟨rfl, rfl⟩; (first | rw [HI1.out] | rw [HI2.out])))
  go_loop [8, 9, 2] (fun p i r => ∃ k : Nat, k ≤ ps.length ∧ i = .int .i64 k ∧ p = .int .i64 (shFold (ps.take k) t).1 ∧ r = .int .i64 (shFold (ps.take k) t).2) (fun _ i _ => ps.length - (intOf i).toNat)
  case atStart => exact ⟨0, Nat.zero_le _, rfl, rfl, rfl⟩
  case round =>
    obtain ⟨k, hk, rfl, rfl, rfl⟩ := hrel
    obtain ⟨g1, g2, g3, g4⟩ := shFold_bd ps t h3 k HA.out
    by_cases hlt : k < ps.length
    · obtain ⟨b, off, rfl, hb, hc⟩ := HP.out (by omega)
      have hc1 := (hc k hlt).1
      have hc2 := (hc k hlt).2
      clear hc
      have hg : ps.getD k (0, 0) = ps[k] := by simp [hlt]
      rw [hg] at hc1 hc2
      have hokk : okPace 100000 ps[k] = true := List.all_eq_true.1 HA.out _ (List.getElem_mem hlt)
      rw [okPace_iff] at hokk
      obtain ⟨e1, e2, e3, e4⟩ := hokk
      have HN := Lib.hid (shFold_snoc ps t k hlt)
      generalize shFold (ps.take k) t = s at *
      generalize ps[k] = x at hc1 hc2 e1 e2 e3 e4 HN
      obtain ⟨s1, s2⟩ := s
      obtain ⟨x1, x2⟩ := x
      simp only [] at hc1 hc2 e1 e2 e3 e4 g1 g2 g3 g4
      clear hg
      by_cases hmin : s2 < x1
      · have HQ := Lib.hid (show min x1 s2 = s2 by omega)
        have m1 : 0 ≤ s2 * (1000000 + x2) := Int.mul_nonneg g1 (by omega)
        have m2 : s2 * (1000000 + x2) ≤ s2 * 1100000 := Int.mul_le_mul_of_nonneg_left (by omega) g1
        go_wp2
        go_round
        case rel => exact ⟨k + 1, by omega, by go_num, by rw [HN.out]; simp only [shStep, HQ.out], by rw [HN.out]; simp only [shStep, HQ.out]; rw [Int.sub_self]⟩
        case measure => simp [intOf]; omega
      · have HQ := Lib.hid (show min x1 s2 = x1 by omega)
        have m1 : 0 ≤ x1 * (1000000 + x2) := Int.mul_nonneg e1 (by omega)
        have m2 : x1 * (1000000 + x2) ≤ x1 * 1100000 := Int.mul_le_mul_of_nonneg_left (by omega) e1
        go_wp2
        go_round
        case rel => exact ⟨k + 1, by omega, by go_num, by rw [HN.out]; simp only [shStep, HQ.out], by rw [HN.out]; simp only [shStep, HQ.out]⟩
        case measure => simp [intOf]; omega
    · have : k = ps.length := by omega
      subst this
      rw [List.take_length] at g1 g2 g3 g4 ⊢
      have HQ : Hid ((shFold ps t).1 + (shFold ps t).2 * 1000000 = q) := hq
      clear hq
      generalize shFold ps t = s at *
      obtain ⟨s1, s2⟩ := s
      simp only [] at g1 g2 g3 g4 HQ
      obtain ⟨q', hq'⟩ : ∃ q', q' = s1 + s2 * 1000000 := ⟨_, rfl⟩
      have e : q = s1 + s2 * 1000000 := HQ.out.symm
      subst e
      clear hq' q'
      rcases HV.out with ⟨hv1, rfl⟩ | ⟨hv1, rfl⟩
      · go_wp2
        refine bodyPost_ret (v := .agg #[.int .i64 (base + (s1 + s2 * 1000000) / 1000000), .int .i64 0]) ?_ rfl ⟨rfl, (by (repeat (first | with_reducible exact Ext.refl _ | with_reducible refine Ext.drew ?_ | with_reducible refine Ext.drewN ?_ _ | with_reducible refine Ext.alloc ?_ _ | with_reducible refine Ext.onto ?_ _ | with_reducible refine Ext.setCell ?_ ?_ _)); all_goals (simp; try omega))⟩
        simp [results, Try.results28, go_sem, ↓IntWalk.iteOmega]
      · go_wp2
        refine bodyPost_ret (v := .agg #[.int .i64 0, .int .i64 2]) ?_ rfl ⟨rfl, (by (repeat (first | with_reducible exact Ext.refl _ | with_reducible refine Ext.drew ?_ | with_reducible refine Ext.drewN ?_ _ | with_reducible refine Ext.alloc ?_ _ | with_reducible refine Ext.onto ?_ _ | with_reducible refine Ext.setCell ?_ ?_ _)); all_goals (simp; try omega))⟩
        simp [results, Try.results28, go_sem, ↓IntWalk.iteOmega]
end Go.Proofs.Ytkcclpomhniafaa
