/- PROVED: weirgatelaw05.ClockContainsTrueTime returns true for every base, paces, drift, period, instant, steps and widths, and leaves its arguments as they were. No condition. -/
import Derived.Test.YtkcclpomhniafaaOpenI
import Derived.Test.YtkcclpomhniafaaL3
set_option linter.unusedVariables false
set_option linter.unusedSimpArgs false
namespace Go.Proofs.Ytkcclpomhniafaa
open Go.ChangeShapes Go.WideShapes Go.ChangeAt Go.RowKit

set_option maxRecDepth 100000 in
theorem clockContainsTrueTime_lifted (os : Os) (started : os.Started) (H : Type) (enc : TypeId × Value → H) :
    ReturnsInHanded {} Try.checked os 5 .any (Rows.clockContainsTrueTimeSpec.pre6 enc Try.prog Try.f5 Rows.clockContainsTrueTimeRow.domain false) (Rows.clockContainsTrueTimeSpec.post enc Try.prog Try.f5 false true false false) := by
  refine returnsInHanded_of_change (C := Try.checked) Try.own started (by kernel_rfl) Try.func5
    (ChangeSpec.witness6 (enc := enc) (C := Try.checked) false ⟨#[], #[.int .i64 0, .slice none 0 0, .int .i64 0, .agg #[.int .i64 0, .int .i64 0], .int .i64 0, .slice none 0 0, .slice none 0 0], []⟩ 8 (by kernel_rfl) (by kernel_rfl) (by kernel_rfl) (by kernel_rfl)) ?_
  intro W base args ds gs before hval0 hW hcnd _
  have hval : ∀ (j : Nat) t v, Try.f5.params[j]? = some t → args[j]? = some v → Value.okWide Try.prog W .any base t v := hval0
  have hW' := hW
  obtain ⟨p, q, hA0, hV, rfl, hfz, hnd⟩ := hW
  have hA : DataW.TrodAll enc Try.prog W 0 (fun _ => true) true Try.f5.params.toList args.toList ds p := hA0
  rw [Try.params5] at hA hval
  obtain ⟨rfl, rfl⟩ := trodVars_none hV
  clear hA0 hval0 hcnd
  obtain ⟨v0, vs0, d0, ds0, p0, q0, hargs, rfl, rfl, h0, r0⟩ := trodAll_cons hA
  obtain ⟨v1, vs1, d1, ds1, p1, q1, rfl, rfl, rfl, h1, r1⟩ := trodAll_cons r0
  obtain ⟨v2, vs2, d2, ds2, p2, q2, rfl, rfl, rfl, h2, r2⟩ := trodAll_cons r1
  obtain ⟨v3, vs3, d3, ds3, p3, q3, rfl, rfl, rfl, h3, r3⟩ := trodAll_cons r2
  obtain ⟨v4, vs4, d4, ds4, p4, q4, rfl, rfl, rfl, h4, r4⟩ := trodAll_cons r3
  obtain ⟨v5, vs5, d5, ds5, p5, q5, rfl, rfl, rfl, h5, r5⟩ := trodAll_cons r4
  obtain ⟨v6, vs6, d6, ds6, p6, q6, rfl, rfl, rfl, h6, r6⟩ := trodAll_cons r5
  obtain ⟨rfl, rfl, rfl⟩ := trodAll_nil r6
  obtain rfl : args = #[v0, v1, v2, v3, v4, v5, v6] := by cases args; simp_all
  obtain ⟨base, rfl, _, _, _⟩ := open_int Try.underlying3 (hval 0 3 v0 rfl rfl) h0
  obtain ⟨A, c, ps, rfl, hm, hr⟩ := open_paces (hval 1 46 v1 rfl rfl) h1
  obtain ⟨d, rfl, _, _, _⟩ := open_int Try.underlying3 (hval 2 3 v2 rfl rfl) h2
  obtain ⟨lo, hi, rfl, _⟩ := open_period (hval 3 23 v3 rfl rfl) h3
  obtain ⟨s, rfl, _, _, _⟩ := open_int Try.underlying3 (hval 4 3 v4 rfl rfl) h4
  obtain ⟨S, cs, zs, rfl, hzm, hS, hzw⟩ := open_ilist Try.underlying47 Try.underlying76 (by kernel_rfl) (hval 5 47 v5 rfl rfl) h5
  obtain ⟨Wd, cw, ws, rfl, hwm, hWd, hww⟩ := open_ilist Try.underlying48 Try.underlying77 (by kernel_rfl) (hval 6 48 v6 rfl rfl) h6
  unfold maxLen at hm hzm hwm
  have key : Calls Try.prog 5 #[.int .i64 base, .slice A ps.length c, .int .i64 d, .agg #[.int .i64 lo, .int .i64 hi], .int .i64 s, .slice S zs.length cs, .slice Wd ws.length cw] W fun e w' => e = .returned (.bool true) ∧ Ext W w' := by
    by_cases h : honB ps d = false ∨ vld lo hi = false ∨ d < 0 ∨ 100000 < d ∨ s < lo ∨ hi < s ∨ 100 < zs.length
    · exact law3_bad base d lo hi s A S Wd c cs cw ps zs ws W (by omega) (by omega) hr h
    · simp only [not_or, Bool.not_eq_false, Int.not_lt, Nat.not_lt] at h
      exact law3_good base d lo hi s A S Wd c cs cw ps zs ws W (by omega) hr hS hWd (by omega) (fun i hi => wf_u32 (hzw i hi)) (fun i hi => wf_u16 (hww i hi)) h.1 h.2.1 h.2.2.1 h.2.2.2.1 h.2.2.2.2.1 h.2.2.2.2.2.1 h.2.2.2.2.2.2
  refine key.mono fun e W' ⟨he, hx⟩ => ?_
  subst he
  exact ⟨_, rfl, law_post Try.laidOut (by kernel_rfl) rfl hW' hx 4 (by kernel_rfl) Try.underlying4 rfl rfl rfl⟩

theorem clockContainsTrueTime_holds : Rows.ClockContainsTrueTimeSaid :=
  OpenClaim.holds_of_wide 5 Try.f5 rfl rfl rfl rfl rfl rfl rfl ⟨rfl, rfl, rfl, rfl, rfl⟩ rfl rfl rfl rfl rfl (by kernel_rfl) Try.func5 (by kernel_rfl)
    (of_decide_eq_true (by kernel_rfl)) (by unfold Func.isWrapper; first | (rw [if_pos (by decide +kernel)]; kernel_rfl) | (rw [if_neg (by decide +kernel)]; exact ⟨rfl, rfl⟩))
    (fun os started H enc _ => clockContainsTrueTime_lifted os started H enc)
#print axioms clockContainsTrueTime_holds
end Go.Proofs.Ytkcclpomhniafaa
