/- The plain law: what a clock reads contains the true instant. -/
import Derived.Test.YtkcclpomhniafaaCkK
import Derived.Test.YtkcclpomhniafaaL4
set_option linter.unusedVariables false
set_option linter.unusedSimpArgs false
namespace Go.Proofs.Ytkcclpomhniafaa

def shG : List (Int × Int) → Int → Int
  | [], t => t * 1000000
  | p :: ps, t => min p.1 t * (1000000 + p.2) + shG ps (t - min p.1 t)

theorem fold_shG : ∀ (ps : List (Int × Int)) (s : Int × Int), (ps.foldl shStep s).1 + (ps.foldl shStep s).2 * 1000000 = s.1 + shG ps s.2
  | [], s => by simp [shG]
  | p :: ps, s => by
    rw [List.foldl_cons, fold_shG ps (shStep s p)]
    simp only [shStep, shG]
    omega
theorem shFold_shG (ps : List (Int × Int)) (t : Int) : (shFold ps t).1 + (shFold ps t).2 * 1000000 = shG ps t := by
  unfold shFold; rw [fold_shG]; simp

theorem shG_diff (D : Int) (hD : 0 ≤ D) (hD1 : D ≤ 100000) : ∀ (ps : List (Int × Int)) (s t : Int), ps.all (okPace D) = true → 0 ≤ s → s ≤ t →
    (t - s) * (1000000 - D) ≤ shG ps t - shG ps s ∧ shG ps t - shG ps s ≤ (t - s) * (1000000 + D)
  | [], s, t, _, h0, h => by
    simp only [shG]
    have e1 : (t - s) * (1000000 - D) = (t - s) * 1000000 - (t - s) * D := Int.mul_sub _ _ _
    have e2 : (t - s) * (1000000 + D) = (t - s) * 1000000 + (t - s) * D := Int.mul_add _ _ _
    have e3 : 0 ≤ (t - s) * D := Int.mul_nonneg (by omega) hD
    omega
  | p :: ps, s, t, hok, h0, h => by
    simp only [List.all_cons, Bool.and_eq_true] at hok
    have hp := okPace_iff.1 hok.1
    have hm : min p.1 s ≤ min p.1 t := by omega
    obtain ⟨i1, i2⟩ := shG_diff D hD hD1 ps (s - min p.1 s) (t - min p.1 t) hok.2 (by omega) (by omega)
    simp only [shG]
    have a0 : 0 ≤ min p.1 t - min p.1 s := by omega
    have a1 : (min p.1 t - min p.1 s) * (1000000 - D) ≤ (min p.1 t - min p.1 s) * (1000000 + p.2) := Int.mul_le_mul_of_nonneg_left (by omega) a0
    have a2 : (min p.1 t - min p.1 s) * (1000000 + p.2) ≤ (min p.1 t - min p.1 s) * (1000000 + D) := Int.mul_le_mul_of_nonneg_left (by omega) a0
    have b1 : (t - s) * (1000000 - D) = (min p.1 t - min p.1 s) * (1000000 - D) + (t - min p.1 t - (s - min p.1 s)) * (1000000 - D) := by rw [← Int.add_mul]; congr 1; omega
    have b2 : (t - s) * (1000000 + D) = (min p.1 t - min p.1 s) * (1000000 + D) + (t - min p.1 t - (s - min p.1 s)) * (1000000 + D) := by rw [← Int.add_mul]; congr 1; omega
    have c : (min p.1 t - min p.1 s) * (1000000 + p.2) = min p.1 t * (1000000 + p.2) - min p.1 s * (1000000 + p.2) := Int.sub_mul _ _ _
    constructor <;> omega

theorem contains (ps : List (Int × Int)) (L lo hi D base s t x : Int) (hr : CkR L lo hi D) (hok : ps.all (okPace D) = true) (h0 : 0 ≤ s) (hst : s ≤ t) (ht : t ≤ 1099511627776)
    (hL : L = base + shG ps s / 1000000) (hx : x = base + shG ps t / 1000000) (h1 : lo ≤ s) (h2 : s ≤ hi) : L ≤ x ∧ rdLo L lo D x ≤ t ∧ t ≤ rdHi L hi D x := by
  obtain ⟨r1, r2, r3, r4, r5, r6, r7⟩ := hr
  obtain ⟨d1, d2⟩ := shG_diff D r6 r7 ps s t hok h0 hst
  have dn : 0 ≤ (t - s) * (1000000 - D) := Int.mul_nonneg (by omega) (by omega)
  have hLx : L ≤ x := by omega
  have n1 : (x - L - 1) * 1000000 ≤ (t - s) * (1000000 + D) := by omega
  have n2 : (t - s) * (1000000 - D) ≤ (x - L + 1) * 1000000 := by omega
  refine ⟨hLx, ?_, ?_⟩
  · have : rdLeast (x - L) (1000000 + D) ≤ t - s := by
      unfold rdLeast
      by_cases e : x - L = 0
      · rw [if_pos e]; omega
      · rw [if_neg e]
        have hlt : ((x - L - 1) * 1000000 + (1000000 + D) - 1) / (1000000 + D) < (t - s) + 1 :=
          Int.ediv_lt_of_lt_mul (by omega) (by rw [Int.add_mul (t - s) 1 (1000000 + D), Int.one_mul]; omega)
        omega
    unfold rdLo; omega
  · have : t - s ≤ rdGreat (x - L) (1000000 - D) := Int.le_ediv_of_mul_le (by omega) n2
    unfold rdHi; omega

theorem hon_ok {ps : List (Int × Int)} {D : Int} (h : honB ps D = true) (hD : 0 ≤ D) (hD1 : D ≤ 100000) : ps.all (okPace D) = true ∧ rightB ps 100000 = true := by
  simp only [honB, Bool.and_eq_true, Bool.or_eq_true, decide_eq_true_eq] at h
  refine ⟨?_, h.1⟩
  rcases h.2 with (h2 | h2) | h2
  · obtain rfl : D = 100000 := by omega
    have := h.1
    simp only [rightB, Bool.and_eq_true] at this
    exact this.1
  · cases ps with
    | nil => rfl
    | cons _ _ => simp at h2
  · have := h2.2
    simp only [rightB, Bool.and_eq_true] at this
    exact this.1
end Go.Proofs.Ytkcclpomhniafaa
