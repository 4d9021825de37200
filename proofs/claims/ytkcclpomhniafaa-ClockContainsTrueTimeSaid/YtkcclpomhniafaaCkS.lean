/- What the functions of the clock compute, in plain numbers. -/
import Derived.Lib.Hide
set_option linter.unusedVariables false
set_option linter.unusedSimpArgs false
namespace Go.Proofs.Ytkcclpomhniafaa

def vld (lo hi : Int) : Bool := decide (0 ≤ lo) && decide (lo ≤ hi) && decide (hi ≤ 1099511627776)
def inst (t : Int) : Bool := decide (0 ≤ t) && decide (t ≤ 1099511627776)
def meetIs (a b c d : Int) : Bool := decide (max a c ≤ min b d)
def meetLo (a b c d : Int) : Int := if max a c ≤ min b d then max a c else 0
def meetHi (a b c d : Int) : Int := if max a c ≤ min b d then min b d else 0
def clip (t : Int) : Int := max 0 (min t 1099511627776)

theorem vld_iff {lo hi : Int} : vld lo hi = true ↔ 0 ≤ lo ∧ lo ≤ hi ∧ hi ≤ 1099511627776 := by simp [vld, and_assoc]
theorem vld_false {lo hi : Int} : vld lo hi = false ↔ ¬ (0 ≤ lo ∧ lo ≤ hi ∧ hi ≤ 1099511627776) := by rw [← vld_iff]; simp
theorem inst_iff {t : Int} : inst t = true ↔ 0 ≤ t ∧ t ≤ 1099511627776 := by simp [inst]

/-- The least and the greatest number of milliseconds for n steps of the reading. -/
def rdLeast (n f : Int) : Int := if n = 0 then 0 else ((n - 1) * 1000000 + f - 1) / f
def rdGreat (n s : Int) : Int := (n + 1) * 1000000 / s
def rdLo (L lo D t : Int) : Int := min (lo + rdLeast (t - L) (1000000 + D)) 1099511627776
def rdHi (L hi D t : Int) : Int := min (hi + rdGreat (t - L) (1000000 - D)) 1099511627776

theorem least_nonneg {n f : Int} (hn : 0 ≤ n) (hf : 1000000 ≤ f) : 0 ≤ rdLeast n f := by
  unfold rdLeast
  by_cases h : n = 0
  · simp [h]
  · rw [if_neg h]; exact Int.ediv_nonneg (by omega) (by omega)
theorem least_le {n f : Int} (hn : 0 ≤ n) (hf : 1000000 ≤ f) : rdLeast n f ≤ n := by
  unfold rdLeast
  by_cases h : n = 0
  · simp [h]
  · rw [if_neg h]
    have h1 : (n - 1) * 1000000 ≤ (n - 1) * f := Int.mul_le_mul_of_nonneg_left hf (by omega)
    have h2 : (n - 1) * f = n * f - f := by rw [Int.sub_mul, Int.one_mul]
    have h3 : ((n - 1) * 1000000 + f - 1) / f < n := Int.ediv_lt_of_lt_mul (by omega) (by omega)
    omega
theorem great_nonneg {n s : Int} (hn : 0 ≤ n) (hs : 900000 ≤ s) : 0 ≤ rdGreat n s := Int.ediv_nonneg (by omega) (by omega)
theorem great_le {n s : Int} (hn : 0 ≤ n) (hs : 900000 ≤ s) : rdGreat n s ≤ 2 * (n + 1) := by
  unfold rdGreat
  have h1 : (2 * (n + 1)) * 900000 ≤ (2 * (n + 1)) * s := Int.mul_le_mul_of_nonneg_left hs (by omega)
  have h2 : (2 * (n + 1) + 1) * s = 2 * (n + 1) * s + s := by rw [Int.add_mul (2 * (n + 1)) 1 s, Int.one_mul]
  have h3 : (n + 1) * 1000000 / s < 2 * (n + 1) + 1 := Int.ediv_lt_of_lt_mul (by omega) (by omega)
  omega
/-- The least integer that is not less than a quotient, by another road. -/
theorem ceil_two {m f : Int} (hf : 0 < f) : (m + f - 1) / f = if m / f * f < m then m / f + 1 else m / f := by
  have h1 := Int.emod_add_ediv_mul m f
  have h2 := Int.emod_nonneg m (show f ≠ 0 by omega)
  have h3 := Int.emod_lt_of_pos m hf
  have e : m + f - 1 = (m % f + f - 1) + f * (m / f) := by rw [Int.mul_comm f]; omega
  rw [e, Int.add_mul_ediv_left _ _ (by omega)]
  by_cases h : m % f = 0
  · have : (m % f + f - 1) / f = 0 := Int.ediv_eq_zero_of_lt (by omega) (by omega)
    rw [if_neg (by omega), this]; omega
  · have : (m % f + f - 1) / f = 1 := by
      rw [show m % f + f - 1 = (m % f - 1) + f * 1 by omega, Int.add_mul_ediv_left _ _ (by omega), Int.ediv_eq_zero_of_lt (by omega) (by omega)]; rfl
    rw [if_pos (by omega), this]; omega

/-- A clock that is right. -/
structure CkR (L lo hi D : Int) : Prop where
  l0 : 0 ≤ L
  l1 : L ≤ 2199023255552
  a : 0 ≤ lo
  b : lo ≤ hi
  c : hi ≤ 1099511627776
  d0 : 0 ≤ D
  d1 : D ≤ 100000
theorem not_right {L lo hi D : Int} (h : ¬ CkR L lo hi D) : L < 0 ∨ 2199023255552 < L ∨ vld lo hi = false ∨ D < 0 ∨ 100000 < D := by
  rw [vld_false]
  by_cases h1 : L < 0
  · exact .inl h1
  by_cases h2 : 2199023255552 < L
  · exact .inr (.inl h2)
  by_cases h4 : D < 0
  · exact .inr (.inr (.inr (.inl h4)))
  by_cases h5 : 100000 < D
  · exact .inr (.inr (.inr (.inr h5)))
  · exact .inr (.inr (.inl fun ⟨a, b, c⟩ => h ⟨by omega, by omega, a, b, c, by omega, by omega⟩))
end Go.Proofs.Ytkcclpomhniafaa
