/- The law ClockOnlyGoesOn, walked. -/
import Derived.Test.YtkcclpomhniafaaRows
import Derived.Test.YtkcclpomhniafaaExt
import Derived.WalkKit
import Derived.WalkSpells
import Derived.WalkLawsBesides
import Derived.Deep.QuietTactic
import Derived.BigQuiet
import Derived.Test.YtkcclpomhniafaaCkJ
set_option linter.unusedVariables false
set_option linter.unusedSimpArgs false
namespace Go.Proofs.Ytkcclpomhniafaa
open Go.RowKit

theorem least_mono {a b f : Int} (ha : 0 ≤ a) (hf : 1000000 ≤ f) (h : a ≤ b) : rdLeast a f ≤ rdLeast b f := by
  have h0 := least_nonneg (n := b) (f := f) (by omega) hf
  unfold rdLeast at *
  by_cases ea : a = 0
  · rw [if_pos ea]; exact h0
  · rw [if_neg ea, if_neg (by omega)]
    exact Int.ediv_le_ediv (by omega) (by omega)
theorem great_ge {n s : Int} (hn : 0 ≤ n) (hs : 900000 ≤ s) (hs1 : s ≤ 1000000) : n + 1 ≤ rdGreat n s := by
  unfold rdGreat
  have h : (n + 1) * s ≤ (n + 1) * 1000000 := Int.mul_le_mul_of_nonneg_left hs1 (by omega)
  exact Int.le_ediv_of_mul_le (by omega) h
theorem rdLo_mono {L lo D x y : Int} (hD : 0 ≤ D) (hx : L ≤ x) (h : x ≤ y) : rdLo L lo D x ≤ rdLo L lo D y := by
  have := least_mono (a := x - L) (b := y - L) (f := 1000000 + D) (by omega) (by omega) (by omega)
  unfold rdLo; omega
theorem rd_in {L lo hi D x : Int} (hr : CkR L lo hi D) (hx : L ≤ x) : 0 ≤ rdLo L lo D x ∧ rdLo L lo D x ≤ rdHi L hi D x ∧ rdHi L hi D x ≤ 1099511627776 := by
  obtain ⟨h1, h2, h3, h4, h5, h6, h7⟩ := hr
  have g1 := least_nonneg (n := x - L) (f := 1000000 + D) (by omega) (by omega)
  have g2 := least_le (n := x - L) (f := 1000000 + D) (by omega) (by omega)
  have g3 := great_ge (n := x - L) (s := 1000000 - D) (by omega) (by omega) (by omega)
  unfold rdLo rdHi; omega
theorem rd_here {L lo hi D : Int} (hr : CkR L lo hi D) : rdLo L lo D L = lo ∧ rdHi L hi D L ≤ hi + 1 ∧ hi ≤ rdHi L hi D L := by
  obtain ⟨h1, h2, h3, h4, h5, h6, h7⟩ := hr
  have e : rdGreat (L - L) (1000000 - D) = 1 := by
    unfold rdGreat; rw [Int.sub_self, Int.zero_add, Int.one_mul]
    have a1 : 1000000 / (1000000 - D) < 2 := Int.ediv_lt_of_lt_mul (by omega) (by omega)
    have a2 : 1 ≤ 1000000 / (1000000 - D) := Int.le_ediv_of_mul_le (by omega) (by omega)
    omega
  unfold rdLo rdHi
  rw [e]
  have : rdLeast (L - L) (1000000 + D) = 0 := by unfold rdLeast; rw [if_pos (by omega)]
  rw [this]
  omega

def RdIs (w : World) (e : Ending) (w' : World) : Prop := (∃ p q r : Int, e = .returned (.tuple #[.agg #[.int .i64 p, .int .i64 q], .int .i64 r])) ∧ Ext w w'
theorem read_some (L lo hi D t : Int) (w : World) (hr : CkR L lo hi D) :
    Calls Try.prog 14 #[.agg #[.int .i64 L, .int .i64 lo, .int .i64 hi, .int .i64 D], .int .i64 t] w (RdIs w) := by
  by_cases h1 : t < 0 ∨ 2199023255552 < t
  · exact (read_arg L lo hi D t w h1).mono fun e w' ⟨he, hx⟩ => ⟨⟨_, _, _, he⟩, hx⟩
  · by_cases h2 : t < L
    · exact (read_time L lo hi D t w hr.l1 (by omega) (by omega) h2).mono fun e w' ⟨he, hx⟩ => ⟨⟨_, _, _, he⟩, hx⟩
    · exact (read_ok L lo hi D t w hr.l0 hr.a hr.b hr.c hr.d0 hr.d1 (by omega) (by omega)).mono fun e w' ⟨he, hx⟩ => ⟨⟨_, _, _, he⟩, hx⟩
theorem read_err (L lo hi D t : Int) (w : World) (hr : CkR L lo hi D) (h : t < L ∨ 2199023255552 < t) :
    ∃ r : Int, r ≠ 0 ∧ Calls Try.prog 14 #[.agg #[.int .i64 L, .int .i64 lo, .int .i64 hi, .int .i64 D], .int .i64 t] w fun e w' => e = .returned (.tuple #[.agg #[.int .i64 0, .int .i64 0], .int .i64 r]) ∧ Ext w w' := by
  have h0 := hr.l0
  by_cases h1 : t < 0 ∨ 2199023255552 < t
  · exact ⟨1, by omega, read_arg L lo hi D t w h1⟩
  · exact ⟨9, by omega, read_time L lo hi D t w hr.l1 (by omega) (by omega) (by omega)⟩
def errOf (L t : Int) : Int := if t < 0 ∨ 2199023255552 < t then 1 else 9
theorem read_bad (L lo hi D t : Int) (w : World) (hr : CkR L lo hi D) (h : t < L ∨ 2199023255552 < t) :
    Calls Try.prog 14 #[.agg #[.int .i64 L, .int .i64 lo, .int .i64 hi, .int .i64 D], .int .i64 t] w fun e w' => e = .returned (.tuple #[.agg #[.int .i64 0, .int .i64 0], .int .i64 (errOf L t)]) ∧ Ext w w' := by
  have h0 := hr.l0
  unfold errOf
  by_cases h1 : t < 0 ∨ 2199023255552 < t
  · rw [if_pos h1]; exact read_arg L lo hi D t w h1
  · rw [if_neg h1]; exact read_time L lo hi D t w hr.l1 (by omega) (by omega) (by omega)
theorem errOf_ne (L t : Int) : 1 ≤ errOf L t := by unfold errOf; split <;> omega

set_option maxHeartbeats 1000000 in
theorem law4_bad (L lo hi D x y a b : Int) (w : World) (h : ¬ CkR L lo hi D ∨ y < x) :
    Calls Try.prog 6 #[.agg #[.int .i64 L, .int .i64 lo, .int .i64 hi, .int .i64 D], .int .i64 x, .int .i64 y, .agg #[.int .i64 a, .int .i64 b]] w fun e w' => e = .returned (.bool true) ∧ Ext w w' := by
  by_cases hr : CkR L lo hi D
  · have h1 : y < x := h.resolve_left (fun h => h hr)
    have HR := Lib.hid hr
    clear h hr
    go_enter Try.func6, Try.ntmps6
    go_wp2_with (first
      | (go_at_call 11; refine (rcheck_ok _ _ _ _ _ HR.out).mono ?_; rintro e w' ⟨rfl, hxl⟩; obtain ⟨xl, rfl⟩ := hxl.asLater; clear hxl)
      | (go_at_call 13; refine (sanity_any _).mono ?_; rintro e w' ⟨rfl, hxl⟩; obtain ⟨xl, rfl⟩ := hxl.asLater; clear hxl))
    go_ret
    exact ⟨rfl, (by (repeat (first | with_reducible exact Ext.refl _ | with_reducible refine Ext.drew ?_ | with_reducible refine Ext.drewN ?_ _ | with_reducible refine Ext.alloc ?_ _ | with_reducible refine Ext.onto ?_ _ | with_reducible refine Ext.setCell ?_ ?_ _)); all_goals (simp; try omega))⟩
  · have HR := Lib.hid hr
    clear h hr
    go_enter Try.func6, Try.ntmps6
    go_wp2_with (first
      | (go_at_call 11; refine (rcheck_bad _ _ _ _ _ HR.out).mono ?_; rintro e w' ⟨rfl, hxl⟩; obtain ⟨xl, rfl⟩ := hxl.asLater; clear hxl)
      | (go_at_call 13; refine (sanity_any _).mono ?_; rintro e w' ⟨rfl, hxl⟩; obtain ⟨xl, rfl⟩ := hxl.asLater; clear hxl))
    go_ret
    exact ⟨rfl, (by (repeat (first | with_reducible exact Ext.refl _ | with_reducible refine Ext.drew ?_ | with_reducible refine Ext.drewN ?_ _ | with_reducible refine Ext.alloc ?_ _ | with_reducible refine Ext.onto ?_ _ | with_reducible refine Ext.setCell ?_ ?_ _)); all_goals (simp; try omega))⟩

set_option maxHeartbeats 1000000 in
theorem law4_err1 (L lo hi D x y a b : Int) (w : World) (hr : CkR L lo hi D) (hxy : x ≤ y) (hx : x < L ∨ 2199023255552 < x) :
    Calls Try.prog 6 #[.agg #[.int .i64 L, .int .i64 lo, .int .i64 hi, .int .i64 D], .int .i64 x, .int .i64 y, .agg #[.int .i64 a, .int .i64 b]] w fun e w' => e = .returned (.bool true) ∧ Ext w w' := by
  have HR := Lib.hid hr
  have HX := Lib.hid hx
  have he := errOf_ne L x
  have he' : (errOf L x != 0) = true := by rw [bne_iff_ne]; omega
  clear hr hx
  go_enter Try.func6, Try.ntmps6
  go_wp2_with (go_at_call 11; refine (rcheck_ok _ _ _ _ _ HR.out).mono ?_; rintro e w' ⟨rfl, hxl⟩; obtain ⟨xl, rfl⟩ := hxl.asLater; clear hxl)
  refine (read_bad _ _ _ _ _ _ HR.out HX.out).mono ?_
  rintro e w' ⟨rfl, hxl⟩; obtain ⟨xl, rfl⟩ := hxl.asLater; clear hxl
  go_wp2_with fail
  refine (read_some _ _ _ _ _ _ HR.out).mono ?_
  rintro e w' ⟨⟨p, q, r, rfl⟩, hx⟩
  obtain ⟨x, rfl⟩ := hx.asLater
  clear hx
  go_wp2_with (go_at_call 13; refine (sanity_any _).mono ?_; rintro e w' ⟨rfl, hxl⟩; obtain ⟨xl, rfl⟩ := hxl.asLater; clear hxl)
  go_ret
  exact ⟨rfl, (by (repeat (first | with_reducible exact Ext.refl _ | with_reducible refine Ext.drew ?_ | with_reducible refine Ext.drewN ?_ _ | with_reducible refine Ext.alloc ?_ _ | with_reducible refine Ext.onto ?_ _ | with_reducible refine Ext.setCell ?_ ?_ _)); all_goals (simp; try omega))⟩

set_option maxHeartbeats 1000000 in
theorem law4_err2 (L lo hi D x y a b : Int) (w : World) (hr : CkR L lo hi D) (hxy : x ≤ y) (hx : L ≤ x) (hx1 : x ≤ 2199023255552) (hy : 2199023255552 < y) :
    Calls Try.prog 6 #[.agg #[.int .i64 L, .int .i64 lo, .int .i64 hi, .int .i64 D], .int .i64 x, .int .i64 y, .agg #[.int .i64 a, .int .i64 b]] w fun e w' => e = .returned (.bool true) ∧ Ext w w' := by
  have HR := Lib.hid hr
  clear hr
  go_enter Try.func6, Try.ntmps6
  go_wp2_with (go_at_call 11; refine (rcheck_ok _ _ _ _ _ HR.out).mono ?_; rintro e w' ⟨rfl, hxl⟩; obtain ⟨xl, rfl⟩ := hxl.asLater; clear hxl)
  refine (read_ok _ _ _ _ _ _ HR.out.l0 HR.out.a HR.out.b HR.out.c HR.out.d0 HR.out.d1 hx hx1).mono ?_
  rintro e w' ⟨rfl, hxl⟩; obtain ⟨xl, rfl⟩ := hxl.asLater; clear hxl
  go_wp2_with fail
  refine (read_arg _ _ _ _ _ _ (.inr hy)).mono ?_
  rintro e w' ⟨rfl, hxl⟩; obtain ⟨xl, rfl⟩ := hxl.asLater; clear hxl
  go_wp2_with (go_at_call 13; refine (sanity_any _).mono ?_; rintro e w' ⟨rfl, hxl⟩; obtain ⟨xl, rfl⟩ := hxl.asLater; clear hxl)
  go_ret
  exact ⟨rfl, (by (repeat (first | with_reducible exact Ext.refl _ | with_reducible refine Ext.drew ?_ | with_reducible refine Ext.drewN ?_ _ | with_reducible refine Ext.alloc ?_ _ | with_reducible refine Ext.onto ?_ _ | with_reducible refine Ext.setCell ?_ ?_ _)); all_goals (simp; try omega))⟩

set_option maxHeartbeats 1000000 in
theorem law4_nosync (L lo hi D x y a b : Int) (w : World) (hr : CkR L lo hi D) (hxy : x ≤ y) (hx : L ≤ x) (hy : y ≤ 2199023255552) (hs : vld a b = false ∨ (vld a b = true ∧ meetIs (rdLo L lo D y) (rdHi L hi D y) a b = false)) :
    Calls Try.prog 6 #[.agg #[.int .i64 L, .int .i64 lo, .int .i64 hi, .int .i64 D], .int .i64 x, .int .i64 y, .agg #[.int .i64 a, .int .i64 b]] w fun e w' => e = .returned (.bool true) ∧ Ext w w' := by
  have g1 := rdLo_mono (L := L) (lo := lo) (D := D) hr.d0 hx hxy
  have g2 := rdHi_mono (L := L) (hi := hi) (D := D) hr.d1 hxy
  have g3 := (rd_in hr hx).2.1
  have HR := Lib.hid hr
  clear hr
  rcases hs with hs | ⟨hs, hm⟩
  · have HS := Lib.hid hs
    clear hs
    go_enter Try.func6, Try.ntmps6
    go_wp2_with (first
      | (go_at_call 11; refine (rcheck_ok _ _ _ _ _ HR.out).mono ?_; rintro e w' ⟨rfl, hxl⟩; obtain ⟨xl, rfl⟩ := hxl.asLater; clear hxl)
      | (go_at_call 14; refine (read_ok _ _ _ _ _ _ HR.out.l0 HR.out.a HR.out.b HR.out.c HR.out.d0 HR.out.d1 (by omega) (by omega)).mono ?_; rintro e w' ⟨rfl, hxl⟩; obtain ⟨xl, rfl⟩ := hxl.asLater; clear hxl)
      | (go_at_call 16; refine (sync_arg _ _ _ _ _ _ _ _ HS.out).mono ?_; rintro e w' ⟨rfl, hxl⟩; obtain ⟨xl, rfl⟩ := hxl.asLater; clear hxl)
      | (go_at_call 13; refine (sanity_any _).mono ?_; rintro e w' ⟨rfl, hxl⟩; obtain ⟨xl, rfl⟩ := hxl.asLater; clear hxl))
    go_ret
    exact ⟨rfl, (by (repeat (first | with_reducible exact Ext.refl _ | with_reducible refine Ext.drew ?_ | with_reducible refine Ext.drewN ?_ _ | with_reducible refine Ext.alloc ?_ _ | with_reducible refine Ext.onto ?_ _ | with_reducible refine Ext.setCell ?_ ?_ _)); all_goals (simp; try omega))⟩
  · have HS := Lib.hid hs
    have HM := Lib.hid hm
    clear hs hm
    go_enter Try.func6, Try.ntmps6
    go_wp2_with (first
      | (go_at_call 11; refine (rcheck_ok _ _ _ _ _ HR.out).mono ?_; rintro e w' ⟨rfl, hxl⟩; obtain ⟨xl, rfl⟩ := hxl.asLater; clear hxl)
      | (go_at_call 14; refine (read_ok _ _ _ _ _ _ HR.out.l0 HR.out.a HR.out.b HR.out.c HR.out.d0 HR.out.d1 (by omega) (by omega)).mono ?_; rintro e w' ⟨rfl, hxl⟩; obtain ⟨xl, rfl⟩ := hxl.asLater; clear hxl)
      | (go_at_call 16; refine (sync_no _ _ _ _ _ _ _ _ HS.out HR.out (by omega) hy HM.out).mono ?_; rintro e w' ⟨rfl, hxl⟩; obtain ⟨xl, rfl⟩ := hxl.asLater; clear hxl)
      | (go_at_call 13; refine (sanity_any _).mono ?_; rintro e w' ⟨rfl, hxl⟩; obtain ⟨xl, rfl⟩ := hxl.asLater; clear hxl))
    go_ret
    exact ⟨rfl, (by (repeat (first | with_reducible exact Ext.refl _ | with_reducible refine Ext.drew ?_ | with_reducible refine Ext.drewN ?_ _ | with_reducible refine Ext.alloc ?_ _ | with_reducible refine Ext.onto ?_ _ | with_reducible refine Ext.setCell ?_ ?_ _)); all_goals (simp; try omega))⟩

set_option maxHeartbeats 1000000 in
theorem law4_sync (L lo hi D x y a b : Int) (w : World) (hr : CkR L lo hi D) (hxy : x ≤ y) (hx : L ≤ x) (hy : y ≤ 2199023255552) (hs : vld a b = true) (hm : meetIs (rdLo L lo D y) (rdHi L hi D y) a b = true) :
    Calls Try.prog 6 #[.agg #[.int .i64 L, .int .i64 lo, .int .i64 hi, .int .i64 D], .int .i64 x, .int .i64 y, .agg #[.int .i64 a, .int .i64 b]] w fun e w' => e = .returned (.bool true) ∧ Ext w w' := by
  have g1 := rdLo_mono (L := L) (lo := lo) (D := D) hr.d0 hx hxy
  have g2 := rdHi_mono (L := L) (hi := hi) (D := D) hr.d1 hxy
  have g3 := (rd_in hr hx).2.1
  obtain ⟨g4, g5, g6⟩ := rd_in hr (show L ≤ y by omega)
  have hl := hr.l0
  have hv := vld_iff.1 hs
  have hm' : max (rdLo L lo D y) a ≤ min (rdHi L hi D y) b := by simpa [meetIs] using hm
  have hlo : meetLo (rdLo L lo D y) (rdHi L hi D y) a b = max (rdLo L lo D y) a := by unfold meetLo; rw [if_pos hm']
  have hhi : meetHi (rdLo L lo D y) (rdHi L hi D y) a b = min (rdHi L hi D y) b := by unfold meetHi; rw [if_pos hm']
  have hr2 : CkR y (meetLo (rdLo L lo D y) (rdHi L hi D y) a b) (meetHi (rdLo L lo D y) (rdHi L hi D y) a b) D := by
    rw [hlo, hhi]; exact ⟨by omega, by omega, by omega, by omega, by omega, hr.d0, hr.d1⟩
  obtain ⟨k1, k2, k3⟩ := rd_here hr2
  obtain ⟨k4, k5, k6⟩ := rd_in hr2 (Int.le_refl y)
  have k7 : rdHi y (meetHi (rdLo L lo D y) (rdHi L hi D y) a b) D y - rdLo y (meetLo (rdLo L lo D y) (rdHi L hi D y) a b) D y ≤ rdHi L hi D y - rdLo L lo D y + 2 := by
    rw [k1]; omega
  have HR := Lib.hid hr
  have HR2 := Lib.hid hr2
  have HS := Lib.hid hs
  have HM := Lib.hid hm
  clear hr hs hm hm' hlo hhi hr2 k1 k2 k3 hv
  go_enter Try.func6, Try.ntmps6
  go_wp2_with (go_at_call 11; refine (rcheck_ok _ _ _ _ _ HR.out).mono ?_; rintro e w' ⟨rfl, hxl⟩; obtain ⟨xl, rfl⟩ := hxl.asLater; clear hxl)
  refine (read_ok L lo hi D x _ HR.out.l0 HR.out.a HR.out.b HR.out.c HR.out.d0 HR.out.d1 hx (by omega)).mono ?_
  rintro e w' ⟨rfl, hxl⟩; obtain ⟨xl, rfl⟩ := hxl.asLater; clear hxl
  go_wp2_with fail
  refine (read_ok L lo hi D y _ HR.out.l0 HR.out.a HR.out.b HR.out.c HR.out.d0 HR.out.d1 (by omega) hy).mono ?_
  rintro e w' ⟨rfl, hxl⟩; obtain ⟨xl, rfl⟩ := hxl.asLater; clear hxl
  go_wp2_with fail
  refine (sync_ok _ _ _ _ _ _ _ _ HS.out HR.out (by omega) hy HM.out).mono ?_
  rintro e w' ⟨rfl, hxl⟩; obtain ⟨xl, rfl⟩ := hxl.asLater; clear hxl
  go_wp2_with fail
  refine (read_ok _ _ _ _ _ _ HR2.out.l0 HR2.out.a HR2.out.b HR2.out.c HR2.out.d0 HR2.out.d1 (by omega) hy).mono ?_
  rintro e w' ⟨rfl, hxl⟩; obtain ⟨xl, rfl⟩ := hxl.asLater; clear hxl
  go_wp2_with (go_at_call 13; refine (sanity_any _).mono ?_; rintro e w' ⟨rfl, hxl⟩; obtain ⟨xl, rfl⟩ := hxl.asLater; clear hxl)
  go_ret
  exact ⟨rfl, (by (repeat (first | with_reducible exact Ext.refl _ | with_reducible refine Ext.drew ?_ | with_reducible refine Ext.drewN ?_ _ | with_reducible refine Ext.alloc ?_ _ | with_reducible refine Ext.onto ?_ _ | with_reducible refine Ext.setCell ?_ ?_ _)); all_goals (simp; try omega))⟩

theorem law4_any (L lo hi D x y a b : Int) (w : World) :
    Calls Try.prog 6 #[.agg #[.int .i64 L, .int .i64 lo, .int .i64 hi, .int .i64 D], .int .i64 x, .int .i64 y, .agg #[.int .i64 a, .int .i64 b]] w fun e w' => e = .returned (.bool true) ∧ Ext w w' := by
  by_cases hr : CkR L lo hi D
  · by_cases hxy : x ≤ y
    · by_cases h1 : x < L ∨ 2199023255552 < x
      · exact law4_err1 L lo hi D x y a b w hr hxy h1
      · by_cases h2 : 2199023255552 < y
        · exact law4_err2 L lo hi D x y a b w hr hxy (by omega) (by omega) h2
        · by_cases hs : vld a b = true
          · by_cases hm : meetIs (rdLo L lo D y) (rdHi L hi D y) a b = true
            · exact law4_sync L lo hi D x y a b w hr hxy (by omega) (by omega) hs hm
            · exact law4_nosync L lo hi D x y a b w hr hxy (by omega) (by omega) (.inr ⟨hs, by simpa using hm⟩)
          · exact law4_nosync L lo hi D x y a b w hr hxy (by omega) (by omega) (.inl (by simpa using hs))
    · exact law4_bad L lo hi D x y a b w (.inr (by omega))
  · exact law4_bad L lo hi D x y a b w (.inl hr)
end Go.Proofs.Ytkcclpomhniafaa
