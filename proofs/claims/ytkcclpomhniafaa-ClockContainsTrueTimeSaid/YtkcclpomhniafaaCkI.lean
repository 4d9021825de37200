/- Walks of the clock's specification: early, Until, Worth. -/
import Derived.Test.YtkcclpomhniafaaRows
import Derived.Test.YtkcclpomhniafaaExt
import Derived.WalkKit
import Derived.WalkSpells
import Derived.WalkLawsBesides
import Derived.Deep.QuietTactic
import Derived.BigQuiet
import Derived.Test.YtkcclpomhniafaaCkH
import Derived.LoopTactic
set_option linter.unusedVariables false
set_option linter.unusedSimpArgs false
namespace Go.Proofs.Ytkcclpomhniafaa
open Go.RowKit

theorem early_any (L lo hi D t x : Int) (w : World) (hr : CkR L lo hi D) (hx : L ≤ x) (hx1 : x ≤ 2199023255552) :
    Calls Try.prog 43 #[.agg #[.int .i64 L, .int .i64 lo, .int .i64 hi, .int .i64 D], .int .i64 x, .int .i64 t] w fun e w' => e = .returned (.bool (decide (rdHi L hi D x < t))) ∧ Ext w w' := by
  go_enter Try.func43, Try.ntmps43
  go_wp2_with (first | (go_at_call 15; refine (rread_ok _ _ _ _ _ _ hr.l0 hr.a hr.b hr.c hr.d0 hr.d1 hx hx1).mono ?_; rintro e w' ⟨rfl, hxl⟩; obtain ⟨xl, rfl⟩ := hxl.asLater; clear hxl) | (go_at_call 38; refine (rbefore_any _ _ _ _).mono ?_; rintro e w' ⟨rfl, hxl⟩; obtain ⟨xl, rfl⟩ := hxl.asLater; clear hxl))
  go_ret
  exact ⟨rfl, (by (repeat (first | with_reducible exact Ext.refl _ | with_reducible refine Ext.drew ?_ | with_reducible refine Ext.drewN ?_ _ | with_reducible refine Ext.alloc ?_ _ | with_reducible refine Ext.onto ?_ _ | with_reducible refine Ext.setCell ?_ ?_ _)); all_goals (simp; try omega))⟩

set_option maxHeartbeats 400000 in
theorem runtil_any (L lo hi D t : Int) (w : World) (hr : CkR L lo hi D) :
    Calls Try.prog 20 #[.agg #[.int .i64 L, .int .i64 lo, .int .i64 hi, .int .i64 D], .int .i64 t] w (UntilIs L hi D t w) := by
  have h0 := hr.l0
  have h1 := hr.l1
  go_enter Try.func20, Try.ntmps20
  go_wp2
  have g0 : (w.alloc (.cells #[.int .i64 L, .int .i64 lo, .int .i64 hi, .int .i64 D] 25)).cell? ⟨w.heap.size, 0, none⟩ = some (.int .i64 L) := by simp [go_sem]
  have g1 : (w.alloc (.cells #[.int .i64 L, .int .i64 lo, .int .i64 hi, .int .i64 D] 25)).cell? ⟨w.heap.size, 1, none⟩ = some (.int .i64 lo) := by simp [go_sem]
  have g2 : (w.alloc (.cells #[.int .i64 L, .int .i64 lo, .int .i64 hi, .int .i64 D] 25)).cell? ⟨w.heap.size, 2, none⟩ = some (.int .i64 hi) := by simp [go_sem]
  have g3 : (w.alloc (.cells #[.int .i64 L, .int .i64 lo, .int .i64 hi, .int .i64 D] 25)).cell? ⟨w.heap.size, 3, none⟩ = some (.int .i64 D) := by simp [go_sem]
  have gs : w.heap.size < (w.alloc (.cells #[.int .i64 L, .int .i64 lo, .int .i64 hi, .int .i64 D] 25)).heap.size := by simp
  have gx : Ext w (w.alloc (.cells #[.int .i64 L, .int .i64 lo, .int .i64 hi, .int .i64 D] 25)) := (Ext.refl _).alloc _
  generalize (w.alloc (.cells #[.int .i64 L, .int .i64 lo, .int .i64 hi, .int .i64 D] 25)) = W0 at g0 g1 g2 g3 gs gx ⊢
  have G0 := Lib.hid g0
  have G1 := Lib.hid g1
  have G2 := Lib.hid g2
  have G3 := Lib.hid g3
  have GX := Lib.hid gx
  clear g0 g1 g2 g3 gx
  go_loopw [5, 6] (fun i j wr => ∃ a b : Int, i = .int .i64 a ∧ j = .int .i64 b ∧ L - 1 ≤ a ∧ a < b ∧ b ≤ 2199023255553 ∧ (L ≤ a → rdHi L hi D a < t) ∧ (b ≤ 2199023255552 → t ≤ rdHi L hi D b) ∧ Ext W0 wr) (fun i j _ => (intOf j - intOf i).toNat)
  case atStart => exact ⟨L - 1, 2199023255553, rfl, rfl, by omega, by omega, by omega, by omega, by omega, Ext.refl _⟩
  case round =>
    obtain ⟨a, b, rfl, rfl, ha, hab, hbN, hl, hrr, hx⟩ := hrel
    have HL := Lib.hid hl
    have HR := Lib.hid hrr
    have HX := Lib.hid hx
    have g0 := (HX.out.cell (p := ⟨w.heap.size, 0, none⟩) gs).trans G0.out
    have g1 := (HX.out.cell (p := ⟨w.heap.size, 1, none⟩) gs).trans G1.out
    have g2 := (HX.out.cell (p := ⟨w.heap.size, 2, none⟩) gs).trans G2.out
    have g3 := (HX.out.cell (p := ⟨w.heap.size, 3, none⟩) gs).trans G3.out
    clear hl hrr hx
    by_cases hlt : 1 < b - a
    · have hs0 : 0 ≤ a + b := by omega
      by_cases hc : rdHi L hi D ((a + b) / 2) < t
      · have HC := Lib.hid (decide_eq_true hc)
        have HC2 := Lib.hid hc
        clear hc
        go_wp2_with fail
        refine (early_any L lo hi D t _ _ hr (by omega) (by omega)).mono ?_
        rintro e w1 ⟨rfl, hx1⟩
        rw [HC.out]
        have HX1 := Lib.hid hx1
        clear hx1
        go_wp2
        go_roundw
        case rel => exact ⟨(a + b) / 2, b, rfl, rfl, by omega, by omega, by omega, fun _ => HC2.out, HR.out, HX.out.trans HX1.out⟩
        case measure => simp [intOf]; omega
      · have HC := Lib.hid (decide_eq_false hc)
        have HC2 := Lib.hid hc
        clear hc
        go_wp2_with fail
        refine (early_any L lo hi D t _ _ hr (by omega) (by omega)).mono ?_
        rintro e w1 ⟨rfl, hx1⟩
        rw [HC.out]
        have HX1 := Lib.hid hx1
        clear hx1
        go_wp2
        go_roundw
        case rel => exact ⟨a, (a + b) / 2, rfl, rfl, by omega, by omega, by omega, HL.out, fun _ => by have := HC2.out; omega, HX.out.trans HX1.out⟩
        case measure => simp [intOf]; omega
    · have hb' : b = a + 1 := by omega
      subst hb'
      by_cases hz : a < L
      · go_wp2
        go_ret
        refine ⟨⟨-1, rfl, .inl ⟨rfl, ?_⟩⟩, GX.out.trans HX.out⟩
        have e : a + 1 = L := by omega
        have := HR.out (by omega)
        rwa [e] at this
      · go_wp2
        go_ret
        exact ⟨⟨a, rfl, .inr ⟨by omega, by omega, HL.out (by omega), fun _ => HR.out (by omega)⟩⟩, GX.out.trans HX.out⟩

theorem rworth_any (L lo hi D t x : Int) (w : World) (hr : CkR L lo hi D) :
    Calls Try.prog 22 #[.agg #[.int .i64 L, .int .i64 lo, .int .i64 hi, .int .i64 D], .int .i64 x, .int .i64 t] w (WorthIs L hi D t x w) := by
  obtain ⟨u, hu⟩ := isU_ex t hr
  have H := Lib.hid hu
  have h0 := hr.l0
  have h1 := hr.l1
  by_cases hx : x < L
  · clear hu
    go_enter Try.func22, Try.ntmps22
    go_wp2_with fail
    go_ret
    exact ⟨⟨u, by rw [wth, if_pos (.inl hx)]; rfl, H.out⟩, (by (repeat (first | with_reducible exact Ext.refl _ | with_reducible refine Ext.drew ?_ | with_reducible refine Ext.drewN ?_ _ | with_reducible refine Ext.alloc ?_ _ | with_reducible refine Ext.onto ?_ _ | with_reducible refine Ext.setCell ?_ ?_ _)); all_goals (simp; try omega))⟩
  by_cases hx2 : 2199023255552 < x
  · clear hu
    go_enter Try.func22, Try.ntmps22
    go_wp2_with fail
    go_ret
    exact ⟨⟨u, by rw [wth, if_pos (.inr hx2)]; rfl, H.out⟩, (by (repeat (first | with_reducible exact Ext.refl _ | with_reducible refine Ext.drew ?_ | with_reducible refine Ext.drewN ?_ _ | with_reducible refine Ext.alloc ?_ _ | with_reducible refine Ext.onto ?_ _ | with_reducible refine Ext.setCell ?_ ?_ _)); all_goals (simp; try omega))⟩
  · have hub : -1 ≤ u ∧ u ≤ 2199023255552 := by rcases hu with ⟨rfl, _⟩ | ⟨a, b, _, _⟩ <;> omega
    obtain ⟨hu1, hu2⟩ := hub
    clear hu
    have hfin : wth u x L = if u + 1 - x < 0 then 0 else u + 1 - x := by unfold wth; rw [if_neg (by omega)]; omega
    have HF := Lib.hid hfin
    clear hfin
    go_enter Try.func22, Try.ntmps22
    go_wp2_with fail
    refine (runtil_any L lo hi D t _ hr).mono ?_
    rintro e w' ⟨⟨u', rfl, hu'⟩, hx⟩
    obtain ⟨y, rfl⟩ := hx.asLater
    obtain rfl : u' = u := IsU.unique hr.l0 hr.l1 hr.d1 hu' H.out
    clear hx hu'
    go_wp2
    all_goals
      go_ret
      refine ⟨⟨u', ?_, H.out⟩, (by (repeat (first | with_reducible exact Ext.refl _ | with_reducible refine Ext.drew ?_ | with_reducible refine Ext.drewN ?_ _ | with_reducible refine Ext.alloc ?_ _ | with_reducible refine Ext.onto ?_ _ | with_reducible refine Ext.setCell ?_ ?_ _)); all_goals (simp; try omega))⟩
      rw [HF.out]
      refine ret_int ?_
      split <;> omega
end Go.Proofs.Ytkcclpomhniafaa
