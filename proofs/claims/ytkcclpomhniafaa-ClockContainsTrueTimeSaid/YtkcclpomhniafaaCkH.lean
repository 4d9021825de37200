/- Walks of the clock: Until, Worth, of the program and of the specification. -/
import Derived.Test.YtkcclpomhniafaaRows
import Derived.Test.YtkcclpomhniafaaExt
import Derived.WalkKit
import Derived.WalkSpells
import Derived.WalkLawsBesides
import Derived.Deep.QuietTactic
import Derived.BigQuiet
import Derived.Test.YtkcclpomhniafaaCkB
import Derived.LoopTactic
set_option linter.unusedVariables false
set_option linter.unusedSimpArgs false
namespace Go.Proofs.Ytkcclpomhniafaa
open Go.RowKit

theorem great_mono {a b s : Int} (hs : 0 < s) (h : a ≤ b) : rdGreat a s ≤ rdGreat b s := Int.ediv_le_ediv hs (by omega)
theorem rdHi_mono {L hi D x y : Int} (hD : D ≤ 100000) (h : x ≤ y) : rdHi L hi D x ≤ rdHi L hi D y := by
  have := great_mono (a := x - L) (b := y - L) (s := 1000000 - D) (by omega) (by omega)
  unfold rdHi; omega

/-- What Until names. -/
def IsU (L hi D t u : Int) : Prop :=
  (u = -1 ∧ t ≤ rdHi L hi D L) ∨ (L ≤ u ∧ u ≤ 2199023255552 ∧ rdHi L hi D u < t ∧ (u < 2199023255552 → t ≤ rdHi L hi D (u + 1)))
theorem IsU.unique {L hi D t u v : Int} (hL : 0 ≤ L) (hL1 : L ≤ 2199023255552) (hD : D ≤ 100000) (h : IsU L hi D t u) (k : IsU L hi D t v) : u = v := by
  rcases h with ⟨rfl, h1⟩ | ⟨h1, h2, h3, h4⟩ <;> rcases k with ⟨rfl, k1⟩ | ⟨k1, k2, k3, k4⟩
  · rfl
  · have := rdHi_mono (L := L) (hi := hi) hD k1; omega
  · have := rdHi_mono (L := L) (hi := hi) hD h1; omega
  · rcases Int.lt_trichotomy u v with h | h | h
    · have := rdHi_mono (L := L) (hi := hi) hD (show u + 1 ≤ v by omega); have := h4 (by omega); omega
    · exact h
    · have := rdHi_mono (L := L) (hi := hi) hD (show v + 1 ≤ u by omega); have := k4 (by omega); omega

theorem until1_any (L lo hi D t n : Int) (bc bt : Nat) (w : World) (hr : CkR L lo hi D) (hn : 0 ≤ n) (hn1 : L + n ≤ 2199023255552)
    (c0 : w.cell? ⟨bc, 0, none⟩ = some (.int .i64 L)) (c1 : w.cell? ⟨bc, 1, none⟩ = some (.int .i64 lo)) (c2 : w.cell? ⟨bc, 2, none⟩ = some (.int .i64 hi)) (c3 : w.cell? ⟨bc, 3, none⟩ = some (.int .i64 D))
    (ct : w.cell? ⟨bt, 0, none⟩ = some (.int .i64 t)) (hb : bt < w.heap.size) :
    Calls Try.prog 41 #[.int .i64 n, .pointer (some ⟨bc, 0, none⟩), .pointer (some ⟨bt, 0, none⟩)] w fun e w' => e = .returned (.bool (decide (t ≤ rdHi L hi D (L + n)))) ∧ Ext w w' := by
  have h0 := hr.l0
  go_enter Try.func41, Try.ntmps41
  go_wp2_with (first | (go_at_call 14; refine (read_ok _ _ _ _ _ _ hr.l0 hr.a hr.b hr.c hr.d0 hr.d1 (by omega) hn1).mono ?_; rintro e w' ⟨rfl, hxl⟩; obtain ⟨xl, rfl⟩ := hxl.asLater; clear hxl) | (go_at_call 23; refine (before_any _ _ _ _).mono ?_; rintro e w' ⟨rfl, hxl⟩; obtain ⟨xl, rfl⟩ := hxl.asLater; clear hxl))
  go_ret
  exact ⟨ret_bool (by rw [Bool.eq_iff_iff]; simp), (by (repeat (first | with_reducible exact Ext.refl _ | with_reducible refine Ext.drew ?_ | with_reducible refine Ext.drewN ?_ _ | with_reducible refine Ext.alloc ?_ _ | with_reducible refine Ext.onto ?_ _ | with_reducible refine Ext.setCell ?_ ?_ _)); all_goals (simp; try omega))⟩

set_option maxHeartbeats 400000 in
theorem search_any (L lo hi D t N : Int) (bc bt : Nat) (w : World) (hr : CkR L lo hi D) (hN : 0 ≤ N) (hN1 : L + N ≤ 2199023255553)
    (c0 : w.cell? ⟨bc, 0, none⟩ = some (.int .i64 L)) (c1 : w.cell? ⟨bc, 1, none⟩ = some (.int .i64 lo)) (c2 : w.cell? ⟨bc, 2, none⟩ = some (.int .i64 hi)) (c3 : w.cell? ⟨bc, 3, none⟩ = some (.int .i64 D))
    (ct : w.cell? ⟨bt, 0, none⟩ = some (.int .i64 t)) (hb : bt < w.heap.size) (hbc : bc < w.heap.size) :
    Calls Try.prog 42 #[.int .i64 N, .func (.func 41) #[] #[.pointer (some ⟨bc, 0, none⟩), .pointer (some ⟨bt, 0, none⟩)]] w fun e w' => (∃ r : Int, e = .returned (.int .i64 r) ∧ 0 ≤ r ∧ r ≤ N ∧ (0 < r → rdHi L hi D (L + r - 1) < t) ∧ (r < N → t ≤ rdHi L hi D (L + r))) ∧ Ext w w' := by
  have h0 := hr.l0
  go_enter Try.func42, Try.ntmps42
  go_wp2
  go_loopw [5, 6] (fun i j wr => ∃ a b : Int, i = .int .i64 a ∧ j = .int .i64 b ∧ 0 ≤ a ∧ a ≤ b ∧ b ≤ N ∧ (0 < a → rdHi L hi D (L + a - 1) < t) ∧ (b < N → t ≤ rdHi L hi D (L + b)) ∧ Ext w wr) (fun i j _ => (intOf j - intOf i).toNat)
  case atStart => exact ⟨0, N, rfl, rfl, by omega, by omega, by omega, by omega, by omega, Ext.refl _⟩
  case round =>
    obtain ⟨a, b, rfl, rfl, ha, hab, hbN, hl, hrr, hx⟩ := hrel
    have HL := Lib.hid hl
    have HR := Lib.hid hrr
    have HX := Lib.hid hx
    clear hl hrr hx
    by_cases hlt : a < b
    · have HM : Hid (0 ≤ (a + b) / 2 ∧ a ≤ (a + b) / 2 ∧ (a + b) / 2 < b) := Lib.hid (by omega)
      have HU := Lib.hid (until1_any L lo hi D t ((a + b) / 2) bc bt wr hr (by omega) (by omega)
        ((HX.out.cell (p := ⟨bc, 0, none⟩) hbc).trans c0) ((HX.out.cell (p := ⟨bc, 1, none⟩) hbc).trans c1) ((HX.out.cell (p := ⟨bc, 2, none⟩) hbc).trans c2) ((HX.out.cell (p := ⟨bc, 3, none⟩) hbc).trans c3) ((HX.out.cell (p := ⟨bt, 0, none⟩) hb).trans ct) (by have := HX.out.size; omega))
      by_cases hc : t ≤ rdHi L hi D (L + (a + b) / 2)
      · have HC := Lib.hid (decide_eq_true hc)
        have HC2 := Lib.hid hc
        clear hc
        go_wp2_with fail
        refine HU.out.mono ?_
        rintro e w1 ⟨rfl, hx1⟩
        rw [HC.out]
        have HX1 := Lib.hid hx1
        clear hx1
        go_wp2
        go_roundw
        case rel => exact ⟨a, (a + b) / 2, rfl, rfl, by omega, by omega, by omega, HL.out, fun _ => HC2.out, HX.out.trans HX1.out⟩
        case measure => simp [intOf]; omega
      · have HC := Lib.hid (decide_eq_false hc)
        have HC2 := Lib.hid hc
        clear hc
        go_wp2_with fail
        refine HU.out.mono ?_
        rintro e w1 ⟨rfl, hx1⟩
        rw [HC.out]
        have HX1 := Lib.hid hx1
        clear hx1
        go_wp2
        go_roundw
        case rel => exact ⟨(a + b) / 2 + 1, b, rfl, rfl, by omega, by omega, by omega, fun _ => by rw [show L + ((a + b) / 2 + 1) - 1 = L + (a + b) / 2 by omega]; have := HC2.out; omega, HR.out, HX.out.trans HX1.out⟩
        case measure => simp [intOf]; omega
    · have hab' : a = b := by omega
      subst hab'
      go_wp2
      go_ret
      exact ⟨⟨a, rfl, ha, hbN, HL.out, HR.out⟩, HX.out⟩

/-- What the search hands back. -/
def Found (L hi D t N : Int) (w : World) (e : Ending) (w' : World) : Prop :=
  (∃ r : Int, e = .returned (.int .i64 r) ∧ 0 ≤ r ∧ r ≤ N ∧ (0 < r → rdHi L hi D (L + r - 1) < t) ∧ (r < N → t ≤ rdHi L hi D (L + r))) ∧ Ext w w'
def UntilIs (L hi D t : Int) (w : World) (e : Ending) (w' : World) : Prop := (∃ u : Int, e = .returned (.int .i64 u) ∧ IsU L hi D t u) ∧ Ext w w'

theorem until_any (L lo hi D t : Int) (w : World) (hr : CkR L lo hi D) :
    Calls Try.prog 19 #[.agg #[.int .i64 L, .int .i64 lo, .int .i64 hi, .int .i64 D], .int .i64 t] w (UntilIs L hi D t w) := by
  have h0 := hr.l0
  have h1 := hr.l1
  go_enter Try.func19, Try.ntmps19
  go_wp2_with fail
  refine (search_any L lo hi D t _ _ _ _ hr (by omega) (by omega) (by simp [go_sem]) (by simp [go_sem]) (by simp [go_sem]) (by simp [go_sem]) (by simp [go_sem]) (by simp) (by simp; omega)).mono ?_
  rintro e w' ⟨⟨r, rfl, hr0, hr1, hr2, hr3⟩, hx⟩
  obtain ⟨x, rfl⟩ := hx.asLater
  have HR2 := Lib.hid hr2
  have HR3 := Lib.hid hr3
  clear hx hr2 hr3
  by_cases hz : r = 0
  · subst hz
    go_wp2
    go_ret
    refine ⟨⟨-1, rfl, .inl ⟨rfl, ?_⟩⟩, (by (repeat (first | with_reducible exact Ext.refl _ | with_reducible refine Ext.drew ?_ | with_reducible refine Ext.drewN ?_ _ | with_reducible refine Ext.alloc ?_ _ | with_reducible refine Ext.onto ?_ _ | with_reducible refine Ext.setCell ?_ ?_ _)); all_goals (simp; try omega))⟩
    have := HR3.out (by omega)
    rwa [Int.add_zero] at this
  · have hz' : (r == 0) = false := by simp [hz]
    go_wp2
    go_ret
    refine ⟨⟨_, rfl, .inr ⟨by omega, by omega, HR2.out (by omega), fun h => ?_⟩⟩, (by (repeat (first | with_reducible exact Ext.refl _ | with_reducible refine Ext.drew ?_ | with_reducible refine Ext.drewN ?_ _ | with_reducible refine Ext.alloc ?_ _ | with_reducible refine Ext.onto ?_ _ | with_reducible refine Ext.setCell ?_ ?_ _)); all_goals (simp; try omega))⟩
    rw [show L + r - 1 + 1 = L + r by omega]
    exact HR3.out (by omega)

def wth (u x L : Int) : Int := if x < L ∨ 2199023255552 < x then 0 else max (u + 1 - x) 0
def WorthIs (L hi D t x : Int) (w : World) (e : Ending) (w' : World) : Prop := (∃ u : Int, e = .returned (.int .i64 (wth u x L)) ∧ IsU L hi D t u) ∧ Ext w w'

theorem isU_ex {L lo hi D : Int} (t : Int) (hr : CkR L lo hi D) : ∃ u, IsU L hi D t u := by
  have key : ∀ n : Nat, (L + n ≤ 2199023255552) → (∀ m : Nat, m ≤ n → rdHi L hi D (L + m) < t) ∨ ∃ u, IsU L hi D t u := by
    intro n
    induction n with
    | zero =>
      intro _
      by_cases h : rdHi L hi D L < t
      · exact .inl (fun m hm => by obtain rfl : m = 0 := by omega
                                   simpa using h)
      · exact .inr ⟨-1, .inl ⟨rfl, by omega⟩⟩
    | succ n ih =>
      intro hn
      rcases ih (by omega) with h | h
      · by_cases h2 : rdHi L hi D (L + ((n + 1 : Nat) : Int)) < t
        · refine .inl (fun m hm => ?_)
          by_cases e : m = n + 1
          · subst e; exact h2
          · exact h m (by omega)
        · refine .inr ⟨L + n, .inr ⟨by omega, by omega, h n (Nat.le_refl _), fun _ => ?_⟩⟩
          rw [show L + (n : Int) + 1 = L + ((n + 1 : Nat) : Int) by omega]
          omega
      · exact .inr h
  have h1 := hr.l1
  rcases key (2199023255552 - L).toNat (by omega) with h | h
  · exact ⟨2199023255552, .inr ⟨h1, by omega, by have := h _ (Nat.le_refl _); rwa [show L + ((2199023255552 - L).toNat : Int) = 2199023255552 by omega] at this, by omega⟩⟩
  · exact h

theorem worth_any (L lo hi D t x : Int) (w : World) (hr : CkR L lo hi D) :
    Calls Try.prog 21 #[.agg #[.int .i64 L, .int .i64 lo, .int .i64 hi, .int .i64 D], .int .i64 x, .int .i64 t] w (WorthIs L hi D t x w) := by
  obtain ⟨u, hu⟩ := isU_ex t hr
  have H := Lib.hid hu
  have h0 := hr.l0
  have h1 := hr.l1
  by_cases hx : x < L
  · clear hu
    go_enter Try.func21, Try.ntmps21
    go_wp2_with fail
    go_ret
    exact ⟨⟨u, by rw [wth, if_pos (.inl hx)]; rfl, H.out⟩, (by (repeat (first | with_reducible exact Ext.refl _ | with_reducible refine Ext.drew ?_ | with_reducible refine Ext.drewN ?_ _ | with_reducible refine Ext.alloc ?_ _ | with_reducible refine Ext.onto ?_ _ | with_reducible refine Ext.setCell ?_ ?_ _)); all_goals (simp; try omega))⟩
  by_cases hx2 : 2199023255552 < x
  · clear hu
    go_enter Try.func21, Try.ntmps21
    go_wp2_with fail
    go_ret
    exact ⟨⟨u, by rw [wth, if_pos (.inr hx2)]; rfl, H.out⟩, (by (repeat (first | with_reducible exact Ext.refl _ | with_reducible refine Ext.drew ?_ | with_reducible refine Ext.drewN ?_ _ | with_reducible refine Ext.alloc ?_ _ | with_reducible refine Ext.onto ?_ _ | with_reducible refine Ext.setCell ?_ ?_ _)); all_goals (simp; try omega))⟩
  · have hub : -1 ≤ u ∧ u ≤ 2199023255552 := by rcases hu with ⟨rfl, _⟩ | ⟨a, b, _, _⟩ <;> omega
    obtain ⟨hu1, hu2⟩ := hub
    clear hu
    have hfin : wth u x L = if u + 1 - x < 0 then 0 else u + 1 - x := by unfold wth; rw [if_neg (by omega)]; omega
    have HF := Lib.hid hfin
    clear hfin
    go_enter Try.func21, Try.ntmps21
    go_wp2_with fail
    refine (until_any L lo hi D t _ hr).mono ?_
    rintro e w' ⟨⟨u', rfl, hu'⟩, hx⟩
    obtain ⟨y, rfl⟩ := hx.asLater
    obtain rfl : u' = u := IsU.unique hr.l0 hr.l1 hr.d1 hu' H.out
    clear hx hu'
    go_wp2
    all_goals
      go_ret
      refine ⟨⟨u', ?_, H.out⟩, (by (repeat (first | with_reducible exact Ext.refl _ | with_reducible refine Ext.drew ?_ | with_reducible refine Ext.drewN ?_ _ | with_reducible refine Ext.alloc ?_ _ | with_reducible refine Ext.onto ?_ _ | with_reducible refine Ext.setCell ?_ ?_ _)); all_goals (simp; try omega))⟩
      rw [HF.out]
      refine ret_int ?_
      split <;> omega
end Go.Proofs.Ytkcclpomhniafaa
