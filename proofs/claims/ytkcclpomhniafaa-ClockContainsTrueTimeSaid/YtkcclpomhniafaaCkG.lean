/- Walks of the clock: what a true clock shows. -/
import Derived.Test.YtkcclpomhniafaaRows
import Derived.Test.YtkcclpomhniafaaExt
import Derived.WalkKit
import Derived.WalkSpells
import Derived.WalkLawsBesides
import Derived.Deep.QuietTactic
import Derived.BigQuiet
import Derived.RangeFuncNested
import Derived.RangeFuncBound
import Derived.RangeFuncCalls
import Derived.RangeFuncLeaves
import Derived.Shelf.Abstract
import Derived.Shelf.RegionOpen
import Derived.OwnWalkIn
import Derived.TacticsInMore
import Derived.LoopNIn
import Derived.LoopIn
import Derived.Test.YtkcclpomhniafaaCkF
set_option linter.unusedVariables false
set_option linter.unusedSimpArgs false
namespace Go.Proofs.Ytkcclpomhniafaa
open Go.RowKit Go.Shelf
attribute [local go_sem] Oper.semAt_some

theorem parts_any (A : Option Addr) (n c : Nat) (t : Int) (w : World) :
    Calls Try.prog 46 #[.slice A n c, .int .i64 t] w fun e w' => e = .returned (.func (.func 47) #[] #[.pointer (some ⟨w.heap.size, 0, none⟩), .pointer (some ⟨w.heap.size + 1, 0, none⟩)]) ∧
      (w.alloc (.cells #[.slice A n c] 46)).alloc (.cells #[.int .i64 t] 3) = w' := by
  go_enter Try.func46, Try.ntmps46
  go_wp2
  go_ret
  exact ⟨rfl, rfl⟩

theorem show_bad (base t : Int) (A : Option Addr) (c : Nat) (ps : List (Int × Int)) (w : World) (hm : ps.length ≤ 9223372036854775807) (hr : PReads w w.heap.size A ps)
    (h : base < 0 ∨ 1099511627776 < base ∨ t < 0 ∨ 1099511627776 < t ∨ rightB ps 100000 = false) :
    Calls Try.prog 26 #[.int .i64 base, .slice A ps.length c, .int .i64 t] w fun e w' => e = .returned (.tuple #[.int .i64 0, .int .i64 1]) ∧ Ext w w' := by
  have HR := Lib.hid hr
  clear hr
  by_cases h1 : base < 0
  · clear h
    go_enter Try.func26, Try.ntmps26
    go_wp2
    go_ret2
    exact ⟨rfl, (by (repeat (first | with_reducible exact Ext.refl _ | with_reducible refine Ext.drew ?_ | with_reducible refine Ext.drewN ?_ _ | with_reducible refine Ext.alloc ?_ _ | with_reducible refine Ext.onto ?_ _ | with_reducible refine Ext.setCell ?_ ?_ _)); all_goals (simp; try omega))⟩
  by_cases h2 : 1099511627776 < base
  · clear h
    go_enter Try.func26, Try.ntmps26
    go_wp2
    go_ret2
    exact ⟨rfl, (by (repeat (first | with_reducible exact Ext.refl _ | with_reducible refine Ext.drew ?_ | with_reducible refine Ext.drewN ?_ _ | with_reducible refine Ext.alloc ?_ _ | with_reducible refine Ext.onto ?_ _ | with_reducible refine Ext.setCell ?_ ?_ _)); all_goals (simp; try omega))⟩
  by_cases h3 : t < 0
  · clear h
    go_enter Try.func26, Try.ntmps26
    go_wp2
    go_ret2
    exact ⟨rfl, (by (repeat (first | with_reducible exact Ext.refl _ | with_reducible refine Ext.drew ?_ | with_reducible refine Ext.drewN ?_ _ | with_reducible refine Ext.alloc ?_ _ | with_reducible refine Ext.onto ?_ _ | with_reducible refine Ext.setCell ?_ ?_ _)); all_goals (simp; try omega))⟩
  by_cases h4 : 1099511627776 < t
  · clear h
    go_enter Try.func26, Try.ntmps26
    go_wp2
    go_ret2
    exact ⟨rfl, (by (repeat (first | with_reducible exact Ext.refl _ | with_reducible refine Ext.drew ?_ | with_reducible refine Ext.drewN ?_ _ | with_reducible refine Ext.alloc ?_ _ | with_reducible refine Ext.onto ?_ _ | with_reducible refine Ext.setCell ?_ ?_ _)); all_goals (simp; try omega))⟩
  have H5 : Hid (rightB ps 100000 = false) := by
    rcases h with h | h | h | h | h
    · omega
    · omega
    · omega
    · omega
    · exact Lib.hid h
  clear h
  go_enter Try.func26, Try.ntmps26
  go_wp2_with (go_at_call 45; refine (right_any _ _ _ _ _ (by omega) (by omega) hm HR.out).mono ?_; rintro e w' ⟨rfl, hxl⟩; obtain ⟨xl, rfl⟩ := hxl.asLater; clear hxl; rw [H5.out])
  go_ret2
  exact ⟨rfl, (by (repeat (first | with_reducible exact Ext.refl _ | with_reducible refine Ext.drew ?_ | with_reducible refine Ext.drewN ?_ _ | with_reducible refine Ext.alloc ?_ _ | with_reducible refine Ext.onto ?_ _ | with_reducible refine Ext.setCell ?_ ?_ _)); all_goals (simp; try omega))⟩

def showN (base t : Int) (ps : List (Int × Int)) : Int := base + ((shFold ps t).1 + (shFold ps t).2 * 1000000) / 1000000

/-- One round of Show's loop. -/
theorem boxed_box {w w1 : World} {B : Nat} {t : TypeId} {v : Value} (h : Boxed w B t v) (l : Nat) (hb : But l w w1) (hne : B ≠ l) : Boxed w1 B t v := (hb.block B h.lt (fun e => hne (by injection e))).trans h

set_option maxRecDepth 100000 in
set_option maxHeartbeats 2000000 in
theorem show_ok (base t : Int) (A : Option Addr) (c : Nat) (ps : List (Int × Int)) (w : World) (hr : PReads w w.heap.size A ps)
    (h1 : 0 ≤ base) (h2 : base ≤ 1099511627776) (h3 : 0 ≤ t) (h4 : t ≤ 1099511627776) (hR : rightB ps 100000 = true) (q : Int) (hq : Hid (((shFold ps t).1 + (shFold ps t).2 * 1000000) = q))
    (v : Value) (hv : (base + q / 1000000 ≤ 2199023255552 ∧ v = .tuple #[.int .i64 (base + q / 1000000), .int .i64 0]) ∨ (2199023255552 < base + q / 1000000 ∧ v = .tuple #[.int .i64 0, .int .i64 2])) :
    Calls Try.prog 26 #[.int .i64 base, .slice A ps.length c, .int .i64 t] w fun e w' => e = .returned v ∧ Ext w w' := by
  have hlen : ps.length ≤ 100 := by simp [rightB] at hR; omega
  have hall : ps.all (okPace 100000) = true := by simp [rightB] at hR ⊢; exact hR.1
  have hbd := shFold_bd ps t h3 ps.length hall
  rw [List.take_length] at hbd
  have hq0 : 0 ≤ q := by have := hq.out; omega
  have hq1 : q ≤ 1209462790553600000 := by have := hq.out; omega
  clear hbd
  have HV := Lib.hid hv
  clear hv
  have HA := Lib.hid hall
  have HR := Lib.hid hR
  have HP := Lib.hid hr
  clear hall hR hr
  have d1 : decide (base < 0) = false := by simp; omega
  have d2 : decide (1099511627776 < base) = false := by simp; omega
  have d3 : decide (t < 0) = false := by simp; omega
  have d4 : decide (1099511627776 < t) = false := by simp; omega
  refine (callsIn_wide (n := 3)).1 ?_
  refine callsIn_of_wp_marks Try.func26 rfl trivial ?_ rfl
  simp only [Try.ntmps26, List.size_toArray, List.length_cons, List.length_nil, Nat.reduceAdd, Nat.reduceSub, Array.replicate_succ, Array.replicate_zero, List.push_toArray, List.append_toArray, List.nil_append, List.cons_append]
  gi_wp2_with (first
    | (refine ⟨trivial, ?_⟩; gi_at_call 45; refine (callsIn_wide.2 (right_any _ _ _ _ _ (by omega) (by omega) (by omega) HP.out)).mono ?_; rintro e w1 ⟨rfl, hx⟩; rw [HR.out]; have HX := Lib.hid hx; clear hx)
    | (refine ⟨trivial, ?_⟩; gi_at_call 46; refine (callsIn_wide.2 (parts_any _ _ _ _ _)).mono ?_; rintro e w2 ⟨rfl, rfl⟩))
  clear d1 d2 d3 d4
  have b1 : Boxed (((w1.alloc (.cells #[.int .i64 0] 3)).alloc (.cells #[.slice A ps.length c] 46)).alloc (.cells #[.int .i64 t] 3)) w1.heap.size 3 (.int .i64 0) := ((Boxed.new w1 3 _).alloc _).alloc _
  have b2 : Boxed (((w1.alloc (.cells #[.int .i64 0] 3)).alloc (.cells #[.slice A ps.length c] 46)).alloc (.cells #[.int .i64 t] 3)) (w1.heap.size + 1) 46 (.slice A ps.length c) := by
    have := Boxed.new (w1.alloc (.cells #[.int .i64 0] 3)) 46 (.slice A ps.length c); rw [World.size_alloc] at this; exact this.alloc _
  have b3 : Boxed (((w1.alloc (.cells #[.int .i64 0] 3)).alloc (.cells #[.slice A ps.length c] 46)).alloc (.cells #[.int .i64 t] 3)) (w1.heap.size + 1 + 1) 3 (.int .i64 t) := by
    have := Boxed.new ((w1.alloc (.cells #[.int .i64 0] 3)).alloc (.cells #[.slice A ps.length c] 46)) 3 (.int .i64 t); rw [World.size_alloc, World.size_alloc] at this; exact this
  have bs : (((w1.alloc (.cells #[.int .i64 0] 3)).alloc (.cells #[.slice A ps.length c] 46)).alloc (.cells #[.int .i64 t] 3)).heap.size = w1.heap.size + 3 := by simp
  have bx : Ext w1 (((w1.alloc (.cells #[.int .i64 0] 3)).alloc (.cells #[.slice A ps.length c] 46)).alloc (.cells #[.int .i64 t] 3)) := (((Ext.refl _).alloc _).alloc _).alloc _
  generalize (((w1.alloc (.cells #[.int .i64 0] 3)).alloc (.cells #[.slice A ps.length c] 46)).alloc (.cells #[.int .i64 t] 3)) = W0 at b1 b2 b3 bs bx ⊢
  refine rf_enter rfl (by omega) (gf := 47) (lb := #[.pointer (some ⟨w1.heap.size + 1, 0, none⟩), .pointer (some ⟨w1.heap.size + 1 + 1, 0, none⟩)]) rfl trivial (enters_of Try.func47 (by kernel_rfl) rfl) ?_
  intro fn WL hfn hE hEs hl0 hD0
  have hP2 : PReads WL w1.heap.size A ps := by
    have h5 : PReads w1 w.heap.size A ps := HP.out.ext HX.out (Nat.le_refl _)
    have h6 : PReads WL w.heap.size A ps := h5.ext (bx.trans hE) HX.out.size
    intro h0
    obtain ⟨b, off, e, hb, hc⟩ := h6 h0
    exact ⟨b, off, e, by have := HX.out.size; omega, hc⟩
  refine CallsIn.mono (parts1_in Fence.wide (3 - 1) trivial rfl (by omega) (W0.heap.size + 1) (w1.heap.size + 1) (w1.heap.size + 1 + 1) w1.heap.size w1.heap.size A c ps t 0 WL hlen h3 h4 HA.out
    (by omega) (by omega) (by omega) (by omega) (by omega) (by omega) (by omega) (by omega) (by omega)
    ((ButS.of_ext (S := fun _ => False) hE).boxed b2 id) ((ButS.of_ext (S := fun _ => False) hE).boxed b3 id) ((ButS.of_ext (S := fun _ => False) hE).boxed b1 id) hP2 (by omega) _ hl0 ?hY) ?post
  case hY =>
    intro x p W1 hrec hbp hp0 hp1 hx1 hx2 hx3 hx4
    have hlt := (Array.getElem?_eq_some_iff.1 hrec).1
    refine rf_round hrec hfn rfl ?_
    have HREC := Lib.hid hrec
    have HBS := Lib.hid bs
    clear hrec bs
    gi_wp2
    refine ⟨(Below.heap_alloc _ _ _ hlt).trans HREC.out, ?_⟩
    intro W2 hb2 hs2 hr2
    have hbp2 : Boxed W2 w1.heap.size 3 (.int .i64 p) := boxed_but (hbp.alloc _) hb2 (by have := HBS.out; omega)
    have hnew := new_but hb2 (by omega)
    have c1 : W2.cell? ⟨W1.heap.size, 0, none⟩ = some (.int .i64 x.1) := by rw [cell_of_cells hnew]; rfl
    have c2 : W2.cell? ⟨W1.heap.size, 1, none⟩ = some (.int .i64 x.2) := by rw [cell_of_cells hnew]; rfl
    have c3 := hbp2.cell
    have c4 := hbp2.frozen
    have m1 : 0 ≤ x.1 * (1000000 + x.2) := Int.mul_nonneg hx1 (by omega)
    have m2 : x.1 * (1000000 + x.2) ≤ x.1 * 1100000 := Int.mul_le_mul_of_nonneg_left (by omega) hx1
    have HB2 := Lib.hid hb2
    have HR2 := Lib.hid hr2
    have HNEW := Lib.hid hnew
    clear hb2 hr2 hnew hs2
    gi_wp2
    refine ⟨(Below.heap_setCell _ _ _ _ (by show _ ≠ w1.heap.size; have := HBS.out; omega)).trans HR2.out, ?_⟩
    intro W4 hb4 hr4
    refine ⟨rfl, ?_, boxed_but (hbp2.set _) hb4 (by have := HBS.out; omega)⟩
    refine ButS.back (l := W0.heap.size + 1) ?_ (hr4.trans HREC.out.symm)
    refine ButS.trans (b := W2) (ButS.trans (ButS.of_ext ((Ext.refl W1).alloc _)) (ButS.of_but HB2.out (.inr (.inr rfl)))) ?_
    exact ((ButS.refl _ W2).setCell (p := ⟨w1.heap.size, 0, none⟩) (.inl (.inl rfl)) _).trans (ButS.of_but hb4 (.inr (.inr rfl)))
  case post =>
    rintro e W' ⟨⟨v', rfl⟩, hB, hb⟩
    rw [hq.out] at hb
    refine ⟨⟨_, rfl⟩, .inl ⟨(hB.block _ (by omega) (by omega)).trans hl0, ?_⟩⟩
    intro W'' hBut
    have hK : W''.heap[W0.heap.size]? = some (.deferred (some [])) := (hBut.block _ (by have := hB.size; omega) (fun e => by injection e; omega)).trans ((hB.block _ (by omega) (by omega)).trans hD0)
    have hc := (boxed_but hb hBut (by omega)).cell
    have HE : Hid (Ext w (W''.putObj W0.heap.size (.deferred none))) := by
      refine Lib.hid (HX.out.trans ?_)
      have f1 : ButS (fun k => w1.heap.size ≤ k) w1 W' := (ButS.of_ext (bx.trans hE)).trans (hB.mono (fun k _ e => by omega))
      have f2 : ButS (fun k => w1.heap.size ≤ k) w1 W'' := f1.trans (ButS.of_but hBut (.inr (by omega)))
      exact (f2.trans (ButS.of_but (grownBy_putObj' W'' W0.heap.size (.deferred none)) (.inr (by omega)))).toExt (fun k hk => by omega)
    have HK := Lib.hid hK
    have HBS := Lib.hid bs
    clear hK bs hl0 hD0 hb hEs
    rcases HV.out with ⟨hv1, rfl⟩ | ⟨hv1, rfl⟩
    all_goals
      gi_wp2
      refine ⟨by simp, .inl ⟨_, _, rfl, run_takeDeferred HK.out, ?_⟩⟩
      exact ⟨_, results_tmp2 rfl _ _ _, rfl, HE.out⟩
end Go.Proofs.Ytkcclpomhniafaa
