/- Walks of ranges: the program's Valid. -/
import Derived.Test.YthhblgjbgjceiaaGreatDoorProg
import Derived.Test.YthhblgjbgjceiaaGreatDoorExt
import Derived.WalkKit
import Derived.WalkSpells
import Derived.WalkLawsBesides
import Derived.Deep.QuietTactic
import Derived.BigQuiet
import Derived.Test.YthhblgjbgjceiaaGreatDoorMs
set_option linter.unusedVariables false
set_option linter.unusedSimpArgs false
namespace Go.Proofs.YthhblgjbgjceiaaGreatDoor
open Go.RowKit Go.Shelf
open Go.Proofs
open Go.Proofs.Sp (Sp)

def goodP (s : Sp) : Bool := decide (0 ≤ s.1) && decide (s.1 < s.2) && decide (s.2 ≤ 1099511627776)
theorem pgood_any (s1 s2 : Int) (w : World) : Calls Tryz.prog 76 #[.agg #[.int .i64 s1, .int .i64 s2]] w fun e' w' => e' = .returned (.bool (goodP (s1, s2))) ∧ Ext w w' := by
  go_enter Tryz.func76, Tryz.ntmps76
  go_wp2
  all_goals
    go_ret
    refine ⟨ret_bool ?_, (by (repeat (first | with_reducible exact Ext.refl _ | with_reducible exact Ext.refl _ | with_reducible refine Ext.drew ?_ | with_reducible refine Ext.drewN ?_ _ | with_reducible refine Ext.alloc ?_ _ | with_reducible refine Ext.onto ?_ _ | (with_reducible refine Ext.setCells ?_ ?_ _ _; rotate_left; focus (first | omega | (simp; done) | (simp; omega))) | (with_reducible refine Ext.setCell ?_ ?_ _; rotate_left; focus (first | omega | (simp; done) | (simp; omega))))))⟩
    first
      | (simp_all [goodP]; done)
      | (rw [Bool.eq_iff_iff]; simp_all [goodP]; done)
      | (rw [Bool.eq_iff_iff]; simp_all [goodP]; omega)
theorem okAt_good {l : List Sp} {i : Nat} (hi : i < l.length) : okAt l i = (goodP l[i] && !(decide (l[i].1 ≤ if i = 0 then -1 else (l.getD (i - 1) (0, 0)).2))) := by
  rw [Bool.eq_iff_iff, okAt_iff, getD_at hi]
  simp only [goodP, Bool.and_eq_true, decide_eq_true_eq, Bool.not_eq_true', decide_eq_false_iff_not]
  by_cases h0 : i = 0
  · rw [if_pos h0]; omega
  · rw [if_neg h0]; omega
set_option maxRecDepth 100000 in
set_option maxHeartbeats 400000 in
theorem pvalid_any (A : Option Addr) (c : Nat) (l : List Sp) (w : World) (hl : l.length ≤ 140737488355328) (hr : ReadsSp w w.heap.size A l) :
    Calls Tryz.prog 36 #[.slice A l.length c] w fun e' w' => e' = .returned (.bool (setB l)) ∧ Ext w w' := by
  have HR := Lib.hid hr
  clear hr
  go_enter Tryz.func36, Tryz.ntmps36
  go_wp2
  go_loopw [8, 3] (fun i v wr => ∃ (k : Nat) (t : Int), k ≤ l.length ∧ i = .int .i64 k ∧ v = .int .i64 t ∧ Ext w wr ∧ Hid (t = if k = 0 then -1 else (l.getD (k - 1) (0, 0)).2) ∧ Hid (∀ j, j < k → okAt l j = true)) (fun i _ _ => l.length - (intOf i).toNat)
  case atStart => exact ⟨0, -1, Nat.zero_le _, rfl, rfl, Ext.refl _, Lib.hid rfl, Lib.hid (fun j hj => absurd hj (Nat.not_lt_zero _))⟩
  case round =>
    obtain ⟨k, t, hk, rfl, rfl, hx, HT, HN⟩ := hrel
    have HX := Lib.hid hx
    by_cases hlt : k < l.length
    · obtain ⟨b, off, rfl, hb, c1, c2⟩ := ReadsSp.cell (HR.out.ext hx (Nat.le_refl _)) k hlt
      have ho := okAt_good hlt
      rw [← HT.out] at ho
      have HY : Hid (okAt l k = true → ∀ j, j < k + 1 → okAt l j = true) := Lib.hid (fun h j hj => by
        by_cases ej : j = k
        · rw [ej]; exact h
        · exact HN.out j (by omega))
      have HNo : Hid (okAt l k = false → setB l = false) := Lib.hid (setB_no hlt)
      have HT2 : Hid (l[k].2 = if k + 1 = 0 then -1 else (l.getD (k + 1 - 1) (0, 0)).2) := Lib.hid (by rw [if_neg (by omega), Nat.add_sub_cancel, getD_at hlt])
      have HO := Lib.hid ho
      clear ho hx
      generalize l[k] = s at *
      obtain ⟨s1, s2⟩ := s
      simp only [] at c1 c2 HT2
      cases hg : goodP (s1, s2) with
      | false =>
        have HV := Lib.hid (HNo.out (by rw [HO.out, hg]; rfl))
        have HG := Lib.hid hg
        clear hg
        go_wp2_with (go_at_call 76; refine (pgood_any s1 s2 _).mono ?_; rw [HG.out]; rintro e w' ⟨rfl, hxl⟩; obtain ⟨xl, rfl⟩ := hxl.asLater; clear hxl)
        go_ret
        exact ⟨ret_bool (by rw [HV.out]), (by (repeat (first | with_reducible exact HX.out | with_reducible exact Ext.refl _ | with_reducible refine Ext.drew ?_ | with_reducible refine Ext.drewN ?_ _ | with_reducible refine Ext.alloc ?_ _ | with_reducible refine Ext.onto ?_ _ | (with_reducible refine Ext.setCells ?_ ?_ _ _; rotate_left; focus (first | omega | (simp; done) | (simp; omega))) | (with_reducible refine Ext.setCell ?_ ?_ _; rotate_left; focus (first | omega | (simp; done) | (simp; omega))))))⟩
      | true =>
        have HG := Lib.hid hg
        by_cases hlast : s1 ≤ t
        · have HV := Lib.hid (HNo.out (by rw [HO.out, hg]; simpa using hlast))
          have d1 : decide (s1 ≤ t) = true := by simpa using hlast
          clear hg hlast
          go_wp2_with (go_at_call 76; refine (pgood_any s1 s2 _).mono ?_; rw [HG.out]; rintro e w' ⟨rfl, hxl⟩; obtain ⟨xl, rfl⟩ := hxl.asLater; clear hxl)
          go_ret
          exact ⟨ret_bool (by rw [HV.out]), (by (repeat (first | with_reducible exact HX.out | with_reducible exact Ext.refl _ | with_reducible refine Ext.drew ?_ | with_reducible refine Ext.drewN ?_ _ | with_reducible refine Ext.alloc ?_ _ | with_reducible refine Ext.onto ?_ _ | (with_reducible refine Ext.setCells ?_ ?_ _ _; rotate_left; focus (first | omega | (simp; done) | (simp; omega))) | (with_reducible refine Ext.setCell ?_ ?_ _; rotate_left; focus (first | omega | (simp; done) | (simp; omega))))))⟩
        · have HY2 := Lib.hid (HY.out (by rw [HO.out, hg]; simpa using hlast))
          have d1 : decide (s1 ≤ t) = false := by simpa using hlast
          clear hg hlast
          go_wp2_with (go_at_call 76; refine (pgood_any s1 s2 _).mono ?_; rw [HG.out]; rintro e w' ⟨rfl, hxl⟩; obtain ⟨xl, rfl⟩ := hxl.asLater; clear hxl)
          go_roundw
          case rel => exact ⟨k + 1, s2, by omega, by go_num, rfl, (by (repeat (first | with_reducible exact HX.out | with_reducible exact Ext.refl _ | with_reducible refine Ext.drew ?_ | with_reducible refine Ext.drewN ?_ _ | with_reducible refine Ext.alloc ?_ _ | with_reducible refine Ext.onto ?_ _ | (with_reducible refine Ext.setCells ?_ ?_ _ _; rotate_left; focus (first | omega | (simp; done) | (simp; omega))) | (with_reducible refine Ext.setCell ?_ ?_ _; rotate_left; focus (first | omega | (simp; done) | (simp; omega)))))), HT2, HY2⟩
          case measure => simp [intOf]; omega
    · have HV : Hid (setB l = true) := Lib.hid (setB_yes (fun j hj => HN.out j (by omega)))
      clear hx
      go_wp2
      go_ret
      exact ⟨ret_bool (by rw [HV.out]), HX.out⟩
/-! ### Trim -/
end Go.Proofs.YthhblgjbgjceiaaGreatDoor
