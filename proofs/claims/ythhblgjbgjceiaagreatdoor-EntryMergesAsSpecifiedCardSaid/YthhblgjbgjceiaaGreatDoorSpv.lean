/- Walks of the specification's sets of bytes: Valid. -/
import Derived.Test.YthhblgjbgjceiaaGreatDoorProg
import Derived.Test.YthhblgjbgjceiaaGreatDoorExt
import Derived.WalkKit
import Derived.WalkSpells
import Derived.WalkLawsBesides
import Derived.Deep.QuietTactic
import Derived.BigQuiet
import Derived.Test.YthhblgjbgjceiaaGreatDoorSpu
set_option linter.unusedVariables false
set_option linter.unusedSimpArgs false
namespace Go.Proofs.YthhblgjbgjceiaaGreatDoor
open Go.RowKit
open Go.Proofs
open Go.Proofs.Sp (Sp)

theorem rempty_is (s : Sp) (b : Bool) (w : World) (h : emptyB s = b) : Calls Tryz.prog 62 #[.agg #[.int .i64 s.1, .int .i64 s.2]] w fun e' w' => e' = .returned (.bool b) ∧ Ext w w' := by subst h; exact rempty_any s w
theorem rgood_is (s : Sp) (b : Bool) (w : World) (h : goodB s = b) : Calls Tryz.prog 30 #[.agg #[.int .i64 s.1, .int .i64 s.2]] w fun e' w' => e' = .returned (.bool b) ∧ Ext w w' := by subst h; exact rgood_any s w
def okAt (l : List Sp) (i : Nat) : Bool := !(emptyB (l.getD i (0, 0))) && goodB (l.getD i (0, 0)) && (decide (i = 0) || decide ((l.getD (i - 1) (0, 0)).2 < (l.getD i (0, 0)).1))
def setB (l : List Sp) : Bool := (List.range l.length).all (okAt l)
theorem setB_no {l : List Sp} {k : Nat} (h : k < l.length) (hf : okAt l k = false) : setB l = false := by
  cases e : setB l with
  | false => rfl
  | true =>
    have := List.all_eq_true.1 e k (List.mem_range.2 h)
    rw [hf] at this
    cases this
theorem setB_yes {l : List Sp} (h : ∀ j, j < l.length → okAt l j = true) : setB l = true := List.all_eq_true.2 (fun j hj => h j (List.mem_range.1 hj))
def LoopSp (w : World) (l : List Sp) (i : Value) (wr : World) : Prop := ∃ k : Nat, k ≤ l.length ∧ i = .int .i64 k ∧ Ext w wr ∧ Hid (∀ j, j < k → okAt l j = true)

set_option maxRecDepth 100000 in
set_option maxHeartbeats 2000000 in
theorem rvalid_any (A : Option Addr) (c : Nat) (l : List Sp) (w : World) (hl : l.length ≤ 140737488355328) (hr : ReadsSp w w.heap.size A l) :
    Calls Tryz.prog 27 #[.slice A l.length c] w fun e' w' => e' = .returned (.bool (setB l)) ∧ Ext w w' := by
  have HR := Lib.hid hr
  clear hr
  go_enter Tryz.func27, Tryz.ntmps27
  go_wp2
  go_loopw [3] (LoopSp w l) (fun i _ => l.length - (intOf i).toNat)
  case atStart => exact ⟨0, Nat.zero_le _, rfl, Ext.refl _, Lib.hid (fun j hj => absurd hj (Nat.not_lt_zero _))⟩
  case round =>
    obtain ⟨k, hk, rfl, hx, HN⟩ := hrel
    have HX := Lib.hid hx
    by_cases hlt : k < l.length
    · obtain ⟨b, off, rfl, hb, c1, c2⟩ := ReadsSp.cell (HR.out.ext hx (Nat.le_refl _)) k hlt
      have hsz := hx.size
      have hg : l.getD k (0, 0) = l[k] := by simp [hlt]
      have HOK : Hid (okAt l k = (!(emptyB l[k]) && goodB l[k] && (decide (k = 0) || decide ((l.getD (k - 1) (0, 0)).2 < l[k].1)))) := Lib.hid (by rw [okAt, hg])
      have HNO : Hid (okAt l k = false → setB l = false) := Lib.hid (setB_no hlt)
      have HNY : Hid (okAt l k = true → ∀ j, j < k + 1 → okAt l j = true) := Lib.hid (fun h j hj => by
        by_cases ej : j = k
        · rw [ej]; exact h
        · exact HN.out j (by omega))
      cases he : emptyB l[k] with
      | true =>
        have HE := Lib.hid he
        have HG : Hid (goodB l[k] = true) := Lib.hid (by simp [goodB, he])
        have HS : Hid (setB l = false) := Lib.hid (HNO.out (by rw [HOK.out, he]; rfl))
        generalize l[k] = s at *
        clear hx he hg
        go_wp2
        refine wp_region_later (by kernel_rfl) (by kernel_rfl) ?_
        repeat (first | go_big_quiet_step ((first | (go_at_call 62; exact quietE (rempty_is s _ _ HE.out)) | (go_at_call 30; exact quietE (rgood_is s _ _ HG.out)))) | quiet_step ((first | (go_at_call 62; exact quietE (rempty_is s _ _ HE.out)) | (go_at_call 30; exact quietE (rgood_is s _ _ HG.out)))))
        refine wpQuiet_nil ?_
        rintro _ ⟨xq, rfl⟩
        go_wp2
        go_ret
        exact ⟨ret_bool (by rw [HS.out]), (by (repeat (first | with_reducible exact HX.out | with_reducible exact Ext.refl _ | with_reducible refine Ext.drew ?_ | with_reducible refine Ext.drewN ?_ _ | with_reducible refine Ext.alloc ?_ _ | with_reducible refine Ext.onto ?_ _ | (with_reducible refine Ext.setCells ?_ ?_ _ _; rotate_left; focus (first | omega | (simp; done) | (simp; omega))) | (with_reducible refine Ext.setCell ?_ ?_ _; rotate_left; focus (first | omega | (simp; done) | (simp; omega))))))⟩
      | false =>
        have HE := Lib.hid he
        cases hgd : goodB l[k] with
        | false =>
          have HG := Lib.hid hgd
          have HS : Hid (setB l = false) := Lib.hid (HNO.out (by rw [HOK.out, he, hgd]; rfl))
          generalize l[k] = s at *
          clear hx he hg hgd
          go_wp2
          refine wp_region_later (by kernel_rfl) (by kernel_rfl) ?_
          repeat (first | go_big_quiet_step ((first | (go_at_call 62; exact quietE (rempty_is s _ _ HE.out)) | (go_at_call 30; exact quietE (rgood_is s _ _ HG.out)))) | quiet_step ((first | (go_at_call 62; exact quietE (rempty_is s _ _ HE.out)) | (go_at_call 30; exact quietE (rgood_is s _ _ HG.out)))))
          refine wpQuiet_nil ?_
          rintro _ ⟨xq, rfl⟩
          go_wp2
          go_ret
          exact ⟨ret_bool (by rw [HS.out]), (by (repeat (first | with_reducible exact HX.out | with_reducible exact Ext.refl _ | with_reducible refine Ext.drew ?_ | with_reducible refine Ext.drewN ?_ _ | with_reducible refine Ext.alloc ?_ _ | with_reducible refine Ext.onto ?_ _ | (with_reducible refine Ext.setCells ?_ ?_ _ _; rotate_left; focus (first | omega | (simp; done) | (simp; omega))) | (with_reducible refine Ext.setCell ?_ ?_ _; rotate_left; focus (first | omega | (simp; done) | (simp; omega))))))⟩
        | true =>
          have HG := Lib.hid hgd
          by_cases h0 : k = 0
          · have HY := Lib.hid (HNY.out (by rw [HOK.out, he, hgd]; simp [h0]))
            have hk0 : k ≤ 0 := by omega
            have d0 : decide (0 < k) = false := by simp; omega
            have d1 : decide (0 < (k : Int)) = false := by simp; omega
            have H0 := Lib.hid h0
            generalize l[k] = s at *
            clear hx he hg hgd h0
            go_wp2
            refine wp_region_later (by kernel_rfl) (by kernel_rfl) ?_
            repeat (first | go_big_quiet_step ((first | (go_at_call 62; exact quietE (rempty_is s _ _ HE.out)) | (go_at_call 30; exact quietE (rgood_is s _ _ HG.out)))) | quiet_step ((first | (go_at_call 62; exact quietE (rempty_is s _ _ HE.out)) | (go_at_call 30; exact quietE (rgood_is s _ _ HG.out)))))
            refine wpQuiet_nil ?_
            rintro _ ⟨xq, rfl⟩
            go_wp2
            go_roundw
            case rel => exact ⟨k + 1, by omega, by go_num, (by (repeat (first | with_reducible exact HX.out | with_reducible exact Ext.refl _ | with_reducible refine Ext.drew ?_ | with_reducible refine Ext.drewN ?_ _ | with_reducible refine Ext.alloc ?_ _ | with_reducible refine Ext.onto ?_ _ | (with_reducible refine Ext.setCells ?_ ?_ _ _; rotate_left; focus (first | omega | (simp; done) | (simp; omega))) | (with_reducible refine Ext.setCell ?_ ?_ _; rotate_left; focus (first | omega | (simp; done) | (simp; omega)))))), HY⟩
            case measure => simp [intOf]; omega
          · have hk1 : k - 1 < l.length := by omega
            obtain ⟨b', off', e1, _, _, c3⟩ := ReadsSp.cell (HR.out.ext hx (Nat.le_refl _)) (k - 1) hk1
            injection e1 with e1
            injection e1 with e1 e2
            subst e1 e2
            have hg1 : l.getD (k - 1) (0, 0) = l[k - 1] := by simp [hk1]
            rw [hg1] at HOK
            have hk0 : 0 < k := by omega
            have d0 : decide (0 < k) = true := by simp; omega
            have d1 : decide (0 < (k : Int)) = true := by simp; omega
            by_cases hle : l[k].1 ≤ l[k - 1].2
            · have HS : Hid (setB l = false) := Lib.hid (HNO.out (by rw [HOK.out, he, hgd]; simp [h0]; omega))
              generalize l[k] = s at *
              generalize l[k - 1] = s1 at *
              clear hx he hg hgd hg1
              go_wp2
              refine wp_region_later (by kernel_rfl) (by kernel_rfl) ?_
              repeat (first | go_big_quiet_step ((first | (go_at_call 62; exact quietE (rempty_is s _ _ HE.out)) | (go_at_call 30; exact quietE (rgood_is s _ _ HG.out)))) | quiet_step ((first | (go_at_call 62; exact quietE (rempty_is s _ _ HE.out)) | (go_at_call 30; exact quietE (rgood_is s _ _ HG.out)))))
              refine wpQuiet_nil ?_
              rintro _ ⟨xq, rfl⟩
              go_wp2
              go_ret
              exact ⟨ret_bool (by rw [HS.out]), (by (repeat (first | with_reducible exact HX.out | with_reducible exact Ext.refl _ | with_reducible refine Ext.drew ?_ | with_reducible refine Ext.drewN ?_ _ | with_reducible refine Ext.alloc ?_ _ | with_reducible refine Ext.onto ?_ _ | (with_reducible refine Ext.setCells ?_ ?_ _ _; rotate_left; focus (first | omega | (simp; done) | (simp; omega))) | (with_reducible refine Ext.setCell ?_ ?_ _; rotate_left; focus (first | omega | (simp; done) | (simp; omega))))))⟩
            · have HY := Lib.hid (HNY.out (by rw [HOK.out, he, hgd]; simp; omega))
              have d2 : decide (l[k].1 ≤ l[k - 1].2) = false := by simp; omega
              generalize l[k] = s at *
              generalize l[k - 1] = s1 at *
              clear hx he hg hgd hg1
              go_wp2
              refine wp_region_later (by kernel_rfl) (by kernel_rfl) ?_
              repeat (first | go_big_quiet_step ((first | (go_at_call 62; exact quietE (rempty_is s _ _ HE.out)) | (go_at_call 30; exact quietE (rgood_is s _ _ HG.out)))) | quiet_step ((first | (go_at_call 62; exact quietE (rempty_is s _ _ HE.out)) | (go_at_call 30; exact quietE (rgood_is s _ _ HG.out)))))
              refine wpQuiet_nil ?_
              rintro _ ⟨xq, rfl⟩
              go_wp2
              go_roundw
              case rel => exact ⟨k + 1, by omega, by go_num, (by (repeat (first | with_reducible exact HX.out | with_reducible exact Ext.refl _ | with_reducible refine Ext.drew ?_ | with_reducible refine Ext.drewN ?_ _ | with_reducible refine Ext.alloc ?_ _ | with_reducible refine Ext.onto ?_ _ | (with_reducible refine Ext.setCells ?_ ?_ _ _; rotate_left; focus (first | omega | (simp; done) | (simp; omega))) | (with_reducible refine Ext.setCell ?_ ?_ _; rotate_left; focus (first | omega | (simp; done) | (simp; omega)))))), HY⟩
              case measure => simp [intOf]; omega
    · have HS : Hid (setB l = true) := Lib.hid (setB_yes (fun j hj => HN.out j (by omega)))
      clear hx
      go_wp2
      go_ret
      exact ⟨ret_bool (by rw [HS.out]), HX.out⟩
end Go.Proofs.YthhblgjbgjceiaaGreatDoor
