/- Walks of the specification's sets of bytes: what a set has, and what is valid. -/
import Derived.Test.YthhblgjbgjceiaaGreatDoorProg
import Derived.Test.YthhblgjbgjceiaaGreatDoorExt
import Derived.WalkKit
import Derived.WalkSpells
import Derived.WalkLawsBesides
import Derived.Deep.QuietTactic
import Derived.BigQuiet
import Derived.Test.YthhblgjbgjceiaaGreatDoorEo
import Derived.Test.YthhblgjbgjceiaaGreatDoorSpu
set_option linter.unusedVariables false
set_option linter.unusedSimpArgs false
namespace Go.Proofs.YthhblgjbgjceiaaGreatDoor
open Go.RowKit
open Go.Proofs
open Go.Proofs.Sp (Sp)

set_option maxHeartbeats 1000000 in
theorem rfull_any (e : En) (A : Option Addr) (c : Nat) (l : List Sp) (w : World) (hv : e.hv = .slice A l.length c) (hl : l.length ≤ 140737488355328) (hn : e.st.size ≤ 1099511627776) (hr : ReadsSp w w.heap.size A l) :
    Calls Tryz.prog 56 #[.agg (entC e)] w fun e' w' => e' = .returned (.bool (fullB l e.st.size)) ∧ Ext w w' := by
  have HR := Lib.hid hr
  clear hr
  go_enter Tryz.func56, Tryz.ntmps56
  go_wp2
  go_loopw [3] (fun i wr => ∃ k : Nat, ((k : Int) ≤ e.st.size ∨ k = 0) ∧ i = .int .i64 k ∧ Ext w wr ∧ RowAt wr w.heap.size (entC e) ∧ Hid (∀ j : Nat, j < k → hasB l j = true)) (fun i _ => e.st.size.toNat - (intOf i).toNat)
  case atStart => exact ⟨0, .inr rfl, rfl, (Ext.refl _).alloc _, RowAt.new _ _ _, Lib.hid (fun j hj => absurd hj (Nat.not_lt_zero _))⟩
  case round =>
    obtain ⟨k, hk, rfl, hx, h1, HN⟩ := hrel
    have HX := Lib.hid hx
    have H1 := Lib.hid h1
    have c3 : wr.cell? ⟨w.heap.size, 3, none⟩ = some (.int .i64 e.st.size) := (h1.cell 3).trans (ent_g3 e)
    have c42 : wr.cell? ⟨w.heap.size, 42, none⟩ = some (.slice A l.length c) := (h1.cell 42).trans (by rw [ent_g42, hv])
    have hsz := h1.lt
    have HRw := Lib.hid ((HR.out.ext hx (Nat.le_refl _)).up hx.size)
    have HV := Lib.hid hv
    by_cases hlt : (k : Int) < e.st.size
    · cases hf : hasB l k with
      | true =>
        have HF := Lib.hid hf
        have HN2 : Hid (∀ j : Nat, j < k + 1 → hasB l j = true) := Lib.hid (fun j hj => by
          by_cases ej : j = k
          · rw [ej]; exact hf
          · exact HN.out j (by omega))
        clear hx h1 hf hv
        go_wp2_with (go_at_call 44; refine (rhas_any A c l _ _ hl HRw.out).mono ?_; rw [HF.out]; rintro e w' ⟨rfl, hxl⟩; obtain ⟨xl, rfl⟩ := hxl.asLater; clear hxl)
        go_roundw
        case rel => exact ⟨k + 1, by omega, by go_num, (by (repeat (first | with_reducible exact HX.out | with_reducible exact Ext.refl _ | with_reducible refine Ext.drew ?_ | with_reducible refine Ext.drewN ?_ _ | with_reducible refine Ext.alloc ?_ _ | with_reducible refine Ext.onto ?_ _ | (with_reducible refine Ext.setCells ?_ ?_ _ _; rotate_left; focus (first | omega | (simp; done) | (simp; omega))) | (with_reducible refine Ext.setCell ?_ ?_ _; rotate_left; focus (first | omega | (simp; done) | (simp; omega)))))), (by (repeat (first | with_reducible exact H1.out | with_reducible refine RowAt.drew ?_ | with_reducible refine RowAt.later ?_ _ | with_reducible exact RowAt.newAt (by first | rfl | omega | (simp [later_size, setCells_size]; done) | (simp [later_size, setCells_size]; omega)) | with_reducible refine RowAt.alloc ?_ _ | with_reducible apply RowAt.store | with_reducible refine RowAt.others ?_ ?_ _ _ | with_reducible refine RowAt.other ?_ ?_ _)); all_goals first | omega | (simp; done) | (simp; omega) | (simp [go_sem]; done)), HN2⟩
        case measure => simp [intOf]; omega
      | false =>
        have HF := Lib.hid hf
        have HG := Lib.hid (full_no hlt hf)
        clear hx h1 hf hv
        go_wp2_with (go_at_call 44; refine (rhas_any A c l _ _ hl HRw.out).mono ?_; rw [HF.out]; rintro e w' ⟨rfl, hxl⟩; obtain ⟨xl, rfl⟩ := hxl.asLater; clear hxl)
        go_ret
        exact ⟨ret_bool (by rw [HG.out]), (by (repeat (first | with_reducible exact HX.out | with_reducible exact Ext.refl _ | with_reducible refine Ext.drew ?_ | with_reducible refine Ext.drewN ?_ _ | with_reducible refine Ext.alloc ?_ _ | with_reducible refine Ext.onto ?_ _ | (with_reducible refine Ext.setCells ?_ ?_ _ _; rotate_left; focus (first | omega | (simp; done) | (simp; omega))) | (with_reducible refine Ext.setCell ?_ ?_ _; rotate_left; focus (first | omega | (simp; done) | (simp; omega))))))⟩
    · have HG : Hid (fullB l e.st.size = true) := Lib.hid (full_yes (fun j hj => HN.out j (by omega)))
      clear hx h1 hv
      go_wp2
      go_ret
      exact ⟨ret_bool (by rw [HG.out]), HX.out⟩
end Go.Proofs.YthhblgjbgjceiaaGreatDoor
