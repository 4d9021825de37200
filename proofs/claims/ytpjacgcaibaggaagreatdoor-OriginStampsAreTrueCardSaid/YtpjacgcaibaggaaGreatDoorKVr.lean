/- The specification's Valid of a timeline. -/
import Derived.Test.YtpjacgcaibaggaaGreatDoorProg
import Derived.Test.YtpjacgcaibaggaaGreatDoorKSpv
import Derived.WalkKit
import Derived.WalkSpells
import Derived.WalkLawsBesides
import Derived.Deep.QuietTactic
import Derived.BigQuiet
import Derived.Test.YtpjacgcaibaggaaGreatDoorKOv
set_option linter.unusedVariables false
set_option linter.unusedSimpArgs false
namespace Go.Proofs.YtpjacgcaibaggaaGreatDoor
open Go.RowKit Go.Shelf
open Go.Proofs

theorem last_z {l : List Ver} {k : Nat} (h : k = 0) : lastOf l k = -1 := by subst h; rfl
theorem last_p {l : List Ver} {k : Nat} (h : 0 < k) (hk : k < l.length) : lastOf l k = (l[k - 1]'(by omega)).fr := by
  have e2 := lastOf_succ (l := l) (k := k - 1) (by omega)
  rw [show k - 1 + 1 = k by omega] at e2
  exact e2
set_option maxRecDepth 100000 in
set_option maxHeartbeats 8000000 in
theorem rvalidV_any (A : Option Addr) (c : Nat) (l : List Ver) (w : World) (hl : l.length ≤ 100000) (ht : ∀ v ∈ l, v.tags.size ≤ 900000 ∧ v.bytes.size ≤ 9223372036854775807) (hr : ReadsVer w w.heap.size A l) :
    Calls Tryz.prog 13 #[.slice A l.length c] w fun e w' => e = .returned (.bool (validV l)) ∧ Ext w w' := by
  have HR := Lib.hid hr
  have HT := Lib.hid ht
  clear hr ht
  go_enter Tryz.func13, Tryz.ntmps13
  go_wp2
  go_loopw [3] (fun i wr => ∃ k : Nat, k ≤ l.length ∧ i = .int .i64 k ∧ Hid (OkTo listedB l k) ∧ Hid (Ext w wr)) (fun i _ => l.length - (intOf i).toNat)
  case atStart => exact ⟨0, Nat.zero_le _, rfl, Lib.hid (OkTo.zero l), Lib.hid (Ext.refl _)⟩
  case round =>
    obtain ⟨k, hk, rfl, HK, HX⟩ := hrel
    by_cases hlt : k < l.length
    · obtain ⟨b, off, rfl, hb, hrow, hcl⟩ := ReadsVer.cell (HR.out.ext HX.out (Nat.le_refl _)) k hlt
      have hsz := HX.out.size
      have hb2 : b < wr.heap.size := by omega
      obtain ⟨ht1, ht2⟩ := HT.out _ (List.getElem_mem hlt)
      have HLs := Lib.hid (fun W => rlisted_any l[k].tags W (by omega))
      have HSn := Lib.hid (fun h => HK.out.snoc hlt h)
      have HNo := Lib.hid (fun h => validV_no (OkTo.not (lb := listedB) hlt h))
      clear ht1
      by_cases k0 : 0 < k
      · obtain ⟨b', off', e1, _, _, hcp⟩ := ReadsVer.cell (HR.out.ext HX.out (Nat.le_refl _)) (k - 1) (by omega)
        injection e1 with e1
        injection e1 with e1 e2
        subst e1 e2
        rw [← last_p k0 hlt] at hcp
        have hla0 : 0 ≤ lastOf l k := by rw [last_p k0 hlt]; exact HK.out.from0 _ _ (by omega)
        have d0 : decide (0 < k) = true := by simp; omega
        have d1 : decide (0 < (k : Int)) = true := by simp; omega
        generalize lastOf l k = la at *
        generalize l[k] = v at *
        by_cases b0 : v.fr < 0
        · have e0 : decide (v.fr < 0) = true := by simpa using b0
          go_wp2
          refine wp_world (fun W => Ext w W ∧ RowAt W wr.heap.size (verC v) ∧ Ext wr W) ⟨(by (repeat (first | with_reducible exact HX.out | with_reducible exact Ext.refl _ | with_reducible refine Ext.drew ?_ | with_reducible refine Ext.drewN ?_ _ | with_reducible refine Ext.alloc ?_ _ | with_reducible refine Ext.onto ?_ _ | (with_reducible refine Ext.setCells ?_ ?_ _ _; rotate_left; focus (first | omega | (simp; done) | (simp; omega))) | (with_reducible refine Ext.setCell ?_ ?_ _; rotate_left; focus (first | omega | (simp; done) | (simp; omega)))))), (RowAt.newAt (cs := verC noVer) (t := 38) rfl).store rfl, (by (repeat (first | with_reducible exact Ext.refl _ | with_reducible exact Ext.refl _ | with_reducible refine Ext.drew ?_ | with_reducible refine Ext.drewN ?_ _ | with_reducible refine Ext.alloc ?_ _ | with_reducible refine Ext.onto ?_ _ | (with_reducible refine Ext.setCells ?_ ?_ _ _; rotate_left; focus (first | omega | (simp; done) | (simp; omega))) | (with_reducible refine Ext.setCell ?_ ?_ _; rotate_left; focus (first | omega | (simp; done) | (simp; omega))))))⟩ ?_
          rintro W1 ⟨x1, r1, y1⟩
          have HX1 := Lib.hid x1
          have q0 : W1.cell? ⟨wr.heap.size, 0, none⟩ = some (.int .i64 v.fr) := r1.cell 0
          have q1 : W1.cell? ⟨wr.heap.size, 1, none⟩ = some (.int .i64 v.status) := r1.cell 1
          have q2 : W1.cell? ⟨wr.heap.size, 2, none⟩ = some (.string v.bytes) := r1.cell 2
          have q3 : W1.cell? ⟨wr.heap.size, 3, none⟩ = some (.string v.tags) := r1.cell 3
          have hl1 := r1.lt
          have HS : Hid (validV l = false) := Lib.hid (HNo.out (fun h => by have := h.1; omega))
          clear HSn HNo
          clear x1 r1 y1 hrow hcl
          refine wp_region_later (by kernel_rfl) (by kernel_rfl) ?_
          repeat (first | go_big_quiet_step ((go_at_call 49; exact quietE (HLs.out _))) | quiet_step ((go_at_call 49; exact quietE (HLs.out _))))
          refine wpQuiet_nil ?_
          rintro _ ⟨xq, rfl⟩
          go_wp2
          go_ret
          exact ⟨ret_bool HS.out.symm, (by (repeat (first | with_reducible exact HX1.out | with_reducible exact Ext.refl _ | with_reducible refine Ext.drew ?_ | with_reducible refine Ext.drewN ?_ _ | with_reducible refine Ext.alloc ?_ _ | with_reducible refine Ext.onto ?_ _ | (with_reducible refine Ext.setCells ?_ ?_ _ _; rotate_left; focus (first | omega | (simp; done) | (simp; omega))) | (with_reducible refine Ext.setCell ?_ ?_ _; rotate_left; focus (first | omega | (simp; done) | (simp; omega))))))⟩
        have e0 : decide (v.fr < 0) = false := by simpa using b0
        by_cases b1 : 1099511627776 < v.fr
        · have e1 : decide (1099511627776 < v.fr) = true := by simpa using b1
          go_wp2
          refine wp_world (fun W => Ext w W ∧ RowAt W wr.heap.size (verC v) ∧ Ext wr W) ⟨(by (repeat (first | with_reducible exact HX.out | with_reducible exact Ext.refl _ | with_reducible refine Ext.drew ?_ | with_reducible refine Ext.drewN ?_ _ | with_reducible refine Ext.alloc ?_ _ | with_reducible refine Ext.onto ?_ _ | (with_reducible refine Ext.setCells ?_ ?_ _ _; rotate_left; focus (first | omega | (simp; done) | (simp; omega))) | (with_reducible refine Ext.setCell ?_ ?_ _; rotate_left; focus (first | omega | (simp; done) | (simp; omega)))))), (RowAt.newAt (cs := verC noVer) (t := 38) rfl).store rfl, (by (repeat (first | with_reducible exact Ext.refl _ | with_reducible exact Ext.refl _ | with_reducible refine Ext.drew ?_ | with_reducible refine Ext.drewN ?_ _ | with_reducible refine Ext.alloc ?_ _ | with_reducible refine Ext.onto ?_ _ | (with_reducible refine Ext.setCells ?_ ?_ _ _; rotate_left; focus (first | omega | (simp; done) | (simp; omega))) | (with_reducible refine Ext.setCell ?_ ?_ _; rotate_left; focus (first | omega | (simp; done) | (simp; omega))))))⟩ ?_
          rintro W1 ⟨x1, r1, y1⟩
          have HX1 := Lib.hid x1
          have q0 : W1.cell? ⟨wr.heap.size, 0, none⟩ = some (.int .i64 v.fr) := r1.cell 0
          have q1 : W1.cell? ⟨wr.heap.size, 1, none⟩ = some (.int .i64 v.status) := r1.cell 1
          have q2 : W1.cell? ⟨wr.heap.size, 2, none⟩ = some (.string v.bytes) := r1.cell 2
          have q3 : W1.cell? ⟨wr.heap.size, 3, none⟩ = some (.string v.tags) := r1.cell 3
          have hl1 := r1.lt
          have HS : Hid (validV l = false) := Lib.hid (HNo.out (fun h => by have := h.2.1.1; omega))
          clear HSn HNo
          clear x1 r1 y1 hrow hcl
          refine wp_region_later (by kernel_rfl) (by kernel_rfl) ?_
          repeat (first | go_big_quiet_step ((go_at_call 49; exact quietE (HLs.out _))) | quiet_step ((go_at_call 49; exact quietE (HLs.out _))))
          refine wpQuiet_nil ?_
          rintro _ ⟨xq, rfl⟩
          go_wp2
          go_ret
          exact ⟨ret_bool HS.out.symm, (by (repeat (first | with_reducible exact HX1.out | with_reducible exact Ext.refl _ | with_reducible refine Ext.drew ?_ | with_reducible refine Ext.drewN ?_ _ | with_reducible refine Ext.alloc ?_ _ | with_reducible refine Ext.onto ?_ _ | (with_reducible refine Ext.setCells ?_ ?_ _ _; rotate_left; focus (first | omega | (simp; done) | (simp; omega))) | (with_reducible refine Ext.setCell ?_ ?_ _; rotate_left; focus (first | omega | (simp; done) | (simp; omega))))))⟩
        have e1 : decide (1099511627776 < v.fr) = false := by simpa using b1
        by_cases b2 : v.fr ≤ la
        · have e2 : decide (v.fr ≤ la) = true := by simpa using b2
          go_wp2
          refine wp_world (fun W => Ext w W ∧ RowAt W wr.heap.size (verC v) ∧ Ext wr W) ⟨(by (repeat (first | with_reducible exact HX.out | with_reducible exact Ext.refl _ | with_reducible refine Ext.drew ?_ | with_reducible refine Ext.drewN ?_ _ | with_reducible refine Ext.alloc ?_ _ | with_reducible refine Ext.onto ?_ _ | (with_reducible refine Ext.setCells ?_ ?_ _ _; rotate_left; focus (first | omega | (simp; done) | (simp; omega))) | (with_reducible refine Ext.setCell ?_ ?_ _; rotate_left; focus (first | omega | (simp; done) | (simp; omega)))))), (RowAt.newAt (cs := verC noVer) (t := 38) rfl).store rfl, (by (repeat (first | with_reducible exact Ext.refl _ | with_reducible exact Ext.refl _ | with_reducible refine Ext.drew ?_ | with_reducible refine Ext.drewN ?_ _ | with_reducible refine Ext.alloc ?_ _ | with_reducible refine Ext.onto ?_ _ | (with_reducible refine Ext.setCells ?_ ?_ _ _; rotate_left; focus (first | omega | (simp; done) | (simp; omega))) | (with_reducible refine Ext.setCell ?_ ?_ _; rotate_left; focus (first | omega | (simp; done) | (simp; omega))))))⟩ ?_
          rintro W1 ⟨x1, r1, y1⟩
          have HX1 := Lib.hid x1
          have q0 : W1.cell? ⟨wr.heap.size, 0, none⟩ = some (.int .i64 v.fr) := r1.cell 0
          have q1 : W1.cell? ⟨wr.heap.size, 1, none⟩ = some (.int .i64 v.status) := r1.cell 1
          have q2 : W1.cell? ⟨wr.heap.size, 2, none⟩ = some (.string v.bytes) := r1.cell 2
          have q3 : W1.cell? ⟨wr.heap.size, 3, none⟩ = some (.string v.tags) := r1.cell 3
          have hl1 := r1.lt
          have qp : W1.cell? ⟨b, off + (k - 1) * 4, none⟩ = some (.int .i64 la) := (y1.cell (p := ⟨b, off + (k - 1) * 4, none⟩) hb2).trans hcp
          clear hcp
          have HS : Hid (validV l = false) := Lib.hid (HNo.out (fun h => by have := h.1; omega))
          clear HSn HNo
          clear x1 r1 y1 hrow hcl
          refine wp_region_later (by kernel_rfl) (by kernel_rfl) ?_
          repeat (first | go_big_quiet_step ((go_at_call 49; exact quietE (HLs.out _))) | quiet_step ((go_at_call 49; exact quietE (HLs.out _))))
          refine wpQuiet_nil ?_
          rintro _ ⟨xq, rfl⟩
          go_wp2
          go_ret
          exact ⟨ret_bool HS.out.symm, (by (repeat (first | with_reducible exact HX1.out | with_reducible exact Ext.refl _ | with_reducible refine Ext.drew ?_ | with_reducible refine Ext.drewN ?_ _ | with_reducible refine Ext.alloc ?_ _ | with_reducible refine Ext.onto ?_ _ | (with_reducible refine Ext.setCells ?_ ?_ _ _; rotate_left; focus (first | omega | (simp; done) | (simp; omega))) | (with_reducible refine Ext.setCell ?_ ?_ _; rotate_left; focus (first | omega | (simp; done) | (simp; omega))))))⟩
        have e2 : decide (v.fr ≤ la) = false := by simpa using b2
        go_wp2
        refine wp_world (fun W => Ext w W ∧ RowAt W wr.heap.size (verC v) ∧ Ext wr W) ⟨(by (repeat (first | with_reducible exact HX.out | with_reducible exact Ext.refl _ | with_reducible refine Ext.drew ?_ | with_reducible refine Ext.drewN ?_ _ | with_reducible refine Ext.alloc ?_ _ | with_reducible refine Ext.onto ?_ _ | (with_reducible refine Ext.setCells ?_ ?_ _ _; rotate_left; focus (first | omega | (simp; done) | (simp; omega))) | (with_reducible refine Ext.setCell ?_ ?_ _; rotate_left; focus (first | omega | (simp; done) | (simp; omega)))))), (RowAt.newAt (cs := verC noVer) (t := 38) rfl).store rfl, (by (repeat (first | with_reducible exact Ext.refl _ | with_reducible exact Ext.refl _ | with_reducible refine Ext.drew ?_ | with_reducible refine Ext.drewN ?_ _ | with_reducible refine Ext.alloc ?_ _ | with_reducible refine Ext.onto ?_ _ | (with_reducible refine Ext.setCells ?_ ?_ _ _; rotate_left; focus (first | omega | (simp; done) | (simp; omega))) | (with_reducible refine Ext.setCell ?_ ?_ _; rotate_left; focus (first | omega | (simp; done) | (simp; omega))))))⟩ ?_
        rintro W1 ⟨x1, r1, y1⟩
        have HX1 := Lib.hid x1
        have q0 : W1.cell? ⟨wr.heap.size, 0, none⟩ = some (.int .i64 v.fr) := r1.cell 0
        have q1 : W1.cell? ⟨wr.heap.size, 1, none⟩ = some (.int .i64 v.status) := r1.cell 1
        have q2 : W1.cell? ⟨wr.heap.size, 2, none⟩ = some (.string v.bytes) := r1.cell 2
        have q3 : W1.cell? ⟨wr.heap.size, 3, none⟩ = some (.string v.tags) := r1.cell 3
        have hl1 := r1.lt
        have qp : W1.cell? ⟨b, off + (k - 1) * 4, none⟩ = some (.int .i64 la) := (y1.cell (p := ⟨b, off + (k - 1) * 4, none⟩) hb2).trans hcp
        clear hcp
        by_cases b3 : v.status < 100
        · have e3 : decide (v.status < 100) = true := by simpa using b3
          have HS : Hid (validV l = false) := Lib.hid (HNo.out (fun h => by have := h.2.1.2.1; omega))
          clear HSn HNo
          clear x1 r1 y1 hrow hcl
          refine wp_region_later (by kernel_rfl) (by kernel_rfl) ?_
          repeat (first | go_big_quiet_step ((go_at_call 49; exact quietE (HLs.out _))) | quiet_step ((go_at_call 49; exact quietE (HLs.out _))))
          refine wpQuiet_nil ?_
          rintro _ ⟨xq, rfl⟩
          go_wp2
          go_ret
          exact ⟨ret_bool HS.out.symm, (by (repeat (first | with_reducible exact HX1.out | with_reducible exact Ext.refl _ | with_reducible refine Ext.drew ?_ | with_reducible refine Ext.drewN ?_ _ | with_reducible refine Ext.alloc ?_ _ | with_reducible refine Ext.onto ?_ _ | (with_reducible refine Ext.setCells ?_ ?_ _ _; rotate_left; focus (first | omega | (simp; done) | (simp; omega))) | (with_reducible refine Ext.setCell ?_ ?_ _; rotate_left; focus (first | omega | (simp; done) | (simp; omega))))))⟩
        have e3 : decide (v.status < 100) = false := by simpa using b3
        by_cases b4 : 599 < v.status
        · have e4 : decide (599 < v.status) = true := by simpa using b4
          have HS : Hid (validV l = false) := Lib.hid (HNo.out (fun h => by have := h.2.1.2.2.1; omega))
          clear HSn HNo
          clear x1 r1 y1 hrow hcl
          refine wp_region_later (by kernel_rfl) (by kernel_rfl) ?_
          repeat (first | go_big_quiet_step ((go_at_call 49; exact quietE (HLs.out _))) | quiet_step ((go_at_call 49; exact quietE (HLs.out _))))
          refine wpQuiet_nil ?_
          rintro _ ⟨xq, rfl⟩
          go_wp2
          go_ret
          exact ⟨ret_bool HS.out.symm, (by (repeat (first | with_reducible exact HX1.out | with_reducible exact Ext.refl _ | with_reducible refine Ext.drew ?_ | with_reducible refine Ext.drewN ?_ _ | with_reducible refine Ext.alloc ?_ _ | with_reducible refine Ext.onto ?_ _ | (with_reducible refine Ext.setCells ?_ ?_ _ _; rotate_left; focus (first | omega | (simp; done) | (simp; omega))) | (with_reducible refine Ext.setCell ?_ ?_ _; rotate_left; focus (first | omega | (simp; done) | (simp; omega))))))⟩
        have e4 : decide (599 < v.status) = false := by simpa using b4
        by_cases b5 : 1099511627776 < v.bytes.size
        · have e5 : decide ((1099511627776 : Int) < (v.bytes.size : Int)) = true := by simp; omega
          have HS : Hid (validV l = false) := Lib.hid (HNo.out (fun h => by have := h.2.1.2.2.2; omega))
          clear HSn HNo
          clear x1 r1 y1 hrow hcl
          refine wp_region_later (by kernel_rfl) (by kernel_rfl) ?_
          repeat (first | go_big_quiet_step ((go_at_call 49; exact quietE (HLs.out _))) | quiet_step ((go_at_call 49; exact quietE (HLs.out _))))
          refine wpQuiet_nil ?_
          rintro _ ⟨xq, rfl⟩
          go_wp2
          go_ret
          exact ⟨ret_bool HS.out.symm, (by (repeat (first | with_reducible exact HX1.out | with_reducible exact Ext.refl _ | with_reducible refine Ext.drew ?_ | with_reducible refine Ext.drewN ?_ _ | with_reducible refine Ext.alloc ?_ _ | with_reducible refine Ext.onto ?_ _ | (with_reducible refine Ext.setCells ?_ ?_ _ _; rotate_left; focus (first | omega | (simp; done) | (simp; omega))) | (with_reducible refine Ext.setCell ?_ ?_ _; rotate_left; focus (first | omega | (simp; done) | (simp; omega))))))⟩
        have e5 : decide ((1099511627776 : Int) < (v.bytes.size : Int)) = false := by simp; omega
        cases e6 : listedB v.tags with
        | false =>
          rw [e6] at HLs
          have HS : Hid (validV l = false) := Lib.hid (HNo.out (fun h => by have h6 := h.2.2; rw [e6] at h6; cases h6))
          clear HSn HNo e6
          clear x1 r1 y1 hrow hcl
          refine wp_region_later (by kernel_rfl) (by kernel_rfl) ?_
          repeat (first | go_big_quiet_step ((go_at_call 49; exact quietE (HLs.out _))) | quiet_step ((go_at_call 49; exact quietE (HLs.out _))))
          refine wpQuiet_nil ?_
          rintro _ ⟨xq, rfl⟩
          go_wp2
          go_ret
          exact ⟨ret_bool HS.out.symm, (by (repeat (first | with_reducible exact HX1.out | with_reducible exact Ext.refl _ | with_reducible refine Ext.drew ?_ | with_reducible refine Ext.drewN ?_ _ | with_reducible refine Ext.alloc ?_ _ | with_reducible refine Ext.onto ?_ _ | (with_reducible refine Ext.setCells ?_ ?_ _ _; rotate_left; focus (first | omega | (simp; done) | (simp; omega))) | (with_reducible refine Ext.setCell ?_ ?_ _; rotate_left; focus (first | omega | (simp; done) | (simp; omega))))))⟩
        | true =>
          rw [e6] at HLs
          have HS := Lib.hid (HSn.out ⟨by omega, ⟨by omega, by omega, by omega, by omega⟩, e6⟩)
          clear HSn HNo e6
          clear x1 r1 y1 hrow hcl
          refine wp_region_later (by kernel_rfl) (by kernel_rfl) ?_
          repeat (first | go_big_quiet_step ((go_at_call 49; exact quietE (HLs.out _))) | quiet_step ((go_at_call 49; exact quietE (HLs.out _))))
          refine wpQuiet_nil ?_
          rintro _ ⟨xq, rfl⟩
          go_wp2
          go_roundw
          case rel => exact ⟨k + 1, by omega, by go_num, HS, Lib.hid (by (repeat (first | with_reducible exact HX1.out | with_reducible exact Ext.refl _ | with_reducible refine Ext.drew ?_ | with_reducible refine Ext.drewN ?_ _ | with_reducible refine Ext.alloc ?_ _ | with_reducible refine Ext.onto ?_ _ | (with_reducible refine Ext.setCells ?_ ?_ _ _; rotate_left; focus (first | omega | (simp; done) | (simp; omega))) | (with_reducible refine Ext.setCell ?_ ?_ _; rotate_left; focus (first | omega | (simp; done) | (simp; omega))))))⟩
          case measure => simp [intOf]; omega
      · have hla0 : lastOf l k = -1 := last_z (by omega)
        have hk0 : k ≤ 0 := by omega
        have d0 : decide (0 < k) = false := by simp; omega
        have d1 : decide (0 < (k : Int)) = false := by simp; omega
        generalize lastOf l k = la at *
        generalize l[k] = v at *
        by_cases b0 : v.fr < 0
        · have e0 : decide (v.fr < 0) = true := by simpa using b0
          go_wp2
          refine wp_world (fun W => Ext w W ∧ RowAt W wr.heap.size (verC v) ∧ Ext wr W) ⟨(by (repeat (first | with_reducible exact HX.out | with_reducible exact Ext.refl _ | with_reducible refine Ext.drew ?_ | with_reducible refine Ext.drewN ?_ _ | with_reducible refine Ext.alloc ?_ _ | with_reducible refine Ext.onto ?_ _ | (with_reducible refine Ext.setCells ?_ ?_ _ _; rotate_left; focus (first | omega | (simp; done) | (simp; omega))) | (with_reducible refine Ext.setCell ?_ ?_ _; rotate_left; focus (first | omega | (simp; done) | (simp; omega)))))), (RowAt.newAt (cs := verC noVer) (t := 38) rfl).store rfl, (by (repeat (first | with_reducible exact Ext.refl _ | with_reducible exact Ext.refl _ | with_reducible refine Ext.drew ?_ | with_reducible refine Ext.drewN ?_ _ | with_reducible refine Ext.alloc ?_ _ | with_reducible refine Ext.onto ?_ _ | (with_reducible refine Ext.setCells ?_ ?_ _ _; rotate_left; focus (first | omega | (simp; done) | (simp; omega))) | (with_reducible refine Ext.setCell ?_ ?_ _; rotate_left; focus (first | omega | (simp; done) | (simp; omega))))))⟩ ?_
          rintro W1 ⟨x1, r1, y1⟩
          have HX1 := Lib.hid x1
          have q0 : W1.cell? ⟨wr.heap.size, 0, none⟩ = some (.int .i64 v.fr) := r1.cell 0
          have q1 : W1.cell? ⟨wr.heap.size, 1, none⟩ = some (.int .i64 v.status) := r1.cell 1
          have q2 : W1.cell? ⟨wr.heap.size, 2, none⟩ = some (.string v.bytes) := r1.cell 2
          have q3 : W1.cell? ⟨wr.heap.size, 3, none⟩ = some (.string v.tags) := r1.cell 3
          have hl1 := r1.lt
          have HS : Hid (validV l = false) := Lib.hid (HNo.out (fun h => by have := h.1; omega))
          clear HSn HNo
          clear x1 r1 y1 hrow hcl
          refine wp_region_later (by kernel_rfl) (by kernel_rfl) ?_
          repeat (first | go_big_quiet_step ((go_at_call 49; exact quietE (HLs.out _))) | quiet_step ((go_at_call 49; exact quietE (HLs.out _))))
          refine wpQuiet_nil ?_
          rintro _ ⟨xq, rfl⟩
          go_wp2
          go_ret
          exact ⟨ret_bool HS.out.symm, (by (repeat (first | with_reducible exact HX1.out | with_reducible exact Ext.refl _ | with_reducible refine Ext.drew ?_ | with_reducible refine Ext.drewN ?_ _ | with_reducible refine Ext.alloc ?_ _ | with_reducible refine Ext.onto ?_ _ | (with_reducible refine Ext.setCells ?_ ?_ _ _; rotate_left; focus (first | omega | (simp; done) | (simp; omega))) | (with_reducible refine Ext.setCell ?_ ?_ _; rotate_left; focus (first | omega | (simp; done) | (simp; omega))))))⟩
        have e0 : decide (v.fr < 0) = false := by simpa using b0
        by_cases b1 : 1099511627776 < v.fr
        · have e1 : decide (1099511627776 < v.fr) = true := by simpa using b1
          go_wp2
          refine wp_world (fun W => Ext w W ∧ RowAt W wr.heap.size (verC v) ∧ Ext wr W) ⟨(by (repeat (first | with_reducible exact HX.out | with_reducible exact Ext.refl _ | with_reducible refine Ext.drew ?_ | with_reducible refine Ext.drewN ?_ _ | with_reducible refine Ext.alloc ?_ _ | with_reducible refine Ext.onto ?_ _ | (with_reducible refine Ext.setCells ?_ ?_ _ _; rotate_left; focus (first | omega | (simp; done) | (simp; omega))) | (with_reducible refine Ext.setCell ?_ ?_ _; rotate_left; focus (first | omega | (simp; done) | (simp; omega)))))), (RowAt.newAt (cs := verC noVer) (t := 38) rfl).store rfl, (by (repeat (first | with_reducible exact Ext.refl _ | with_reducible exact Ext.refl _ | with_reducible refine Ext.drew ?_ | with_reducible refine Ext.drewN ?_ _ | with_reducible refine Ext.alloc ?_ _ | with_reducible refine Ext.onto ?_ _ | (with_reducible refine Ext.setCells ?_ ?_ _ _; rotate_left; focus (first | omega | (simp; done) | (simp; omega))) | (with_reducible refine Ext.setCell ?_ ?_ _; rotate_left; focus (first | omega | (simp; done) | (simp; omega))))))⟩ ?_
          rintro W1 ⟨x1, r1, y1⟩
          have HX1 := Lib.hid x1
          have q0 : W1.cell? ⟨wr.heap.size, 0, none⟩ = some (.int .i64 v.fr) := r1.cell 0
          have q1 : W1.cell? ⟨wr.heap.size, 1, none⟩ = some (.int .i64 v.status) := r1.cell 1
          have q2 : W1.cell? ⟨wr.heap.size, 2, none⟩ = some (.string v.bytes) := r1.cell 2
          have q3 : W1.cell? ⟨wr.heap.size, 3, none⟩ = some (.string v.tags) := r1.cell 3
          have hl1 := r1.lt
          have HS : Hid (validV l = false) := Lib.hid (HNo.out (fun h => by have := h.2.1.1; omega))
          clear HSn HNo
          clear x1 r1 y1 hrow hcl
          refine wp_region_later (by kernel_rfl) (by kernel_rfl) ?_
          repeat (first | go_big_quiet_step ((go_at_call 49; exact quietE (HLs.out _))) | quiet_step ((go_at_call 49; exact quietE (HLs.out _))))
          refine wpQuiet_nil ?_
          rintro _ ⟨xq, rfl⟩
          go_wp2
          go_ret
          exact ⟨ret_bool HS.out.symm, (by (repeat (first | with_reducible exact HX1.out | with_reducible exact Ext.refl _ | with_reducible refine Ext.drew ?_ | with_reducible refine Ext.drewN ?_ _ | with_reducible refine Ext.alloc ?_ _ | with_reducible refine Ext.onto ?_ _ | (with_reducible refine Ext.setCells ?_ ?_ _ _; rotate_left; focus (first | omega | (simp; done) | (simp; omega))) | (with_reducible refine Ext.setCell ?_ ?_ _; rotate_left; focus (first | omega | (simp; done) | (simp; omega))))))⟩
        have e1 : decide (1099511627776 < v.fr) = false := by simpa using b1
        go_wp2
        refine wp_world (fun W => Ext w W ∧ RowAt W wr.heap.size (verC v) ∧ Ext wr W) ⟨(by (repeat (first | with_reducible exact HX.out | with_reducible exact Ext.refl _ | with_reducible refine Ext.drew ?_ | with_reducible refine Ext.drewN ?_ _ | with_reducible refine Ext.alloc ?_ _ | with_reducible refine Ext.onto ?_ _ | (with_reducible refine Ext.setCells ?_ ?_ _ _; rotate_left; focus (first | omega | (simp; done) | (simp; omega))) | (with_reducible refine Ext.setCell ?_ ?_ _; rotate_left; focus (first | omega | (simp; done) | (simp; omega)))))), (RowAt.newAt (cs := verC noVer) (t := 38) rfl).store rfl, (by (repeat (first | with_reducible exact Ext.refl _ | with_reducible exact Ext.refl _ | with_reducible refine Ext.drew ?_ | with_reducible refine Ext.drewN ?_ _ | with_reducible refine Ext.alloc ?_ _ | with_reducible refine Ext.onto ?_ _ | (with_reducible refine Ext.setCells ?_ ?_ _ _; rotate_left; focus (first | omega | (simp; done) | (simp; omega))) | (with_reducible refine Ext.setCell ?_ ?_ _; rotate_left; focus (first | omega | (simp; done) | (simp; omega))))))⟩ ?_
        rintro W1 ⟨x1, r1, y1⟩
        have HX1 := Lib.hid x1
        have q0 : W1.cell? ⟨wr.heap.size, 0, none⟩ = some (.int .i64 v.fr) := r1.cell 0
        have q1 : W1.cell? ⟨wr.heap.size, 1, none⟩ = some (.int .i64 v.status) := r1.cell 1
        have q2 : W1.cell? ⟨wr.heap.size, 2, none⟩ = some (.string v.bytes) := r1.cell 2
        have q3 : W1.cell? ⟨wr.heap.size, 3, none⟩ = some (.string v.tags) := r1.cell 3
        have hl1 := r1.lt
        by_cases b3 : v.status < 100
        · have e3 : decide (v.status < 100) = true := by simpa using b3
          have HS : Hid (validV l = false) := Lib.hid (HNo.out (fun h => by have := h.2.1.2.1; omega))
          clear HSn HNo
          clear x1 r1 y1 hrow hcl
          refine wp_region_later (by kernel_rfl) (by kernel_rfl) ?_
          repeat (first | go_big_quiet_step ((go_at_call 49; exact quietE (HLs.out _))) | quiet_step ((go_at_call 49; exact quietE (HLs.out _))))
          refine wpQuiet_nil ?_
          rintro _ ⟨xq, rfl⟩
          go_wp2
          go_ret
          exact ⟨ret_bool HS.out.symm, (by (repeat (first | with_reducible exact HX1.out | with_reducible exact Ext.refl _ | with_reducible refine Ext.drew ?_ | with_reducible refine Ext.drewN ?_ _ | with_reducible refine Ext.alloc ?_ _ | with_reducible refine Ext.onto ?_ _ | (with_reducible refine Ext.setCells ?_ ?_ _ _; rotate_left; focus (first | omega | (simp; done) | (simp; omega))) | (with_reducible refine Ext.setCell ?_ ?_ _; rotate_left; focus (first | omega | (simp; done) | (simp; omega))))))⟩
        have e3 : decide (v.status < 100) = false := by simpa using b3
        by_cases b4 : 599 < v.status
        · have e4 : decide (599 < v.status) = true := by simpa using b4
          have HS : Hid (validV l = false) := Lib.hid (HNo.out (fun h => by have := h.2.1.2.2.1; omega))
          clear HSn HNo
          clear x1 r1 y1 hrow hcl
          refine wp_region_later (by kernel_rfl) (by kernel_rfl) ?_
          repeat (first | go_big_quiet_step ((go_at_call 49; exact quietE (HLs.out _))) | quiet_step ((go_at_call 49; exact quietE (HLs.out _))))
          refine wpQuiet_nil ?_
          rintro _ ⟨xq, rfl⟩
          go_wp2
          go_ret
          exact ⟨ret_bool HS.out.symm, (by (repeat (first | with_reducible exact HX1.out | with_reducible exact Ext.refl _ | with_reducible refine Ext.drew ?_ | with_reducible refine Ext.drewN ?_ _ | with_reducible refine Ext.alloc ?_ _ | with_reducible refine Ext.onto ?_ _ | (with_reducible refine Ext.setCells ?_ ?_ _ _; rotate_left; focus (first | omega | (simp; done) | (simp; omega))) | (with_reducible refine Ext.setCell ?_ ?_ _; rotate_left; focus (first | omega | (simp; done) | (simp; omega))))))⟩
        have e4 : decide (599 < v.status) = false := by simpa using b4
        by_cases b5 : 1099511627776 < v.bytes.size
        · have e5 : decide ((1099511627776 : Int) < (v.bytes.size : Int)) = true := by simp; omega
          have HS : Hid (validV l = false) := Lib.hid (HNo.out (fun h => by have := h.2.1.2.2.2; omega))
          clear HSn HNo
          clear x1 r1 y1 hrow hcl
          refine wp_region_later (by kernel_rfl) (by kernel_rfl) ?_
          repeat (first | go_big_quiet_step ((go_at_call 49; exact quietE (HLs.out _))) | quiet_step ((go_at_call 49; exact quietE (HLs.out _))))
          refine wpQuiet_nil ?_
          rintro _ ⟨xq, rfl⟩
          go_wp2
          go_ret
          exact ⟨ret_bool HS.out.symm, (by (repeat (first | with_reducible exact HX1.out | with_reducible exact Ext.refl _ | with_reducible refine Ext.drew ?_ | with_reducible refine Ext.drewN ?_ _ | with_reducible refine Ext.alloc ?_ _ | with_reducible refine Ext.onto ?_ _ | (with_reducible refine Ext.setCells ?_ ?_ _ _; rotate_left; focus (first | omega | (simp; done) | (simp; omega))) | (with_reducible refine Ext.setCell ?_ ?_ _; rotate_left; focus (first | omega | (simp; done) | (simp; omega))))))⟩
        have e5 : decide ((1099511627776 : Int) < (v.bytes.size : Int)) = false := by simp; omega
        cases e6 : listedB v.tags with
        | false =>
          rw [e6] at HLs
          have HS : Hid (validV l = false) := Lib.hid (HNo.out (fun h => by have h6 := h.2.2; rw [e6] at h6; cases h6))
          clear HSn HNo e6
          clear x1 r1 y1 hrow hcl
          refine wp_region_later (by kernel_rfl) (by kernel_rfl) ?_
          repeat (first | go_big_quiet_step ((go_at_call 49; exact quietE (HLs.out _))) | quiet_step ((go_at_call 49; exact quietE (HLs.out _))))
          refine wpQuiet_nil ?_
          rintro _ ⟨xq, rfl⟩
          go_wp2
          go_ret
          exact ⟨ret_bool HS.out.symm, (by (repeat (first | with_reducible exact HX1.out | with_reducible exact Ext.refl _ | with_reducible refine Ext.drew ?_ | with_reducible refine Ext.drewN ?_ _ | with_reducible refine Ext.alloc ?_ _ | with_reducible refine Ext.onto ?_ _ | (with_reducible refine Ext.setCells ?_ ?_ _ _; rotate_left; focus (first | omega | (simp; done) | (simp; omega))) | (with_reducible refine Ext.setCell ?_ ?_ _; rotate_left; focus (first | omega | (simp; done) | (simp; omega))))))⟩
        | true =>
          rw [e6] at HLs
          have HS := Lib.hid (HSn.out ⟨by omega, ⟨by omega, by omega, by omega, by omega⟩, e6⟩)
          clear HSn HNo e6
          clear x1 r1 y1 hrow hcl
          refine wp_region_later (by kernel_rfl) (by kernel_rfl) ?_
          repeat (first | go_big_quiet_step ((go_at_call 49; exact quietE (HLs.out _))) | quiet_step ((go_at_call 49; exact quietE (HLs.out _))))
          refine wpQuiet_nil ?_
          rintro _ ⟨xq, rfl⟩
          go_wp2
          go_roundw
          case rel => exact ⟨k + 1, by omega, by go_num, HS, Lib.hid (by (repeat (first | with_reducible exact HX1.out | with_reducible exact Ext.refl _ | with_reducible refine Ext.drew ?_ | with_reducible refine Ext.drewN ?_ _ | with_reducible refine Ext.alloc ?_ _ | with_reducible refine Ext.onto ?_ _ | (with_reducible refine Ext.setCells ?_ ?_ _ _; rotate_left; focus (first | omega | (simp; done) | (simp; omega))) | (with_reducible refine Ext.setCell ?_ ?_ _; rotate_left; focus (first | omega | (simp; done) | (simp; omega))))))⟩
          case measure => simp [intOf]; omega
    · have e : k = l.length := by omega
      subst e
      by_cases h1000 : l.length ≤ 1000
      · have HV : Hid (validV l = true) := Lib.hid ((validV_iff l).2 ⟨HK.out, h1000⟩)
        have d1 : decide ((l.length : Int) ≤ 1000) = true := by simp; omega
        clear HK
        go_wp2
        go_ret
        exact ⟨ret_bool (by rw [HV.out]), HX.out⟩
      · have HV : Hid (validV l = false) := Lib.hid (validV_no (fun h => h1000 h.2))
        have d1 : decide ((l.length : Int) ≤ 1000) = false := by simp; omega
        clear HK
        go_wp2
        go_ret
        exact ⟨ret_bool (by rw [HV.out]), HX.out⟩
end Go.Proofs.YtpjacgcaibaggaaGreatDoor
