/- What comes in with an entry. -/
import Derived.Test.YthhblgjbgjceiaaGreatDoorProg
import Derived.Test.YthhblgjbgjceiaaGreatDoorExt
import Derived.WalkKit
import Derived.WalkSpells
import Derived.WalkLawsBesides
import Derived.Deep.QuietTactic
import Derived.BigQuiet
import Derived.Test.YthhblgjbgjceiaaGreatDoorEv
import Derived.Test.YthhblgjbgjceiaaGreatDoorOj
set_option linter.unusedVariables false
set_option linter.unusedSimpArgs false
namespace Go.Proofs.YthhblgjbgjceiaaGreatDoor
open Go.RowKit
open Go.Proofs
open Go.Proofs.Sp (Sp)

def fineB (e : En) (l : List Sp) : Bool := lightB e l.length && validB e l
set_option maxHeartbeats 1000000 in
theorem fine_any (e : En) (A : Option Addr) (c : Nat) (l : List Sp) (w : World) (hv : e.hv = .slice A l.length c) (hl : l.length ≤ 9223372036854775807) (h1 : e.st.addr.size ≤ 9223372036854775807) (h2 : e.st.var.size ≤ 9223372036854775807) (h3 : e.st.tags.size ≤ 9223372036854775807) (h4 : e.bytes.size ≤ 9223372036854775807)
    (hb : e.st.body.length = 16) (hby : Byt e.st.body) (hk : RKonst w) (hr : ReadsSp w w.heap.size A l) :
    Calls Tryz.prog 9 #[.agg (entC e)] w fun e' w' => e' = .returned (.bool (fineB e l)) ∧ Ext w w' := by
  have HR := Lib.hid hr
  have HK := Lib.hid hk
  have HB := Lib.hid hb
  have HBy := Lib.hid hby
  have HV := Lib.hid hv
  clear hr hk hb hby hv
  cases hli : lightB e l.length with
  | false =>
    have HL := Lib.hid hli
    have HF : Hid (fineB e l = false) := Lib.hid (by rw [fineB, hli, Bool.false_and])
    clear hli
    go_enter Tryz.func9, Tryz.ntmps9
    go_wp2_with (go_at_call 45; refine (light_any e A l.length c _ HV.out (by omega) (by omega) h1 h2 h3).mono ?_; rw [HL.out]; rintro e w' ⟨rfl, hxl⟩; obtain ⟨xl, rfl⟩ := hxl.asLater; clear hxl)
    go_ret
    exact ⟨ret_bool (by rw [HF.out]), (by (repeat (first | with_reducible exact Ext.refl _ | with_reducible exact Ext.refl _ | with_reducible refine Ext.drew ?_ | with_reducible refine Ext.drewN ?_ _ | with_reducible refine Ext.alloc ?_ _ | with_reducible refine Ext.onto ?_ _ | (with_reducible refine Ext.setCells ?_ ?_ _ _; rotate_left; focus (first | omega | (simp; done) | (simp; omega))) | (with_reducible refine Ext.setCell ?_ ?_ _; rotate_left; focus (first | omega | (simp; done) | (simp; omega))))))⟩
  | true =>
    have HL := Lib.hid hli
    have HF : Hid (fineB e l = validB e l) := Lib.hid (by rw [fineB, hli, Bool.true_and])
    have h5 : e.bytes.size ≤ 2000 := by
      simp only [lightB, Bool.and_eq_true, decide_eq_true_eq] at hli
      omega
    have h6 : l.length ≤ 140737488355328 := by
      simp only [lightB, Bool.and_eq_true, decide_eq_true_eq] at hli
      omega
    clear hli
    go_enter Tryz.func9, Tryz.ntmps9
    go_wp2_with (first
      | (go_at_call 45; refine (light_any e A l.length c _ HV.out (by omega) (by omega) h1 h2 h3).mono ?_; rw [HL.out]; rintro e w' ⟨rfl, hxl⟩; obtain ⟨xl, rfl⟩ := hxl.asLater; clear hxl)
      | (go_at_call 14; refine (rvalidE_any e A c l _ HV.out h6 h1 h2 h3 (by omega) HB.out HBy.out (RowAt.ext HK.out (by (repeat (first | with_reducible exact Ext.refl _ | with_reducible exact Ext.refl _ | with_reducible refine Ext.drew ?_ | with_reducible refine Ext.drewN ?_ _ | with_reducible refine Ext.alloc ?_ _ | with_reducible refine Ext.onto ?_ _ | (with_reducible refine Ext.setCells ?_ ?_ _ _; rotate_left; focus (first | omega | (simp; done) | (simp; omega))) | (with_reducible refine Ext.setCell ?_ ?_ _; rotate_left; focus (first | omega | (simp; done) | (simp; omega))))))) (HR.out.on (by (repeat (first | with_reducible exact Ext.refl _ | with_reducible exact Ext.refl _ | with_reducible refine Ext.drew ?_ | with_reducible refine Ext.drewN ?_ _ | with_reducible refine Ext.alloc ?_ _ | with_reducible refine Ext.onto ?_ _ | (with_reducible refine Ext.setCells ?_ ?_ _ _; rotate_left; focus (first | omega | (simp; done) | (simp; omega))) | (with_reducible refine Ext.setCell ?_ ?_ _; rotate_left; focus (first | omega | (simp; done) | (simp; omega)))))))).mono ?_; rintro e w' ⟨rfl, hxl⟩; obtain ⟨xl, rfl⟩ := hxl.asLater; clear hxl))
    go_ret
    exact ⟨ret_bool (by rw [HF.out]), (by (repeat (first | with_reducible exact Ext.refl _ | with_reducible exact Ext.refl _ | with_reducible refine Ext.drew ?_ | with_reducible refine Ext.drewN ?_ _ | with_reducible refine Ext.alloc ?_ _ | with_reducible refine Ext.onto ?_ _ | (with_reducible refine Ext.setCells ?_ ?_ _ _; rotate_left; focus (first | omega | (simp; done) | (simp; omega))) | (with_reducible refine Ext.setCell ?_ ?_ _; rotate_left; focus (first | omega | (simp; done) | (simp; omega))))))⟩
end Go.Proofs.YthhblgjbgjceiaaGreatDoor

namespace Go.Proofs.YthhblgjbgjceiaaGreatDoor
open Go.RowKit Go.Shelf
open Go.Proofs
open Go.Proofs.Sp (Sp)

/-- What comes in with an entry. -/
structure EntIn (e : En) (A : Option Addr) (c : Nat) (l : List Sp) (w : World) : Prop where
  hv : e.hv = .slice A l.length c
  hl : l.length ≤ 9223372036854775807
  h1 : e.st.addr.size ≤ 9223372036854775807
  h2 : e.st.var.size ≤ 9223372036854775807
  h3 : e.st.tags.size ≤ 9223372036854775807
  h4 : e.bytes.size ≤ 9223372036854775807
  hb : e.st.body.length = 16
  hby : Byt e.st.body
  hA : plainA A
  hr : ReadsSp w w.heap.size A l
  z : A = none → c = 0
  hs : e.st.seal_.length = 16
theorem fineB_bd {e : En} {l : List Sp} (h : fineB e l = true) : l.length ≤ 40 ∧ 0 ≤ e.st.lo ∧ e.st.lo ≤ e.st.hi ∧ e.st.hi ≤ 1099511627776 := by
  simp only [fineB, lightB, validB, rightB, Bool.and_eq_true, decide_eq_true_eq] at h
  omega
theorem ru_all (r : Ru) (h : (ruC r).size = 18) : rowSub (ruC r) 0 18 = some (ruC r) := rowSub_all _ _ h.symm
end Go.Proofs.YthhblgjbgjceiaaGreatDoor
