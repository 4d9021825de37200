/- Walks of the specification's sets of bytes: what a set has, what is empty, good. -/
import Derived.Test.YthhblgjbgjceiaaGreatDoorProg
import Derived.Test.YthhblgjbgjceiaaGreatDoorExt
import Derived.WalkKit
import Derived.WalkSpells
import Derived.WalkLawsBesides
import Derived.Deep.QuietTactic
import Derived.BigQuiet
import Derived.Test.YthhblgjbgjceiaaGreatDoorSpd
set_option linter.unusedVariables false
set_option linter.unusedSimpArgs false
namespace Go.Proofs.YthhblgjbgjceiaaGreatDoor
open Go.RowKit
open Go.Proofs
open Go.Proofs.Sp (Sp)

def inB (s : Sp) (x : Int) : Bool := decide (s.1 ≤ x) && decide (x < s.2)
def hasB (l : List Sp) (x : Int) : Bool := l.any (inB · x)
theorem hasB_iff {l : List Sp} {x : Int} : hasB l x = true ↔ Sp.mem l x := by
  simp [hasB, inB, Sp.mem]
theorem rin_any (s : Sp) (x : Int) (w : World) : Calls Tryz.prog 80 #[.agg #[.int .i64 s.1, .int .i64 s.2], .int .i64 x] w fun e' w' => e' = .returned (.bool (inB s x)) ∧ Ext w w' := by
  go_enter Tryz.func80, Tryz.ntmps80
  go_wp2
  all_goals
    go_ret
    refine ⟨ret_bool ?_, (by (repeat (first | with_reducible exact Ext.refl _ | with_reducible exact Ext.refl _ | with_reducible refine Ext.drew ?_ | with_reducible refine Ext.drewN ?_ _ | with_reducible refine Ext.alloc ?_ _ | with_reducible refine Ext.onto ?_ _ | (with_reducible refine Ext.setCells ?_ ?_ _ _; rotate_left; focus (first | omega | (simp; done) | (simp; omega))) | (with_reducible refine Ext.setCell ?_ ?_ _; rotate_left; focus (first | omega | (simp; done) | (simp; omega))))))⟩
    rw [Bool.eq_iff_iff]
    simp only [inB, Bool.and_eq_true, decide_eq_true_eq, Bool.false_eq_true, false_iff]
    omega
theorem any_take_snoc (f : Sp → Bool) (l : List Sp) (k : Nat) (h : k < l.length) : (l.take (k + 1)).any f = ((l.take k).any f || f l[k]) := by
  rw [List.take_succ_eq_append_getElem h, List.any_append, List.any_cons, List.any_nil, Bool.or_false]
theorem any_of_get {f : Sp → Bool} {l : List Sp} {k : Nat} (h : k < l.length) (hf : f l[k] = true) : l.any f = true := List.any_eq_true.2 ⟨l[k], List.getElem_mem h, hf⟩
set_option maxHeartbeats 1000000 in
theorem rhas_any (A : Option Addr) (c : Nat) (l : List Sp) (x : Int) (w : World) (hl : l.length ≤ 140737488355328) (hr : ReadsSp w w.heap.size A l) :
    Calls Tryz.prog 44 #[.slice A l.length c, .int .i64 x] w fun e' w' => e' = .returned (.bool (hasB l x)) ∧ Ext w w' := by
  have HR := Lib.hid hr
  clear hr
  go_enter Tryz.func44, Tryz.ntmps44
  go_wp2
  go_loopw [5] (fun i wr => ∃ k : Nat, k ≤ l.length ∧ i = .int .i64 k ∧ Ext w wr ∧ Hid ((l.take k).any (inB · x) = false)) (fun i _ => l.length - (intOf i).toNat)
  case atStart => exact ⟨0, Nat.zero_le _, rfl, Ext.refl _, Lib.hid rfl⟩
  case round =>
    obtain ⟨k, hk, rfl, hx, HN⟩ := hrel
    have HX := Lib.hid hx
    by_cases hlt : k < l.length
    · obtain ⟨b, off, rfl, hb, c1, c2⟩ := ReadsSp.cell (HR.out.ext hx (Nat.le_refl _)) k hlt
      have HS := Lib.hid (any_take_snoc (inB · x) l k hlt)
      cases hf : inB l[k] x with
      | true =>
        have HF : Hid (hasB l x = true) := Lib.hid (any_of_get (f := (inB · x)) hlt hf)
        have hfi := Lib.hid hf
        generalize l[k] = s at *
        clear hx hf
        go_wp2_with (go_at_call 80; refine (rin_any s x _).mono ?_; rw [hfi.out]; rintro e w' ⟨rfl, hxl⟩; obtain ⟨xl, rfl⟩ := hxl.asLater; clear hxl)
        go_ret
        exact ⟨ret_bool (by rw [HF.out]), (by (repeat (first | with_reducible exact HX.out | with_reducible exact Ext.refl _ | with_reducible refine Ext.drew ?_ | with_reducible refine Ext.drewN ?_ _ | with_reducible refine Ext.alloc ?_ _ | with_reducible refine Ext.onto ?_ _ | (with_reducible refine Ext.setCells ?_ ?_ _ _; rotate_left; focus (first | omega | (simp; done) | (simp; omega))) | (with_reducible refine Ext.setCell ?_ ?_ _; rotate_left; focus (first | omega | (simp; done) | (simp; omega))))))⟩
      | false =>
        have hfi := Lib.hid hf
        rw [HN.out, hf] at HS
        generalize l[k] = s at *
        clear hx hf
        go_wp2_with (go_at_call 80; refine (rin_any s x _).mono ?_; rw [hfi.out]; rintro e w' ⟨rfl, hxl⟩; obtain ⟨xl, rfl⟩ := hxl.asLater; clear hxl)
        go_roundw
        case rel => exact ⟨k + 1, by omega, by go_num, (by (repeat (first | with_reducible exact HX.out | with_reducible exact Ext.refl _ | with_reducible refine Ext.drew ?_ | with_reducible refine Ext.drewN ?_ _ | with_reducible refine Ext.alloc ?_ _ | with_reducible refine Ext.onto ?_ _ | (with_reducible refine Ext.setCells ?_ ?_ _ _; rotate_left; focus (first | omega | (simp; done) | (simp; omega))) | (with_reducible refine Ext.setCell ?_ ?_ _; rotate_left; focus (first | omega | (simp; done) | (simp; omega)))))), HS⟩
        case measure => simp [intOf]; omega
    · have e : k = l.length := by omega
      subst e
      rw [List.take_length] at HN
      clear hx
      go_wp2
      go_ret
      exact ⟨ret_bool (by rw [hasB, HN.out]), HX.out⟩
def emptyB (s : Sp) : Bool := decide (s.2 ≤ s.1)
def goodB (s : Sp) : Bool := emptyB s || (decide (0 ≤ s.1) && decide (s.2 ≤ 1099511627776))
theorem rempty_any (s : Sp) (w : World) : Calls Tryz.prog 62 #[.agg #[.int .i64 s.1, .int .i64 s.2]] w fun e' w' => e' = .returned (.bool (emptyB s)) ∧ Ext w w' := by
  go_enter Tryz.func62, Tryz.ntmps62
  go_wp2
  go_ret
  exact ⟨rfl, (by (repeat (first | with_reducible exact Ext.refl _ | with_reducible exact Ext.refl _ | with_reducible refine Ext.drew ?_ | with_reducible refine Ext.drewN ?_ _ | with_reducible refine Ext.alloc ?_ _ | with_reducible refine Ext.onto ?_ _ | (with_reducible refine Ext.setCells ?_ ?_ _ _; rotate_left; focus (first | omega | (simp; done) | (simp; omega))) | (with_reducible refine Ext.setCell ?_ ?_ _; rotate_left; focus (first | omega | (simp; done) | (simp; omega))))))⟩
theorem rgood_any (s : Sp) (w : World) : Calls Tryz.prog 30 #[.agg #[.int .i64 s.1, .int .i64 s.2]] w fun e' w' => e' = .returned (.bool (goodB s)) ∧ Ext w w' := by
  cases h : emptyB s with
  | true =>
    have H := Lib.hid h
    have HG : Hid (goodB s = true) := Lib.hid (by simp [goodB, h])
    clear h
    go_enter Tryz.func30, Tryz.ntmps30
    go_wp2_with (go_at_call 62; refine (rempty_any s _).mono ?_; rw [H.out]; rintro e w' ⟨rfl, hxl⟩; obtain ⟨xl, rfl⟩ := hxl.asLater; clear hxl)
    go_ret
    exact ⟨ret_bool (by rw [HG.out]), (by (repeat (first | with_reducible exact Ext.refl _ | with_reducible exact Ext.refl _ | with_reducible refine Ext.drew ?_ | with_reducible refine Ext.drewN ?_ _ | with_reducible refine Ext.alloc ?_ _ | with_reducible refine Ext.onto ?_ _ | (with_reducible refine Ext.setCells ?_ ?_ _ _; rotate_left; focus (first | omega | (simp; done) | (simp; omega))) | (with_reducible refine Ext.setCell ?_ ?_ _; rotate_left; focus (first | omega | (simp; done) | (simp; omega))))))⟩
  | false =>
    have H := Lib.hid h
    have HG : Hid (goodB s = (decide (0 ≤ s.1) && decide (s.2 ≤ 1099511627776))) := Lib.hid (by simp [goodB, h])
    clear h
    go_enter Tryz.func30, Tryz.ntmps30
    go_wp2_with (go_at_call 62; refine (rempty_any s _).mono ?_; rw [H.out]; rintro e w' ⟨rfl, hxl⟩; obtain ⟨xl, rfl⟩ := hxl.asLater; clear hxl)
    all_goals
      go_ret
      refine ⟨ret_bool ?_, (by (repeat (first | with_reducible exact Ext.refl _ | with_reducible exact Ext.refl _ | with_reducible refine Ext.drew ?_ | with_reducible refine Ext.drewN ?_ _ | with_reducible refine Ext.alloc ?_ _ | with_reducible refine Ext.onto ?_ _ | (with_reducible refine Ext.setCells ?_ ?_ _ _; rotate_left; focus (first | omega | (simp; done) | (simp; omega))) | (with_reducible refine Ext.setCell ?_ ?_ _; rotate_left; focus (first | omega | (simp; done) | (simp; omega))))))⟩
      rw [HG.out, Bool.eq_iff_iff]
      simp only [Bool.and_eq_true, decide_eq_true_eq, Bool.false_eq_true, false_iff]
      omega

/-- All bytes are there. -/
def fullB (l : List Sp) (n : Int) : Bool := (List.range n.toNat).all fun k => hasB l k
theorem fullB_iff {l : List Sp} {n : Int} : fullB l n = true ↔ ∀ x : Int, 0 ≤ x → x < n → Sp.mem l x := by
  simp only [fullB, List.all_eq_true, List.mem_range, hasB_iff]
  constructor
  · intro h x h0 h1
    have := h x.toNat (by omega)
    rwa [Int.toNat_of_nonneg h0] at this
  · intro h k hk
    exact h k (by omega) (by omega)
theorem full_no {l : List Sp} {n : Int} {k : Nat} (hk : (k : Int) < n) (h : hasB l k = false) : fullB l n = false := by
  cases hf : fullB l n with
  | false => rfl
  | true =>
    have := (List.all_eq_true.1 hf) k (List.mem_range.2 (by omega))
    rw [h] at this
    cases this
theorem full_yes {l : List Sp} {n : Int} (h : ∀ j : Nat, (j : Int) < n → hasB l j = true) : fullB l n = true := List.all_eq_true.2 (fun j hj => h j (by have := List.mem_range.1 hj; omega))
end Go.Proofs.YthhblgjbgjceiaaGreatDoor
