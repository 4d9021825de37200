/- Walks of the specification's sets of bytes: what a set has, what is empty, good. -/
import Derived.Test.YtpjacgcaibaggaaGreatDoorProg
import Derived.Test.YtpjacgcaibaggaaGreatDoorExt
import Derived.WalkKit
import Derived.WalkSpells
import Derived.WalkLawsBesides
import Derived.Deep.QuietTactic
import Derived.BigQuiet
import Derived.Test.YtpjacgcaibaggaaGreatDoorSpd
set_option linter.unusedVariables false
set_option linter.unusedSimpArgs false
namespace Go.Proofs.YtpjacgcaibaggaaGreatDoor
open Go.RowKit
open Go.Proofs
open Go.Proofs.Sp (Sp)

def inB (s : Sp) (x : Int) : Bool := decide (s.1 ≤ x) && decide (x < s.2)
def hasB (l : List Sp) (x : Int) : Bool := l.any (inB · x)
theorem hasB_iff {l : List Sp} {x : Int} : hasB l x = true ↔ Sp.mem l x := by
  simp [hasB, inB, Sp.mem]
theorem any_take_snoc (f : Sp → Bool) (l : List Sp) (k : Nat) (h : k < l.length) : (l.take (k + 1)).any f = ((l.take k).any f || f l[k]) := by
  rw [List.take_succ_eq_append_getElem h, List.any_append, List.any_cons, List.any_nil, Bool.or_false]
theorem any_of_get {f : Sp → Bool} {l : List Sp} {k : Nat} (h : k < l.length) (hf : f l[k] = true) : l.any f = true := List.any_eq_true.2 ⟨l[k], List.getElem_mem h, hf⟩
def emptyB (s : Sp) : Bool := decide (s.2 ≤ s.1)
def goodB (s : Sp) : Bool := emptyB s || (decide (0 ≤ s.1) && decide (s.2 ≤ 1099511627776))
theorem rempty_any (s : Sp) (w : World) : Calls Tryz.prog 70 #[.agg #[.int .i64 s.1, .int .i64 s.2]] w fun e' w' => e' = .returned (.bool (emptyB s)) ∧ Ext w w' := by
  go_enter Tryz.func70, Tryz.ntmps70
  go_wp2
  go_ret
  exact ⟨rfl, (by (repeat (first | with_reducible exact Ext.refl _ | with_reducible exact Ext.refl _ | with_reducible refine Ext.drew ?_ | with_reducible refine Ext.drewN ?_ _ | with_reducible refine Ext.alloc ?_ _ | with_reducible refine Ext.onto ?_ _ | (with_reducible refine Ext.setCells ?_ ?_ _ _; rotate_left; focus (first | omega | (simp; done) | (simp; omega))) | (with_reducible refine Ext.setCell ?_ ?_ _; rotate_left; focus (first | omega | (simp; done) | (simp; omega))))))⟩
/-- All bytes are there. -/
def fullB (l : List Sp) (n : Int) : Bool := (List.range n.toNat).all fun k => hasB l k
theorem fullB_iff {l : List Sp} {n : Int} : fullB l n = true ↔ ∀ x : Int, 0 ≤ x → x < n → Sp.mem l x := by
  simp only [fullB, List.all_eq_true, List.mem_range, hasB_iff]
  constructor
  · intro h x h0 h1
    have := h x.toNat (by omega)
    rwa [Int.toNat_of_nonneg h0] at this
  · intro h k hk
    exact h k (by omega) (by omega)
theorem full_no {l : List Sp} {n : Int} {k : Nat} (hk : (k : Int) < n) (h : hasB l k = false) : fullB l n = false := by
  cases hf : fullB l n with
  | false => rfl
  | true =>
    have := (List.all_eq_true.1 hf) k (List.mem_range.2 (by omega))
    rw [h] at this
    cases this
theorem full_yes {l : List Sp} {n : Int} (h : ∀ j : Nat, (j : Int) < n → hasB l j = true) : fullB l n = true := List.all_eq_true.2 (fun j hj => h j (by have := List.mem_range.1 hj; omega))
end Go.Proofs.YtpjacgcaibaggaaGreatDoor
