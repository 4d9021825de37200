/- Walks of entries: right stamps, light entries, fair rules, valid periods. -/
import Derived.Test.YthhblgjbgjceiaaGreatDoorProg
import Derived.Test.YthhblgjbgjceiaaGreatDoorExt
import Derived.WalkKit
import Derived.WalkSpells
import Derived.WalkLawsBesides
import Derived.Deep.QuietTactic
import Derived.BigQuiet
import Derived.Test.YthhblgjbgjceiaaGreatDoorEn
set_option linter.unusedVariables false
set_option linter.unusedSimpArgs false
namespace Go.Proofs.YthhblgjbgjceiaaGreatDoor
open Go.RowKit
open Go.Proofs

def rightB (s : St) : Bool :=
  decide (100 ≤ s.status) && decide (s.status ≤ 599) && decide (0 ≤ s.size) && decide (s.size ≤ 1099511627776) && decide (0 ≤ s.lo) && decide (s.lo ≤ s.hi) && decide (s.hi ≤ 1099511627776) &&
  decide (s.addr.size ≤ 4096) && decide (s.var.size ≤ 4096) && decide (s.tags.size ≤ 4096) && decide (0 ≤ s.gate) && decide (s.gate ≤ 1099511627776) && decide (0 ≤ s.serial) && decide (s.serial ≤ 1099511627776)
set_option maxHeartbeats 2000000 in
theorem rright_any (s : St) (w : World) (h1 : s.addr.size ≤ 9223372036854775807) (h2 : s.var.size ≤ 9223372036854775807) (h3 : s.tags.size ≤ 9223372036854775807) :
    Calls Tryz.prog 17 #[.agg (stmC s)] w fun e' w' => e' = .returned (.bool (rightB s)) ∧ Ext w w' := by
  go_enter Tryz.func17, Tryz.ntmps17
  go_wp2
  all_goals
    go_ret
    refine ⟨ret_bool ?_, (by (repeat (first | with_reducible exact Ext.refl _ | with_reducible exact Ext.refl _ | with_reducible refine Ext.drew ?_ | with_reducible refine Ext.drewN ?_ _ | with_reducible refine Ext.alloc ?_ _ | with_reducible refine Ext.onto ?_ _ | (with_reducible refine Ext.setCells ?_ ?_ _ _; rotate_left; focus (first | omega | (simp; done) | (simp; omega))) | (with_reducible refine Ext.setCell ?_ ?_ _; rotate_left; focus (first | omega | (simp; done) | (simp; omega))))))⟩
    simp_all [rightB]
    try omega
def lightB (e : En) (n : Nat) : Bool :=
  decide (e.st.size ≤ 2000) && decide (e.bytes.size ≤ 2000) && decide (n ≤ 40) && decide (e.st.addr.size ≤ 500) && decide (e.st.var.size ≤ 500) && decide (e.st.tags.size ≤ 500)
set_option maxHeartbeats 2000000 in
theorem light_any (e : En) (A : Option Addr) (n c : Nat) (w : World) (hv : e.hv = .slice A n c) (h0 : e.bytes.size ≤ 9223372036854775807) (hn : n ≤ 9223372036854775807) (h1 : e.st.addr.size ≤ 9223372036854775807) (h2 : e.st.var.size ≤ 9223372036854775807) (h3 : e.st.tags.size ≤ 9223372036854775807) :
    Calls Tryz.prog 45 #[.agg (entC e)] w fun e' w' => e' = .returned (.bool (lightB e n)) ∧ Ext w w' := by
  go_enter Tryz.func45, Tryz.ntmps45
  go_wp2
  all_goals
    go_ret
    refine ⟨ret_bool ?_, (by (repeat (first | with_reducible exact Ext.refl _ | with_reducible exact Ext.refl _ | with_reducible refine Ext.drew ?_ | with_reducible refine Ext.drewN ?_ _ | with_reducible refine Ext.alloc ?_ _ | with_reducible refine Ext.onto ?_ _ | (with_reducible refine Ext.setCells ?_ ?_ _ _; rotate_left; focus (first | omega | (simp; done) | (simp; omega))) | (with_reducible refine Ext.setCell ?_ ?_ _; rotate_left; focus (first | omega | (simp; done) | (simp; omega))))))⟩
    rw [Bool.eq_iff_iff]
    simp only [lightB, Bool.and_eq_true, decide_eq_true_eq, Bool.false_eq_true, false_iff]
    omega
def fairB (r : Ru) : Bool :=
  decide (0 ≤ r.fresh) && decide (r.fresh ≤ 1099511627776) && decide (0 ≤ r.stale) && decide (r.stale ≤ 1099511627776) && decide (0 ≤ r.down) && decide (r.down ≤ 1099511627776) && decide (0 ≤ r.neg) && decide (r.neg ≤ 1099511627776)
theorem fairB_R {r : Ru} (h : fairB r = true) : RuR r := by
  simp [fairB] at h
  obtain ⟨⟨⟨⟨⟨⟨⟨a, b⟩, c⟩, d⟩, e⟩, f⟩, g⟩, i⟩ := h
  exact ⟨a, b, c, d, e, f, g, i⟩
def instB (t : Int) : Bool := decide (0 ≤ t) && decide (t ≤ 1099511627776)
def perB (lo hi : Int) : Bool := instB lo && instB hi && decide (lo ≤ hi)
theorem perB_iff {lo hi : Int} : perB lo hi = true ↔ 0 ≤ lo ∧ lo ≤ hi ∧ hi ≤ 1099511627776 := by
  simp [perB, instB]
  omega
end Go.Proofs.YthhblgjbgjceiaaGreatDoor
