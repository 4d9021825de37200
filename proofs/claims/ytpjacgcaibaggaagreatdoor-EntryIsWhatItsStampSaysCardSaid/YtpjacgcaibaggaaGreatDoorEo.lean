/- Walks of entries: right stamps, light entries, fair rules, valid periods. -/
import Derived.Test.YtpjacgcaibaggaaGreatDoorProg
import Derived.Test.YtpjacgcaibaggaaGreatDoorExt
import Derived.WalkKit
import Derived.WalkSpells
import Derived.WalkLawsBesides
import Derived.Deep.QuietTactic
import Derived.BigQuiet
import Derived.Test.YtpjacgcaibaggaaGreatDoorEn
set_option linter.unusedVariables false
set_option linter.unusedSimpArgs false
namespace Go.Proofs.YtpjacgcaibaggaaGreatDoor
open Go.RowKit
open Go.Proofs

def rightB (s : St) : Bool :=
  decide (100 ≤ s.status) && decide (s.status ≤ 599) && decide (0 ≤ s.size) && decide (s.size ≤ 1099511627776) && decide (0 ≤ s.lo) && decide (s.lo ≤ s.hi) && decide (s.hi ≤ 1099511627776) &&
  decide (s.addr.size ≤ 4096) && decide (s.var.size ≤ 4096) && decide (s.tags.size ≤ 4096) && decide (0 ≤ s.gate) && decide (s.gate ≤ 1099511627776) && decide (0 ≤ s.serial) && decide (s.serial ≤ 1099511627776)
set_option maxHeartbeats 2000000 in
theorem rright_any (s : St) (w : World) (h1 : s.addr.size ≤ 9223372036854775807) (h2 : s.var.size ≤ 9223372036854775807) (h3 : s.tags.size ≤ 9223372036854775807) :
    Calls Tryz.prog 25 #[.agg (stmC s)] w fun e' w' => e' = .returned (.bool (rightB s)) ∧ Ext w w' := by
  go_enter Tryz.func25, Tryz.ntmps25
  go_wp2
  all_goals
    go_ret
    refine ⟨ret_bool ?_, (by (repeat (first | with_reducible exact Ext.refl _ | with_reducible exact Ext.refl _ | with_reducible refine Ext.drew ?_ | with_reducible refine Ext.drewN ?_ _ | with_reducible refine Ext.alloc ?_ _ | with_reducible refine Ext.onto ?_ _ | (with_reducible refine Ext.setCells ?_ ?_ _ _; rotate_left; focus (first | omega | (simp; done) | (simp; omega))) | (with_reducible refine Ext.setCell ?_ ?_ _; rotate_left; focus (first | omega | (simp; done) | (simp; omega))))))⟩
    simp_all [rightB]
    try omega
def lightB (e : En) (n : Nat) : Bool :=
  decide (e.st.size ≤ 2000) && decide (e.bytes.size ≤ 2000) && decide (n ≤ 40) && decide (e.st.addr.size ≤ 500) && decide (e.st.var.size ≤ 500) && decide (e.st.tags.size ≤ 500)
def fairB (r : Ru) : Bool :=
  decide (0 ≤ r.fresh) && decide (r.fresh ≤ 1099511627776) && decide (0 ≤ r.stale) && decide (r.stale ≤ 1099511627776) && decide (0 ≤ r.down) && decide (r.down ≤ 1099511627776) && decide (0 ≤ r.neg) && decide (r.neg ≤ 1099511627776)
theorem fairB_R {r : Ru} (h : fairB r = true) : RuR r := by
  simp [fairB] at h
  obtain ⟨⟨⟨⟨⟨⟨⟨a, b⟩, c⟩, d⟩, e⟩, f⟩, g⟩, i⟩ := h
  exact ⟨a, b, c, d, e, f, g, i⟩
def instB (t : Int) : Bool := decide (0 ≤ t) && decide (t ≤ 1099511627776)
theorem rinst_any (t : Int) (w : World) : Calls Tryz.prog 50 #[.int .i64 t] w fun e' w' => e' = .returned (.bool (instB t)) ∧ w = w' := by
  go_enter Tryz.func50, Tryz.ntmps50
  go_wp2
  all_goals
    go_ret
    refine ⟨ret_bool ?_, rfl⟩
    simp_all [instB]
    try omega
def perB (lo hi : Int) : Bool := instB lo && instB hi && decide (lo ≤ hi)
theorem perB_iff {lo hi : Int} : perB lo hi = true ↔ 0 ≤ lo ∧ lo ≤ hi ∧ hi ≤ 1099511627776 := by
  simp [perB, instB]
  omega
theorem rper_any (lo hi : Int) (w : World) : Calls Tryz.prog 52 #[.agg #[.int .i64 lo, .int .i64 hi]] w fun e' w' => e' = .returned (.bool (perB lo hi)) ∧ Ext w w' := by
  cases h1 : instB lo with
  | false =>
    have H1 := Lib.hid h1
    have HP : Hid (perB lo hi = false) := Lib.hid (by simp [perB, h1])
    clear h1
    go_enter Tryz.func52, Tryz.ntmps52
    go_wp2_with (go_at_call 50; refine (rinst_any lo _).mono ?_; rintro e w' ⟨rfl, rfl⟩; rw [H1.out])
    go_ret
    exact ⟨ret_bool (by rw [HP.out]), (by (repeat (first | with_reducible exact Ext.refl _ | with_reducible exact Ext.refl _ | with_reducible refine Ext.drew ?_ | with_reducible refine Ext.drewN ?_ _ | with_reducible refine Ext.alloc ?_ _ | with_reducible refine Ext.onto ?_ _ | (with_reducible refine Ext.setCells ?_ ?_ _ _; rotate_left; focus (first | omega | (simp; done) | (simp; omega))) | (with_reducible refine Ext.setCell ?_ ?_ _; rotate_left; focus (first | omega | (simp; done) | (simp; omega))))))⟩
  | true =>
    cases h2 : instB hi with
    | false =>
      have H1 := Lib.hid h1
      have H2 := Lib.hid h2
      have HP : Hid (perB lo hi = false) := Lib.hid (by simp [perB, h2])
      clear h1 h2
      go_enter Tryz.func52, Tryz.ntmps52
      go_wp2_with (go_at_call 50; first | ((with_reducible refine (rinst_any lo _).mono ?_); rintro e w' ⟨rfl, rfl⟩; rw [H1.out]) | ((with_reducible refine (rinst_any hi _).mono ?_); rintro e w' ⟨rfl, rfl⟩; rw [H2.out]))
      go_ret
      exact ⟨ret_bool (by rw [HP.out]), (by (repeat (first | with_reducible exact Ext.refl _ | with_reducible exact Ext.refl _ | with_reducible refine Ext.drew ?_ | with_reducible refine Ext.drewN ?_ _ | with_reducible refine Ext.alloc ?_ _ | with_reducible refine Ext.onto ?_ _ | (with_reducible refine Ext.setCells ?_ ?_ _ _; rotate_left; focus (first | omega | (simp; done) | (simp; omega))) | (with_reducible refine Ext.setCell ?_ ?_ _; rotate_left; focus (first | omega | (simp; done) | (simp; omega))))))⟩
    | true =>
      have H1 := Lib.hid h1
      have H2 := Lib.hid h2
      have HP : Hid (perB lo hi = decide (lo ≤ hi)) := Lib.hid (by simp [perB, h1, h2])
      clear h1 h2
      go_enter Tryz.func52, Tryz.ntmps52
      go_wp2_with (go_at_call 50; first | ((with_reducible refine (rinst_any lo _).mono ?_); rintro e w' ⟨rfl, rfl⟩; rw [H1.out]) | ((with_reducible refine (rinst_any hi _).mono ?_); rintro e w' ⟨rfl, rfl⟩; rw [H2.out]))
      go_ret
      exact ⟨ret_bool (by rw [HP.out]), (by (repeat (first | with_reducible exact Ext.refl _ | with_reducible exact Ext.refl _ | with_reducible refine Ext.drew ?_ | with_reducible refine Ext.drewN ?_ _ | with_reducible refine Ext.alloc ?_ _ | with_reducible refine Ext.onto ?_ _ | (with_reducible refine Ext.setCells ?_ ?_ _ _; rotate_left; focus (first | omega | (simp; done) | (simp; omega))) | (with_reducible refine Ext.setCell ?_ ?_ _; rotate_left; focus (first | omega | (simp; done) | (simp; omega))))))⟩
theorem rrt_any (lo hi : Int) (w : World) : Calls Tryz.prog 21 #[.agg #[.int .i64 lo, .int .i64 hi]] w fun e' w' => e' = .returned (.bool (perB lo hi)) ∧ Ext w w' := by
  go_enter Tryz.func21, Tryz.ntmps21
  go_wp2_with (go_at_call 52; refine (rper_any lo hi _).mono ?_; rintro e w' ⟨rfl, hxl⟩; obtain ⟨xl, rfl⟩ := hxl.asLater; clear hxl)
  go_ret
  exact ⟨rfl, (by (repeat (first | with_reducible exact Ext.refl _ | with_reducible exact Ext.refl _ | with_reducible refine Ext.drew ?_ | with_reducible refine Ext.drewN ?_ _ | with_reducible refine Ext.alloc ?_ _ | with_reducible refine Ext.onto ?_ _ | (with_reducible refine Ext.setCells ?_ ?_ _ _; rotate_left; focus (first | omega | (simp; done) | (simp; omega))) | (with_reducible refine Ext.setCell ?_ ?_ _; rotate_left; focus (first | omega | (simp; done) | (simp; omega))))))⟩
end Go.Proofs.YtpjacgcaibaggaaGreatDoor
