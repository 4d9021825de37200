/- A stamp's digests as slices that are read. -/
import Derived.WalkKit
import Derived.WalkSpells
import Derived.WalkLawsBesides
import Derived.Deep.QuietTactic
import Derived.BigQuiet
import Derived.Test.YtmgekdggahoboaaGreatDoorVSl0
import Derived.Test.YtmgekdggahoboaaGreatDoorVOa
set_option linter.unusedVariables false
set_option linter.unusedSimpArgs false
namespace Go.Proofs.YtmgekdggahoboaaGreatDoor
open Go.RowKit
open Go.Proofs
theorem body_reads {w : World} {B : Nat} {s : St} (h : RowAt w B (stmC s)) (h16 : s.body.length = 16) : ReadsB w w.heap.size (some ⟨B, 4, none⟩) s.body := by
 intro _
 refine ⟨B, 4, rfl, h.lt, fun i hi j v hv => ?_⟩
 have hj : j = 0 := by
  have := (List.getElem?_eq_some_iff.1 hv).1
  simp [encB] at this
  omega
 subst hj
 simp only [encB, List.getElem?_cons_zero, Option.some.injEq] at hv
 subst hv
 have hr := h.row 4 16
 rw [if_neg (by omega), stm_body, dgC_cells h16] at hr
 have hc := rowOf_cell hr (i := i) (by omega)
 rw [cells8_get, h16, if_pos (by omega)] at hc
 rw [Nat.mul_one, Nat.add_zero, hc]
 simp [hi]
end Go.Proofs.YtmgekdggahoboaaGreatDoor