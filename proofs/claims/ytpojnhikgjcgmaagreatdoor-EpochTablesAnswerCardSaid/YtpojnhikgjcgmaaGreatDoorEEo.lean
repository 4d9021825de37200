/- Walks of entries: right stamps, light entries, fair rules, valid periods. -/
import Derived.WalkKit
import Derived.WalkSpells
import Derived.WalkLawsBesides
import Derived.Deep.QuietTactic
import Derived.BigQuiet
import Derived.Test.YtpojnhikgjcgmaaGreatDoorEOw
set_option linter.unusedVariables false
set_option linter.unusedSimpArgs false
namespace Go.Proofs.YtpojnhikgjcgmaaGreatDoor
open Go.RowKit
open Go.Proofs
def instB (t : Int) : Bool := decide (0 ≤ t) && decide (t ≤ 1099511627776)
theorem rinst_any (t : Int) (w : World) : Calls Tryz.prog 109 #[.int .i64 t] w fun e' w' => e' = .returned (.bool (instB t)) ∧ w = w' := by
 go_enter Tryz.func109, Tryz.ntmps109
 go_wp2
 all_goals
  go_ret
  refine ⟨ret_bool ?_, rfl⟩
  simp_all [instB]
  try omega
def perB (lo hi : Int) : Bool := instB lo && instB hi && decide (lo ≤ hi)
theorem perB_iff {lo hi : Int} : perB lo hi = true ↔ 0 ≤ lo ∧ lo ≤ hi ∧ hi ≤ 1099511627776 := by
 simp [perB, instB]
 omega
theorem rper_any (lo hi : Int) (w : World) : Calls Tryz.prog 57 #[.agg #[.int .i64 lo, .int .i64 hi]] w fun e' w' => e' = .returned (.bool (perB lo hi)) ∧ Ext w w' := by
 cases h1 : instB lo with
 | false =>
  have H1 := lh h1
  have HP : Hid (perB lo hi = false) := lh (by simp [perB, h1])
  clear h1
  go_enter Tryz.func57, Tryz.ntmps57
  go_wp2_with (go_at_call 109; refine (rinst_any lo _).mono ?_; rintro e w' ⟨rfl, rfl⟩; rw [H1.out])
  go_ret
  exact ⟨ret_bool (by rw [HP.out]), (by (with_reducible repeat first|exact eR _|apply eD|apply eN|apply eA|apply eO|apply eS|apply eC);all_goals first|omega|simp <;> omega)⟩
 | true =>
  cases h2 : instB hi with
  | false =>
   have H1 := lh h1
   have H2 := lh h2
   have HP : Hid (perB lo hi = false) := lh (by simp [perB, h2])
   clear h1 h2
   go_enter Tryz.func57, Tryz.ntmps57
   go_wp2_with (go_at_call 109; first | ((with_reducible refine (rinst_any lo _).mono ?_); rintro e w' ⟨rfl, rfl⟩; rw [H1.out]) | ((with_reducible refine (rinst_any hi _).mono ?_); rintro e w' ⟨rfl, rfl⟩; rw [H2.out]))
   go_ret
   exact ⟨ret_bool (by rw [HP.out]), (by (with_reducible repeat first|exact eR _|apply eD|apply eN|apply eA|apply eO|apply eS|apply eC);all_goals first|omega|simp <;> omega)⟩
  | true =>
   have H1 := lh h1
   have H2 := lh h2
   have HP : Hid (perB lo hi = decide (lo ≤ hi)) := lh (by simp [perB, h1, h2])
   clear h1 h2
   go_enter Tryz.func57, Tryz.ntmps57
   go_wp2_with (go_at_call 109; first | ((with_reducible refine (rinst_any lo _).mono ?_); rintro e w' ⟨rfl, rfl⟩; rw [H1.out]) | ((with_reducible refine (rinst_any hi _).mono ?_); rintro e w' ⟨rfl, rfl⟩; rw [H2.out]))
   go_ret
   exact ⟨ret_bool (by rw [HP.out]), (by (with_reducible repeat first|exact eR _|apply eD|apply eN|apply eA|apply eO|apply eS|apply eC);all_goals first|omega|simp <;> omega)⟩
end Go.Proofs.YtpojnhikgjcgmaaGreatDoor