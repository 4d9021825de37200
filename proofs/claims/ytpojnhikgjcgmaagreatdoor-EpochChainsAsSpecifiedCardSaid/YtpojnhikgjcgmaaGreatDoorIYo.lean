/- EpochFoldsAsSpecified, walked. -/
import Derived.WalkKit
import Derived.WalkSpells
import Derived.WalkLawsBesides
import Derived.Deep.QuietTactic
import Derived.BigQuiet
import Derived.Test.YtpojnhikgjcgmaaGreatDoorIYi
set_option linter.unusedVariables false
set_option linter.unusedSimpArgs false
namespace Go.Proofs.YtpojnhikgjcgmaaGreatDoor
open Go.RowKit Go.Shelf Go.Maps
open Go.Proofs
theorem okKy_is {k : Ky} (h : okKy k = true) : k.secret.size ≤ 64 ∧ i64 k.serial ∧ i64 k.party := by
 unfold okKy at h
 simp only [Bool.and_eq_true, decide_eq_true_eq] at h
 obtain ⟨⟨⟨⟨⟨⟨h1, h2⟩, h3⟩, h4⟩, h5⟩, h6⟩, h7⟩ := h
 refine ⟨by omega, ?_, ?_⟩ <;> unfold i64 <;> omega
section
attribute [local go_sem] tab_size tab_fits
end
end Go.Proofs.YtpojnhikgjcgmaaGreatDoor