/- PROVED: AccountMakesAsSpecified returns true; its arguments stay. -/
import Derived.Test.YtpfhmcdcmepfdaaGreatDoorUZmkp
import Derived.Test.YtpfhmcdcmepfdaaGreatDoorUZmkf
namespace Go.Proofs.YtpfhmcdcmepfdaaGreatDoor
open Go.ChangeShapes Go.WideShapes Go.ChangeAt Go.ChangeMaps Go.RowKit Go.Proofs
theorem mk_h : Rows.AccountMakesAsSpecifiedSaid :=
 OpenClaim.holds_of_wide 5 Tryz.f5 rfl rfl rfl rfl rfl rfl rfl ⟨rfl, rfl, rfl, rfl, rfl⟩ rfl rfl rfl rfl rfl (by kernel_rfl) Tryz.func5 accountMakesAsSpecified_facts
  (dk (by kernel_rfl)) (by unfold Func.isWrapper; rw [if_neg (by decide +kernel)]; exact ⟨rfl, rfl⟩)
  (fun os started H enc _ => accountMakesAsSpecified_lifted os started H enc)
theorem accountMakesAsSpecified_card : Rows.AccountMakesAsSpecifiedCardSaid :=
 Claim7.holds_tied_plain_at .later [] [.data, .data, .data, .pinned] true (true, "808105260bc8a983611fc436d679d4c79a003a75bb3a9e929c7a6d8bfab1b54c") false
  mk_h (fun _ h => by cases h) (by kernel_rfl) (fun _ h => by cases h) accountMakesAsSpecified_row_tie rfl ⟨rfl, rfl⟩ (by kernel_rfl) rfl
  (fun f fn hf hfn => by
   obtain rfl : f = 5 := Option.some.inj ((show Tryz.prog.funcNamed "weirgate/weirgatelaw32.AccountMakesAsSpecified" = some 5 by kernel_rfl).symm.trans hf) |>.symm
   obtain rfl : fn = Tryz.f5 := (Option.some.inj (Tryz.func5.symm.trans hfn)).symm
   exact ⟨by kernel_rfl, fun j t ht => by
    rw [Tryz.params5] at ht
    have hm : t ∈ [23, 62, 49, 63, 64, 29] := by simpa using Array.mem_of_getElem? ht
    have h : ([23, 62, 49, 63, 64, 29].all fun u => !Tryz.prog.wantsStandIn u) = true := by kernel_rfl
    show Tryz.prog.wantsStandIn t = false
    simpa using List.all_eq_true.1 h t hm⟩)
  (by kernel_rfl)
#print axioms accountMakesAsSpecified_card
end Go.Proofs.YtpfhmcdcmepfdaaGreatDoor
