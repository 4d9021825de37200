
import Derived.WalkKit
import Derived.WalkSpells
import Derived.WalkLawsBesides
import Derived.Deep.QuietTactic
import Derived.BigQuiet
import Derived.Test.YtpfhmcdcmepfdaaGreatDoorQJh
set_option maxRecDepth 100000
set_option maxHeartbeats 64000000
set_option linter.unusedVariables false
set_option linter.unusedSimpArgs false
namespace Go.Proofs.YtpfhmcdcmepfdaaGreatDoor
open Go.RowKit Go.Shelf
open Go.Proofs
def heldB (h : Hd) : Bool := siteB h.site && decide (0 ≤ h.heard) && decide (h.heard ≤ 1099511627776) && decide (0 ≤ h.le.until_) && decide (h.le.until_ ≤ 1099511627776)
theorem held_any (h : Hd) (w : World) : Calls Tryz.prog 93 #[.agg (hdC h)] w fun e w' => e = .returned (.bool (heldB h)) ∧ Ext w w' := by
 have HS := lh (fun W => lsite_any h.site W)
 have HO : Hid (heldB h = (siteB h.site && decide (0 ≤ h.heard) && decide (h.heard ≤ 1099511627776) && decide (0 ≤ h.le.until_) && decide (h.le.until_ ≤ 1099511627776))) := lh rfl
 have hft := hd_fits h
 generalize heldB h = V at *
 generalize siteB h.site = S at *
 cases S
 all_goals
  go_enter Tryz.func93, Tryz.ntmps93
  go_wp2_with (go_at_call 125; refine (HS.out _).mono ?_; rintro e w' ⟨rfl, hxl⟩; obtain ⟨xl, rfl⟩ := hxl.asLater; clear hxl)
 all_goals
  go_ret
  exact ⟨ret_bool (by have h := HO.out; clear HO; subst h; first | rfl | (simp [*]; done) | (simp [*]; omega) | (simp; omega)), (by (with_reducible repeat first|exact eR _|apply eD|apply eN|apply eA|apply eO|apply eS|apply eC);all_goals first|omega|simp <;> omega)⟩
theorem cbefore_any (a b t : Int) (w : World) : Calls Tryz.prog 94 #[.agg #[.int .i64 a, .int .i64 b], .int .i64 t] w fun e w' => e = .returned (.bool (decide (b < t))) ∧ Ext w w' := by
 go_enter Tryz.func94, Tryz.ntmps94
 go_wp2
 go_ret
 exact ⟨rfl, (by (with_reducible repeat first|exact eR _|apply eD|apply eN|apply eA|apply eO|apply eS|apply eC);all_goals first|omega|simp <;> omega)⟩
def mayB (h : Hd) (p : Clk) : Bool := heldB h && okClk p && decide (p.hi < h.le.until_)
theorem mayServe_any (h : Hd) (p : Clk) (w : World) : Calls Tryz.prog 37 #[.agg (hdC h), .agg (clkC p)] w fun e w' => e = .returned (.bool (mayB h p)) ∧ Ext w w' := by
 have HH := lh (fun W => held_any h W)
 have HC := lh (fun W => cvalid_any p W)
 have HF := lh (fun W => cbefore_any p.lo p.hi h.le.until_ W)
 have HO : Hid (mayB h p = (heldB h && okClk p && decide (p.hi < h.le.until_))) := lh rfl
 have hft := hd_fits h
 generalize mayB h p = V at *
 generalize heldB h = S at *
 generalize okClk p = C at *
 obtain ⟨p0, p1⟩ := p
 cases S <;> cases C
 all_goals
  go_enter Tryz.func37, Tryz.ntmps37
  go_wp2_with (first | (go_at_call 93; refine (HH.out _).mono ?_; rintro e w' ⟨rfl, hxl⟩; obtain ⟨xl, rfl⟩ := hxl.asLater; clear hxl) | (go_at_call 49; refine (HC.out _).mono ?_; rintro e w' ⟨rfl, hxl⟩; obtain ⟨xl, rfl⟩ := hxl.asLater; clear hxl) | (go_at_call 94; refine (HF.out _).mono ?_; rintro e w' ⟨rfl, hxl⟩; obtain ⟨xl, rfl⟩ := hxl.asLater; clear hxl))
 all_goals
  go_ret
  exact ⟨ret_bool (by have h := HO.out; clear HO; subst h; first | rfl | (simp [*]; done) | (simp [*]; omega) | (simp; omega)), (by (with_reducible repeat first|exact eR _|apply eD|apply eN|apply eA|apply eO|apply eS|apply eC);all_goals first|omega|simp <;> omega)⟩
end Go.Proofs.YtpfhmcdcmepfdaaGreatDoor