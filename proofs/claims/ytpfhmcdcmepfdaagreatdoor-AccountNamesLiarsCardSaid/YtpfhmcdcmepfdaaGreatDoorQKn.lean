
import Derived.WalkKit
import Derived.WalkSpells
import Derived.WalkLawsBesides
import Derived.Deep.QuietTactic
import Derived.BigQuiet
import Derived.Test.YtpfhmcdcmepfdaaGreatDoorQJz
import Derived.Test.YtpfhmcdcmepfdaaGreatDoorQKj
set_option maxRecDepth 100000
set_option maxHeartbeats 64000000
set_option linter.unusedVariables false
set_option linter.unusedSimpArgs false
namespace Go.Proofs.YtpfhmcdcmepfdaaGreatDoor
open Go.RowKit Go.Shelf
open Go.Proofs
def hdB3 (a b c : Value) : Sem Next := do pure (.value (← Instr.build 99 #[(0, a), (1, b), (2, c)]))
theorem hdB3_x (ρ : Operand → Value) (dst : Option Tmp) (a b c : Operand) (t : TypeId) (pos : String) (after : Array Edge) (guard : Option (Nat × Bool)) : execOp ρ { dst, op := .build 99 #[(0, a), (1, b), (2, c)], type := t, pos, after, guard } = hdB3 (ρ a) (ρ b) (ρ c) := by kernel_rfl
attribute [go_sem ↓] hdB3_x
theorem hdB3_run (s h : Int) (l : Le) (W : World) : (hdB3 (.int .i64 s) (.int .i64 h) (.agg (leC l))).run Tryz.prog W = .ok (.value (.agg (hdC ⟨s, h, l⟩))) W := by kernel_rfl
attribute [go_sem] hdB3_run
theorem liars_ok (Ar : Option Addr) (cr : Nat) (l : List Ky) (e : Ep) (r : Rp) (s : Le) (p : Clk) (w : World) (hl : l.length ≤ 9223372036854775807) (hrk : ReadsKy w w.heap.size Ar l) (hsec : ∀ k ∈ l, k.secret.size < 9223372036854775808)
  (hok : EpOk e) (ha : EpAt w e) (hro : RpOk r) (hrl : r.lines.length ≤ 9223372036854775807) (hra : Reads 59 lnL w w.heap.size r.LA r.lines) (hs : LeOk s) (hk : KonstP w) (hr : RKonst w) :
  Calls Tryz.prog 8 #[.slice Ar l.length cr, .agg (epC e), .agg (rpC r), .agg (leC s), .agg (clkC p)] w fun o w' => o = .returned (.bool true) ∧ Ext w w' := by
 have HS := lh (fun (W : World) (hx : Ext w W) => lsanity_any W (RowAt.ext hk hx) (RowAt.ext hr hx))
 have HFw := lh (fun (W : World) (hx : Ext w W) => lfew_any Ar cr l e W hl (hrk.on hx) hsec (ha.on hx) hok.pul hok.rvl (fun p hp => (hok.pu p hp).2))
 have HB : Hid ((decide ((l.length : Int) ≤ 30) && ringB l && shortEp e) = true → RingOk l ∧ EpShort e) := lh (fun h => by
  simp only [Bool.and_eq_true] at h
  exact ⟨ringB_is h.1.2, shortEp_is h.2⟩)
 have HV : Hid (∀ W : World, Calls Tryz.prog 34 #[.agg (clkC p)] W fun e' w' => e' = .returned (.bool (okClk p)) ∧ Ext W w') := lh (fun W => by
  have h := rper_any p.lo p.hi W
  rw [perclk32] at h
  exact h)
 have HEv := lh (fun (hs : EpShort e) (W : World) (hx : Ext w W) => revalid_any e W (ha.on hx) (by have := hs.pu; omega) hok.rvl (fun p hp => by have := hs.what p hp; omega))
 have HCk := lh (fun (hg : RingOk l) (hs : EpShort e) (h20 : r.lines.length ≤ 20) (W : World) (hx : Ext w W) => acheck_any Ar cr l e r W hg (hrk.on hx) hok hs (ha.on hx) hro (by omega) (hra.on hx) (RowAt.ext hk hx))
 have HLe := lh (fun (hg : RingOk l) (W : World) (hx : Ext w W) => rcheckLe_any Ar cr l s W hg (hrk.on hx) hs (RowAt.ext hr hx))
 have HMy := lh (fun (W : World) => mayServe_any ⟨s.site, s.epoch, s⟩ p W)
 have HKd := lh (fun (h20 : r.lines.length ≤ 20) (W : World) (hx : Ext w W) => rkind_any r s.site W (by omega) (hra.on hx))
 have HRf := lh (fun (hg : RingOk l) (h20 : r.lines.length ≤ 20) (W : World) (hx : Ext w W) => arefutes_any Ar cr l e r s W hg (hrk.on hx) (by omega) (hra.on hx) hs (RowAt.ext hk hx))
 have HP : Hid (checkRp l e r = (-1, 0) → checkLe l s = 0 → okClk p = true → r.hi ≤ p.lo → s.epoch < e.num → (!mayB ⟨s.site, s.epoch, s⟩ p || decide (kindN r s.site = 1) || decide (kindN r s.site = 3) || refutesB l e r s) = true) := lh (fun a b c d e' => liars_plain a b c d e')
 have hfe := ep_fits e
 have hfr := rp_fits r
 have hfs := le_fits s
 have hfh := hd_fits ⟨s.site, s.epoch, s⟩
 clear hrk hsec hok ha hro hra hs hk hr hl
 obtain ⟨⟨N, G⟩, hNG⟩ : ∃ x, checkRp l e r = x := ⟨_, rfl⟩
 rw [hNG] at HCk HP
 clear hNG
 generalize mayB ⟨s.site, s.epoch, s⟩ p = M at *
 generalize kindN r s.site = K at *
 generalize refutesB l e r s = R at *
 generalize checkLe l s = C at *
 generalize okEp e = E at *
 generalize okClk p = V at *
 generalize (decide ((l.length : Int) ≤ 30) && ringB l && shortEp e) = F at *
 obtain ⟨p0, p1⟩ := p
 cases F with
 | false =>
  clear HB HEv HCk HLe HMy HKd HRf HP
  go_enter Tryz.func8, Tryz.ntmps8
  go_wp2_with (first | (go_at_call 15; refine (HFw.out _ (by (with_reducible repeat first|exact eR _|apply eD|apply eN|apply eA|apply eO|apply eS|apply eC);all_goals first|omega|simp <;> omega)).mono ?_; rintro e w' ⟨rfl, hxl⟩; obtain ⟨xl, rfl⟩ := hxl.asLater; clear hxl) | (go_at_call 34; refine (HV.out _).mono ?_; rintro e w' ⟨rfl, hxl⟩; obtain ⟨xl, rfl⟩ := hxl.asLater; clear hxl) | (go_at_call 35; refine ((HEv.out) _ (by (with_reducible repeat first|exact eR _|apply eD|apply eN|apply eA|apply eO|apply eS|apply eC);all_goals first|omega|simp <;> omega)).mono ?_; rintro e w' ⟨rfl, hxl⟩; obtain ⟨xl, rfl⟩ := hxl.asLater; clear hxl) | (go_at_call 16; refine (HS.out _ (by (with_reducible repeat first|exact eR _|apply eD|apply eN|apply eA|apply eO|apply eS|apply eC);all_goals first|omega|simp <;> omega)).mono ?_; rintro e w' ⟨rfl, hxl⟩; obtain ⟨xl, rfl⟩ := hxl.asLater; clear hxl))
  go_ret
  exact ⟨rfl, (by (with_reducible repeat first|exact eR _|apply eD|apply eN|apply eA|apply eO|apply eS|apply eC);all_goals first|omega|simp <;> omega)⟩
 | true =>
  obtain ⟨hg, hs⟩ := HB.out rfl
  have HEv' := lh (HEv.out hs)
  have HLe' := lh (HLe.out hg)
  have HCk' := lh (HCk.out hg hs)
  have HRf' := lh (HRf.out hg)
  clear HB HEv HCk HLe HRf hg hs
  cases V with
  | false =>
   clear HEv' HCk' HLe' HMy HKd HRf' HP
   go_enter Tryz.func8, Tryz.ntmps8
   go_wp2_with (first | (go_at_call 15; refine (HFw.out _ (by (with_reducible repeat first|exact eR _|apply eD|apply eN|apply eA|apply eO|apply eS|apply eC);all_goals first|omega|simp <;> omega)).mono ?_; rintro e w' ⟨rfl, hxl⟩; obtain ⟨xl, rfl⟩ := hxl.asLater; clear hxl) | (go_at_call 34; refine (HV.out _).mono ?_; rintro e w' ⟨rfl, hxl⟩; obtain ⟨xl, rfl⟩ := hxl.asLater; clear hxl) | (go_at_call 35; refine ((HEv'.out) _ (by (with_reducible repeat first|exact eR _|apply eD|apply eN|apply eA|apply eO|apply eS|apply eC);all_goals first|omega|simp <;> omega)).mono ?_; rintro e w' ⟨rfl, hxl⟩; obtain ⟨xl, rfl⟩ := hxl.asLater; clear hxl) | (go_at_call 16; refine (HS.out _ (by (with_reducible repeat first|exact eR _|apply eD|apply eN|apply eA|apply eO|apply eS|apply eC);all_goals first|omega|simp <;> omega)).mono ?_; rintro e w' ⟨rfl, hxl⟩; obtain ⟨xl, rfl⟩ := hxl.asLater; clear hxl))
   go_ret
   exact ⟨rfl, (by (with_reducible repeat first|exact eR _|apply eD|apply eN|apply eA|apply eO|apply eS|apply eC);all_goals first|omega|simp <;> omega)⟩
  | true =>
   cases E with
   | false =>
    clear HCk' HLe' HMy HKd HRf' HP
    go_enter Tryz.func8, Tryz.ntmps8
    go_wp2_with (first | (go_at_call 15; refine (HFw.out _ (by (with_reducible repeat first|exact eR _|apply eD|apply eN|apply eA|apply eO|apply eS|apply eC);all_goals first|omega|simp <;> omega)).mono ?_; rintro e w' ⟨rfl, hxl⟩; obtain ⟨xl, rfl⟩ := hxl.asLater; clear hxl) | (go_at_call 34; refine (HV.out _).mono ?_; rintro e w' ⟨rfl, hxl⟩; obtain ⟨xl, rfl⟩ := hxl.asLater; clear hxl) | (go_at_call 35; refine ((HEv'.out) _ (by (with_reducible repeat first|exact eR _|apply eD|apply eN|apply eA|apply eO|apply eS|apply eC);all_goals first|omega|simp <;> omega)).mono ?_; rintro e w' ⟨rfl, hxl⟩; obtain ⟨xl, rfl⟩ := hxl.asLater; clear hxl) | (go_at_call 16; refine (HS.out _ (by (with_reducible repeat first|exact eR _|apply eD|apply eN|apply eA|apply eO|apply eS|apply eC);all_goals first|omega|simp <;> omega)).mono ?_; rintro e w' ⟨rfl, hxl⟩; obtain ⟨xl, rfl⟩ := hxl.asLater; clear hxl))
    go_ret
    exact ⟨rfl, (by (with_reducible repeat first|exact eR _|apply eD|apply eN|apply eA|apply eO|apply eS|apply eC);all_goals first|omega|simp <;> omega)⟩
   | true =>
    by_cases h1 : 20 < r.lines.length
    ·have d1 : decide ((20 : Int) < r.lines.length) = true := by simp; omega
     clear HCk' HLe' HMy HKd HRf' HP h1
     go_enter Tryz.func8, Tryz.ntmps8
     go_wp2_with (first | (go_at_call 15; refine (HFw.out _ (by (with_reducible repeat first|exact eR _|apply eD|apply eN|apply eA|apply eO|apply eS|apply eC);all_goals first|omega|simp <;> omega)).mono ?_; rintro e w' ⟨rfl, hxl⟩; obtain ⟨xl, rfl⟩ := hxl.asLater; clear hxl) | (go_at_call 34; refine (HV.out _).mono ?_; rintro e w' ⟨rfl, hxl⟩; obtain ⟨xl, rfl⟩ := hxl.asLater; clear hxl) | (go_at_call 35; refine ((HEv'.out) _ (by (with_reducible repeat first|exact eR _|apply eD|apply eN|apply eA|apply eO|apply eS|apply eC);all_goals first|omega|simp <;> omega)).mono ?_; rintro e w' ⟨rfl, hxl⟩; obtain ⟨xl, rfl⟩ := hxl.asLater; clear hxl) | (go_at_call 16; refine (HS.out _ (by (with_reducible repeat first|exact eR _|apply eD|apply eN|apply eA|apply eO|apply eS|apply eC);all_goals first|omega|simp <;> omega)).mono ?_; rintro e w' ⟨rfl, hxl⟩; obtain ⟨xl, rfl⟩ := hxl.asLater; clear hxl))
     go_ret
     exact ⟨rfl, (by (with_reducible repeat first|exact eR _|apply eD|apply eN|apply eA|apply eO|apply eS|apply eC);all_goals first|omega|simp <;> omega)⟩
    have d1 : decide ((20 : Int) < r.lines.length) = false := by simp; omega
    have HCk2 := lh (HCk'.out (by omega))
    have HRf2 := lh (HRf'.out (by omega))
    have HKd2 := lh (HKd.out (by omega))
    clear HCk' HRf' HKd h1
    by_cases h2 : p0 < r.hi
    ·have d2 : decide (p0 < r.hi) = true := by simpa using h2
     clear HCk2 HLe' HMy HKd2 HRf2 HP h2
     go_enter Tryz.func8, Tryz.ntmps8
     go_wp2_with (first | (go_at_call 15; refine (HFw.out _ (by (with_reducible repeat first|exact eR _|apply eD|apply eN|apply eA|apply eO|apply eS|apply eC);all_goals first|omega|simp <;> omega)).mono ?_; rintro e w' ⟨rfl, hxl⟩; obtain ⟨xl, rfl⟩ := hxl.asLater; clear hxl) | (go_at_call 34; refine (HV.out _).mono ?_; rintro e w' ⟨rfl, hxl⟩; obtain ⟨xl, rfl⟩ := hxl.asLater; clear hxl) | (go_at_call 35; refine ((HEv'.out) _ (by (with_reducible repeat first|exact eR _|apply eD|apply eN|apply eA|apply eO|apply eS|apply eC);all_goals first|omega|simp <;> omega)).mono ?_; rintro e w' ⟨rfl, hxl⟩; obtain ⟨xl, rfl⟩ := hxl.asLater; clear hxl) | (go_at_call 16; refine (HS.out _ (by (with_reducible repeat first|exact eR _|apply eD|apply eN|apply eA|apply eO|apply eS|apply eC);all_goals first|omega|simp <;> omega)).mono ?_; rintro e w' ⟨rfl, hxl⟩; obtain ⟨xl, rfl⟩ := hxl.asLater; clear hxl))
     go_ret
     exact ⟨rfl, (by (with_reducible repeat first|exact eR _|apply eD|apply eN|apply eA|apply eO|apply eS|apply eC);all_goals first|omega|simp <;> omega)⟩
    have d2 : decide (p0 < r.hi) = false := by simpa using h2
    by_cases h3 : e.num ≤ s.epoch
    ·have d3 : decide (e.num ≤ s.epoch) = true := by simpa using h3
     clear HCk2 HLe' HMy HKd2 HRf2 HP h2 h3
     go_enter Tryz.func8, Tryz.ntmps8
     go_wp2_with (first | (go_at_call 15; refine (HFw.out _ (by (with_reducible repeat first|exact eR _|apply eD|apply eN|apply eA|apply eO|apply eS|apply eC);all_goals first|omega|simp <;> omega)).mono ?_; rintro e w' ⟨rfl, hxl⟩; obtain ⟨xl, rfl⟩ := hxl.asLater; clear hxl) | (go_at_call 34; refine (HV.out _).mono ?_; rintro e w' ⟨rfl, hxl⟩; obtain ⟨xl, rfl⟩ := hxl.asLater; clear hxl) | (go_at_call 35; refine ((HEv'.out) _ (by (with_reducible repeat first|exact eR _|apply eD|apply eN|apply eA|apply eO|apply eS|apply eC);all_goals first|omega|simp <;> omega)).mono ?_; rintro e w' ⟨rfl, hxl⟩; obtain ⟨xl, rfl⟩ := hxl.asLater; clear hxl) | (go_at_call 16; refine (HS.out _ (by (with_reducible repeat first|exact eR _|apply eD|apply eN|apply eA|apply eO|apply eS|apply eC);all_goals first|omega|simp <;> omega)).mono ?_; rintro e w' ⟨rfl, hxl⟩; obtain ⟨xl, rfl⟩ := hxl.asLater; clear hxl))
     go_ret
     exact ⟨rfl, (by (with_reducible repeat first|exact eR _|apply eD|apply eN|apply eA|apply eO|apply eS|apply eC);all_goals first|omega|simp <;> omega)⟩
    have d3 : decide (e.num ≤ s.epoch) = false := by simpa using h3
    by_cases h4 : s.epoch < 0
    ·have d4 : decide (s.epoch < 0) = true := by simpa using h4
     clear HCk2 HLe' HMy HKd2 HRf2 HP h2 h3 h4
     go_enter Tryz.func8, Tryz.ntmps8
     go_wp2_with (first | (go_at_call 15; refine (HFw.out _ (by (with_reducible repeat first|exact eR _|apply eD|apply eN|apply eA|apply eO|apply eS|apply eC);all_goals first|omega|simp <;> omega)).mono ?_; rintro e w' ⟨rfl, hxl⟩; obtain ⟨xl, rfl⟩ := hxl.asLater; clear hxl) | (go_at_call 34; refine (HV.out _).mono ?_; rintro e w' ⟨rfl, hxl⟩; obtain ⟨xl, rfl⟩ := hxl.asLater; clear hxl) | (go_at_call 35; refine ((HEv'.out) _ (by (with_reducible repeat first|exact eR _|apply eD|apply eN|apply eA|apply eO|apply eS|apply eC);all_goals first|omega|simp <;> omega)).mono ?_; rintro e w' ⟨rfl, hxl⟩; obtain ⟨xl, rfl⟩ := hxl.asLater; clear hxl) | (go_at_call 16; refine (HS.out _ (by (with_reducible repeat first|exact eR _|apply eD|apply eN|apply eA|apply eO|apply eS|apply eC);all_goals first|omega|simp <;> omega)).mono ?_; rintro e w' ⟨rfl, hxl⟩; obtain ⟨xl, rfl⟩ := hxl.asLater; clear hxl))
     go_ret
     exact ⟨rfl, (by (with_reducible repeat first|exact eR _|apply eD|apply eN|apply eA|apply eO|apply eS|apply eC);all_goals first|omega|simp <;> omega)⟩
    have d4 : decide (s.epoch < 0) = false := by simpa using h4
    have HP2 := lh (fun a b => HP.out a b rfl (by show r.hi ≤ p0; omega) (by omega))
    clear HP h2 h3 h4
    go_enter Tryz.func8, Tryz.ntmps8
    go_upto_region 5 with (first | (go_at_call 15; refine (HFw.out _ (by (with_reducible repeat first|exact eR _|apply eD|apply eN|apply eA|apply eO|apply eS|apply eC);all_goals first|omega|simp <;> omega)).mono ?_; rintro e w' ⟨rfl, hxl⟩; obtain ⟨xl, rfl⟩ := hxl.asLater; clear hxl) | (go_at_call 34; refine (HV.out _).mono ?_; rintro e w' ⟨rfl, hxl⟩; obtain ⟨xl, rfl⟩ := hxl.asLater; clear hxl) | (go_at_call 35; refine (HEv'.out _ (by (with_reducible repeat first|exact eR _|apply eD|apply eN|apply eA|apply eO|apply eS|apply eC);all_goals first|omega|simp <;> omega)).mono ?_; rintro e w' ⟨rfl, hxl⟩; obtain ⟨xl, rfl⟩ := hxl.asLater; clear hxl))
    refine wp_world (fun W => Ext w W ∧ RowAt W w.heap.size (epC e) ∧ RowAt W (w.heap.size + 1) (rpC r) ∧ RowAt W (w.heap.size + 1 + 1) (leC s) ∧ RowAt W (w.heap.size + 1 + 1 + 1) #[.int .i64 p0, .int .i64 p1]) ⟨(by (with_reducible repeat first|exact eR _|apply eD|apply eN|apply eA|apply eO|apply eS|apply eC);all_goals first|omega|simp <;> omega), ?_, ?_, ?_, ?_⟩ ?_
    ·exact ((((RowAt.new _ _ _).alloc _).alloc _).alloc _).later _
    ·exact (((RowAt.newAt (by simp)).alloc _).alloc _).later _
    ·exact ((RowAt.newAt (by simp)).alloc _).later _
    ·exact (RowAt.newAt (by simp)).later _
    obtain ⟨B, hB⟩ : ∃ B, w.heap.size = B := ⟨_, rfl⟩
    rw [hB]
    rintro W1 ⟨x1, uE, uR, uL, uP⟩
    have HX1 := lh x1
    have hlP := uP.lt
    have kE : rowOf W1 B 0 38 = some (epC e) := uE.all rfl (by omega)
    have kR : rowOf W1 (B+1) 0 37 = some (rpC r) := uR.all rfl (by omega)
    have kL : rowOf W1 (B+1+1) 0 20 = some (leC s) := uL.all rfl (by omega)
    have qL_0 : W1.cell? ⟨B+1+1, 0, none⟩ = some (.int .i64 s.site) := (uL.cell 0).trans (le_g0 s)
    have qL_1 : W1.cell? ⟨B+1+1, 1, none⟩ = some (.int .i64 s.epoch) := (uL.cell 1).trans (le_g1 s)
    have qP_0 : W1.cell? ⟨B+1+1+1, 0, none⟩ = some (.int .i64 p0) := uP.cell 0
    have qP_1 : W1.cell? ⟨B+1+1+1, 1, none⟩ = some (.int .i64 p1) := uP.cell 1
    clear x1 uE uR uL uP HFw HV HEv' d1 d2 d3 d4
    by_cases c1 : N = -1
    ·by_cases c2 : G = 0
     ·subst c1 c2
      by_cases c3 : C = 0
      ·subst c3
       have HPl := lh (HP2.out rfl rfl)
       clear HP2
       cases M with
       | false =>
        go_wp2_with (first | (go_at_call 28; refine (HCk2.out _ HX1.out).mono ?_; rintro e w' ⟨rfl, hxl⟩; obtain ⟨xl, rfl⟩ := hxl.asLater; clear hxl) | (go_at_call 36; refine (HLe'.out _ (by (with_reducible repeat first|exact HX1.out|exact eR _|apply eD|apply eN|apply eA|apply eO|apply eS|apply eC);all_goals first|omega|simp <;> omega)).mono ?_; rintro e w' ⟨rfl, hxl⟩; obtain ⟨xl, rfl⟩ := hxl.asLater; clear hxl) | (go_at_call 16; refine (HS.out _ (by (with_reducible repeat first|exact HX1.out|exact eR _|apply eD|apply eN|apply eA|apply eO|apply eS|apply eC);all_goals first|omega|simp <;> omega)).mono ?_; rintro e w' ⟨rfl, hxl⟩; obtain ⟨xl, rfl⟩ := hxl.asLater; clear hxl) | (go_at_call 37; refine (HMy.out _).mono ?_; rintro e w' ⟨rfl, hxl⟩; obtain ⟨xl, rfl⟩ := hxl.asLater; clear hxl) | (go_at_call 38; refine (HKd2.out _ (by (with_reducible repeat first|exact HX1.out|exact eR _|apply eD|apply eN|apply eA|apply eO|apply eS|apply eC);all_goals first|omega|simp <;> omega)).mono ?_; rintro e w' ⟨rfl, hxl⟩; obtain ⟨xl, rfl⟩ := hxl.asLater; clear hxl) | (go_at_call 30; refine (HRf2.out _ (by (with_reducible repeat first|exact HX1.out|exact eR _|apply eD|apply eN|apply eA|apply eO|apply eS|apply eC);all_goals first|omega|simp <;> omega)).mono ?_; rintro e w' ⟨rfl, hxl⟩; obtain ⟨xl, rfl⟩ := hxl.asLater; clear hxl))
        go_ret
        exact ⟨rfl, (by (with_reducible repeat first|exact HX1.out|exact eR _|apply eD|apply eN|apply eA|apply eO|apply eS|apply eC);all_goals first|omega|simp <;> omega)⟩
       | true =>
        by_cases k1 : K = 1
        ·subst k1
         go_wp2_with (first | (go_at_call 28; refine (HCk2.out _ HX1.out).mono ?_; rintro e w' ⟨rfl, hxl⟩; obtain ⟨xl, rfl⟩ := hxl.asLater; clear hxl) | (go_at_call 36; refine (HLe'.out _ (by (with_reducible repeat first|exact HX1.out|exact eR _|apply eD|apply eN|apply eA|apply eO|apply eS|apply eC);all_goals first|omega|simp <;> omega)).mono ?_; rintro e w' ⟨rfl, hxl⟩; obtain ⟨xl, rfl⟩ := hxl.asLater; clear hxl) | (go_at_call 16; refine (HS.out _ (by (with_reducible repeat first|exact HX1.out|exact eR _|apply eD|apply eN|apply eA|apply eO|apply eS|apply eC);all_goals first|omega|simp <;> omega)).mono ?_; rintro e w' ⟨rfl, hxl⟩; obtain ⟨xl, rfl⟩ := hxl.asLater; clear hxl) | (go_at_call 37; refine (HMy.out _).mono ?_; rintro e w' ⟨rfl, hxl⟩; obtain ⟨xl, rfl⟩ := hxl.asLater; clear hxl) | (go_at_call 38; refine (HKd2.out _ (by (with_reducible repeat first|exact HX1.out|exact eR _|apply eD|apply eN|apply eA|apply eO|apply eS|apply eC);all_goals first|omega|simp <;> omega)).mono ?_; rintro e w' ⟨rfl, hxl⟩; obtain ⟨xl, rfl⟩ := hxl.asLater; clear hxl) | (go_at_call 30; refine (HRf2.out _ (by (with_reducible repeat first|exact HX1.out|exact eR _|apply eD|apply eN|apply eA|apply eO|apply eS|apply eC);all_goals first|omega|simp <;> omega)).mono ?_; rintro e w' ⟨rfl, hxl⟩; obtain ⟨xl, rfl⟩ := hxl.asLater; clear hxl))
         go_ret
         exact ⟨rfl, (by (with_reducible repeat first|exact HX1.out|exact eR _|apply eD|apply eN|apply eA|apply eO|apply eS|apply eC);all_goals first|omega|simp <;> omega)⟩
        ·by_cases k3 : K = 3
         ·subst k3
          go_wp2_with (first | (go_at_call 28; refine (HCk2.out _ HX1.out).mono ?_; rintro e w' ⟨rfl, hxl⟩; obtain ⟨xl, rfl⟩ := hxl.asLater; clear hxl) | (go_at_call 36; refine (HLe'.out _ (by (with_reducible repeat first|exact HX1.out|exact eR _|apply eD|apply eN|apply eA|apply eO|apply eS|apply eC);all_goals first|omega|simp <;> omega)).mono ?_; rintro e w' ⟨rfl, hxl⟩; obtain ⟨xl, rfl⟩ := hxl.asLater; clear hxl) | (go_at_call 16; refine (HS.out _ (by (with_reducible repeat first|exact HX1.out|exact eR _|apply eD|apply eN|apply eA|apply eO|apply eS|apply eC);all_goals first|omega|simp <;> omega)).mono ?_; rintro e w' ⟨rfl, hxl⟩; obtain ⟨xl, rfl⟩ := hxl.asLater; clear hxl) | (go_at_call 37; refine (HMy.out _).mono ?_; rintro e w' ⟨rfl, hxl⟩; obtain ⟨xl, rfl⟩ := hxl.asLater; clear hxl) | (go_at_call 38; refine (HKd2.out _ (by (with_reducible repeat first|exact HX1.out|exact eR _|apply eD|apply eN|apply eA|apply eO|apply eS|apply eC);all_goals first|omega|simp <;> omega)).mono ?_; rintro e w' ⟨rfl, hxl⟩; obtain ⟨xl, rfl⟩ := hxl.asLater; clear hxl) | (go_at_call 30; refine (HRf2.out _ (by (with_reducible repeat first|exact HX1.out|exact eR _|apply eD|apply eN|apply eA|apply eO|apply eS|apply eC);all_goals first|omega|simp <;> omega)).mono ?_; rintro e w' ⟨rfl, hxl⟩; obtain ⟨xl, rfl⟩ := hxl.asLater; clear hxl))
          go_ret
          exact ⟨rfl, (by (with_reducible repeat first|exact HX1.out|exact eR _|apply eD|apply eN|apply eA|apply eO|apply eS|apply eC);all_goals first|omega|simp <;> omega)⟩
         ·have hR : R = true := by have := HPl.out; simpa [k1, k3] using this
          subst hR
          have e1 : (K == 1) = false := by simpa using k1
          have e3 : (K == 3) = false := by simpa using k3
          go_wp2_with (first | (go_at_call 28; refine (HCk2.out _ HX1.out).mono ?_; rintro e w' ⟨rfl, hxl⟩; obtain ⟨xl, rfl⟩ := hxl.asLater; clear hxl) | (go_at_call 36; refine (HLe'.out _ (by (with_reducible repeat first|exact HX1.out|exact eR _|apply eD|apply eN|apply eA|apply eO|apply eS|apply eC);all_goals first|omega|simp <;> omega)).mono ?_; rintro e w' ⟨rfl, hxl⟩; obtain ⟨xl, rfl⟩ := hxl.asLater; clear hxl) | (go_at_call 16; refine (HS.out _ (by (with_reducible repeat first|exact HX1.out|exact eR _|apply eD|apply eN|apply eA|apply eO|apply eS|apply eC);all_goals first|omega|simp <;> omega)).mono ?_; rintro e w' ⟨rfl, hxl⟩; obtain ⟨xl, rfl⟩ := hxl.asLater; clear hxl) | (go_at_call 37; refine (HMy.out _).mono ?_; rintro e w' ⟨rfl, hxl⟩; obtain ⟨xl, rfl⟩ := hxl.asLater; clear hxl) | (go_at_call 38; refine (HKd2.out _ (by (with_reducible repeat first|exact HX1.out|exact eR _|apply eD|apply eN|apply eA|apply eO|apply eS|apply eC);all_goals first|omega|simp <;> omega)).mono ?_; rintro e w' ⟨rfl, hxl⟩; obtain ⟨xl, rfl⟩ := hxl.asLater; clear hxl) | (go_at_call 30; refine (HRf2.out _ (by (with_reducible repeat first|exact HX1.out|exact eR _|apply eD|apply eN|apply eA|apply eO|apply eS|apply eC);all_goals first|omega|simp <;> omega)).mono ?_; rintro e w' ⟨rfl, hxl⟩; obtain ⟨xl, rfl⟩ := hxl.asLater; clear hxl))
          go_ret
          exact ⟨rfl, (by (with_reducible repeat first|exact HX1.out|exact eR _|apply eD|apply eN|apply eA|apply eO|apply eS|apply eC);all_goals first|omega|simp <;> omega)⟩
      ·have e3 : (C == 0) = false := by simpa using c3
       clear HP2 c3
       go_wp2_with (first | (go_at_call 28; refine (HCk2.out _ HX1.out).mono ?_; rintro e w' ⟨rfl, hxl⟩; obtain ⟨xl, rfl⟩ := hxl.asLater; clear hxl) | (go_at_call 36; refine (HLe'.out _ (by (with_reducible repeat first|exact HX1.out|exact eR _|apply eD|apply eN|apply eA|apply eO|apply eS|apply eC);all_goals first|omega|simp <;> omega)).mono ?_; rintro e w' ⟨rfl, hxl⟩; obtain ⟨xl, rfl⟩ := hxl.asLater; clear hxl) | (go_at_call 16; refine (HS.out _ (by (with_reducible repeat first|exact HX1.out|exact eR _|apply eD|apply eN|apply eA|apply eO|apply eS|apply eC);all_goals first|omega|simp <;> omega)).mono ?_; rintro e w' ⟨rfl, hxl⟩; obtain ⟨xl, rfl⟩ := hxl.asLater; clear hxl) | (go_at_call 37; refine (HMy.out _).mono ?_; rintro e w' ⟨rfl, hxl⟩; obtain ⟨xl, rfl⟩ := hxl.asLater; clear hxl) | (go_at_call 38; refine (HKd2.out _ (by (with_reducible repeat first|exact HX1.out|exact eR _|apply eD|apply eN|apply eA|apply eO|apply eS|apply eC);all_goals first|omega|simp <;> omega)).mono ?_; rintro e w' ⟨rfl, hxl⟩; obtain ⟨xl, rfl⟩ := hxl.asLater; clear hxl) | (go_at_call 30; refine (HRf2.out _ (by (with_reducible repeat first|exact HX1.out|exact eR _|apply eD|apply eN|apply eA|apply eO|apply eS|apply eC);all_goals first|omega|simp <;> omega)).mono ?_; rintro e w' ⟨rfl, hxl⟩; obtain ⟨xl, rfl⟩ := hxl.asLater; clear hxl))
       go_ret
       exact ⟨rfl, (by (with_reducible repeat first|exact HX1.out|exact eR _|apply eD|apply eN|apply eA|apply eO|apply eS|apply eC);all_goals first|omega|simp <;> omega)⟩
     ·have e3 : (G == 0) = false := by simpa using c2
      subst c1
      clear HP2 c2
      go_wp2_with (first | (go_at_call 28; refine (HCk2.out _ HX1.out).mono ?_; rintro e w' ⟨rfl, hxl⟩; obtain ⟨xl, rfl⟩ := hxl.asLater; clear hxl) | (go_at_call 36; refine (HLe'.out _ (by (with_reducible repeat first|exact HX1.out|exact eR _|apply eD|apply eN|apply eA|apply eO|apply eS|apply eC);all_goals first|omega|simp <;> omega)).mono ?_; rintro e w' ⟨rfl, hxl⟩; obtain ⟨xl, rfl⟩ := hxl.asLater; clear hxl) | (go_at_call 16; refine (HS.out _ (by (with_reducible repeat first|exact HX1.out|exact eR _|apply eD|apply eN|apply eA|apply eO|apply eS|apply eC);all_goals first|omega|simp <;> omega)).mono ?_; rintro e w' ⟨rfl, hxl⟩; obtain ⟨xl, rfl⟩ := hxl.asLater; clear hxl) | (go_at_call 37; refine (HMy.out _).mono ?_; rintro e w' ⟨rfl, hxl⟩; obtain ⟨xl, rfl⟩ := hxl.asLater; clear hxl) | (go_at_call 38; refine (HKd2.out _ (by (with_reducible repeat first|exact HX1.out|exact eR _|apply eD|apply eN|apply eA|apply eO|apply eS|apply eC);all_goals first|omega|simp <;> omega)).mono ?_; rintro e w' ⟨rfl, hxl⟩; obtain ⟨xl, rfl⟩ := hxl.asLater; clear hxl) | (go_at_call 30; refine (HRf2.out _ (by (with_reducible repeat first|exact HX1.out|exact eR _|apply eD|apply eN|apply eA|apply eO|apply eS|apply eC);all_goals first|omega|simp <;> omega)).mono ?_; rintro e w' ⟨rfl, hxl⟩; obtain ⟨xl, rfl⟩ := hxl.asLater; clear hxl))
      go_ret
      exact ⟨rfl, (by (with_reducible repeat first|exact HX1.out|exact eR _|apply eD|apply eN|apply eA|apply eO|apply eS|apply eC);all_goals first|omega|simp <;> omega)⟩
    ·have e3 : (N == -1) = false := by simpa using c1
     have e4 : decide (N = -1) = false := by simpa using c1
     have e5 : (N != -1) = true := by simpa using c1
     clear HP2 c1
     go_wp2_with (first | (go_at_call 28; refine (HCk2.out _ HX1.out).mono ?_; rintro e w' ⟨rfl, hxl⟩; obtain ⟨xl, rfl⟩ := hxl.asLater; clear hxl) | (go_at_call 36; refine (HLe'.out _ (by (with_reducible repeat first|exact HX1.out|exact eR _|apply eD|apply eN|apply eA|apply eO|apply eS|apply eC);all_goals first|omega|simp <;> omega)).mono ?_; rintro e w' ⟨rfl, hxl⟩; obtain ⟨xl, rfl⟩ := hxl.asLater; clear hxl) | (go_at_call 16; refine (HS.out _ (by (with_reducible repeat first|exact HX1.out|exact eR _|apply eD|apply eN|apply eA|apply eO|apply eS|apply eC);all_goals first|omega|simp <;> omega)).mono ?_; rintro e w' ⟨rfl, hxl⟩; obtain ⟨xl, rfl⟩ := hxl.asLater; clear hxl) | (go_at_call 37; refine (HMy.out _).mono ?_; rintro e w' ⟨rfl, hxl⟩; obtain ⟨xl, rfl⟩ := hxl.asLater; clear hxl) | (go_at_call 38; refine (HKd2.out _ (by (with_reducible repeat first|exact HX1.out|exact eR _|apply eD|apply eN|apply eA|apply eO|apply eS|apply eC);all_goals first|omega|simp <;> omega)).mono ?_; rintro e w' ⟨rfl, hxl⟩; obtain ⟨xl, rfl⟩ := hxl.asLater; clear hxl) | (go_at_call 30; refine (HRf2.out _ (by (with_reducible repeat first|exact HX1.out|exact eR _|apply eD|apply eN|apply eA|apply eO|apply eS|apply eC);all_goals first|omega|simp <;> omega)).mono ?_; rintro e w' ⟨rfl, hxl⟩; obtain ⟨xl, rfl⟩ := hxl.asLater; clear hxl))
     go_ret
     exact ⟨rfl, (by (with_reducible repeat first|exact HX1.out|exact eR _|apply eD|apply eN|apply eA|apply eO|apply eS|apply eC);all_goals first|omega|simp <;> omega)⟩
end Go.Proofs.YtpfhmcdcmepfdaaGreatDoor