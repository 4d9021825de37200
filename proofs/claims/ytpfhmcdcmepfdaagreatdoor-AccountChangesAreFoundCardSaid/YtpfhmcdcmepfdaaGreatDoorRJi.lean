
import Derived.WalkKit
import Derived.WalkSpells
import Derived.WalkLawsBesides
import Derived.Deep.QuietTactic
import Derived.BigQuiet
import Derived.Test.YtpfhmcdcmepfdaaGreatDoorRJp
set_option maxRecDepth 100000
set_option maxHeartbeats 64000000
set_option linter.unusedVariables false
set_option linter.unusedSimpArgs false
namespace Go.Proofs.YtpfhmcdcmepfdaaGreatDoor
open Go.RowKit Go.Shelf
open Go.Proofs
def grB (latest : Int) (x : Gr) : Bool := siteB x.site && decide (0 ≤ x.heard) && decide (x.heard ≤ latest) && decide (0 ≤ x.until_) && decide (x.until_ ≤ 1099511627776)
theorem grB_is {latest : Int} {x : Gr} : grB latest x = true ↔ (0 ≤ x.site ∧ x.site < 64 ∧ 0 ≤ x.heard ∧ x.heard ≤ latest ∧ 0 ≤ x.until_ ∧ x.until_ ≤ 1099511627776) := by
 simp only [grB, siteB, Bool.and_eq_true, decide_eq_true_eq]
 omega
def lastG (l : List Gr) (k : Nat) : Int := if k = 0 then -1 else (l.getD (k - 1) noGr).site
def gAt (l : List Gr) (latest : Int) (i : Nat) : Bool := grB latest (l.getD i noGr) && decide (lastG l i < (l.getD i noGr).site)
def okGs (g : Gs) : Bool := decide (0 ≤ g.latest) && decide (g.latest ≤ 1099511627776) && decide (1 ≤ g.most) && decide (g.most ≤ 3600000) && (List.range g.l.length).all (gAt g.l g.latest)
theorem gget {l : List Gr} {k : Nat} (h : k < l.length) : l.getD k noGr = l[k] := by rw [List.getD_eq_getElem?_getD, List.getElem?_eq_getElem h]; rfl
theorem lastG_succ {l : List Gr} {k : Nat} (h : k < l.length) : lastG l (k + 1) = l[k].site := by
 unfold lastG
 rw [if_neg (by omega), Nat.add_sub_cancel, gget h]
theorem lastG_pos {l : List Gr} {k : Nat} (h : 0 < k) (hk : k < l.length) : lastG l k = (l[k - 1]'(by omega)).site := by
 unfold lastG
 rw [if_neg (by omega), gget (by omega)]
theorem gAt_is {l : List Gr} {latest : Int} {k : Nat} (h : k < l.length) : gAt l latest k = true ↔ (0 ≤ l[k].site ∧ l[k].site < 64 ∧ 0 ≤ l[k].heard ∧ l[k].heard ≤ latest ∧ 0 ≤ l[k].until_ ∧ l[k].until_ ≤ 1099511627776) ∧ lastG l k < l[k].site := by
 unfold gAt
 rw [gget h, Bool.and_eq_true, grB_is, decide_eq_true_eq]
theorem lvalid_any (g : Gs) (w : World) (hl : g.l.length ≤ 100000) (ha : Reads 3 grL w w.heap.size g.GA g.l) :
  Calls Tryz.prog 68 #[.agg (gsC g)] w fun e' w' => e' = .returned (.bool (okGs g)) ∧ Ext w w' := by
 have HA := lh ha
 have HS := lh lsite_any
 have HO : Hid (okGs g = (decide (0 ≤ g.latest) && decide (g.latest ≤ 1099511627776) && decide (1 ≤ g.most) && decide (g.most ≤ 3600000) && (List.range g.l.length).all (gAt g.l g.latest))) := lh rfl
 have hft := gs_fits g
 generalize okGs g = R at *
 clear ha
 go_enter Tryz.func68, Tryz.ntmps68
 go_upto_region 1 with (fail)
 refine wp_world (fun W => Ext w W ∧ RowAt W w.heap.size (gsC g)) ⟨(by (with_reducible repeat first|exact eR _|apply eD|apply eN|apply eA|apply eO|apply eS|apply eC);all_goals first|omega|simp <;> omega), (RowAt.new _ _ _)⟩ ?_
 obtain ⟨B, hB⟩ : ∃ B, w.heap.size = B := ⟨_, rfl⟩
 rw [hB]
 rintro W1 ⟨x1, uB⟩
 have HX1 := lh x1
 have hlu := uB.lt
 have qB_0 : W1.cell? ⟨B, 0, none⟩ = some (.int .i64 g.latest) := (uB.cell 0).trans (gs_g0 g)
 have qB_1 : W1.cell? ⟨B, 1, none⟩ = some (.int .i64 g.most) := (uB.cell 1).trans (gs_g1 g)
 have qB_2 : W1.cell? ⟨B, 2, none⟩ = some (.slice g.GA g.l.length g.gc) := (uB.cell 2).trans (gs_g2 g)
 have HQ0 := lh qB_0
 have HQ1 := lh qB_1
 clear x1 uB
 generalize g.GA = GA at *
 go_wp2
 clear qB_0 qB_1 qB_2
 go_loopw [3, 9] (fun t i wr => ∃ k : Nat, k ≤ g.l.length ∧ t = .int .i64 (lastG g.l k) ∧ i = .int .i64 k ∧ Hid ((List.range k).all (gAt g.l g.latest) = true) ∧ Hid (Ext W1 wr)) (fun _ i _ => g.l.length - (intOf i).toNat)
 case atStart => exact ⟨0, Nat.zero_le _, rfl, rfl, lh rfl, lh (eR _)⟩
 case round =>
  obtain ⟨k, hk, rfl, rfl, HK, HX⟩ := hrel
  have hsz := HX.out.size
  have qB_0 : wr.cell? ⟨B, 0, none⟩ = some (.int .i64 g.latest) := (HX.out.cell (p := ⟨B, 0, none⟩) hlu).trans HQ0.out
  have qB_1 : wr.cell? ⟨B, 1, none⟩ = some (.int .i64 g.most) := (HX.out.cell (p := ⟨B, 1, none⟩) hlu).trans HQ1.out
  have hlw : B < wr.heap.size := by omega
  by_cases hlt : k < g.l.length
  ·obtain ⟨b, off, rfl, hb, hrow⟩ := reads_row grE (HA.out.ext (HX1.out.trans HX.out) (Nat.le_refl _)) k hlt
   have hb2 : b < wr.heap.size := by omega
   have HG : Hid (gAt g.l g.latest k = true ↔ (0 ≤ g.l[k].site ∧ g.l[k].site < 64 ∧ 0 ≤ g.l[k].heard ∧ g.l[k].heard ≤ g.latest ∧ 0 ≤ g.l[k].until_ ∧ g.l[k].until_ ≤ 1099511627776) ∧ lastG g.l k < g.l[k].site) := lh (gAt_is hlt)
   have HN := lh (fun h => range_snoc (gAt g.l g.latest) k HK.out h)
   have HB := lh (fun h => range_no (gAt g.l g.latest) k g.l.length hlt h)
   have HL := lh (lastG_succ hlt)
   have HS1 := lh (fun W => HS.out g.l[k].site W)
   change rowOf wr b (off + k * 3) 3 = some (grC g.l[k]) at hrow
   have hfp := gr_fits g.l[k]
   generalize lastG g.l k = la at *
   generalize gAt g.l g.latest k = ok at *
   generalize g.l[k] = x at *
   by_cases hg : (0 ≤ x.site ∧ x.site < 64 ∧ 0 ≤ x.heard ∧ x.heard ≤ g.latest ∧ 0 ≤ x.until_ ∧ x.until_ ≤ 1099511627776) ∧ la < x.site
   ·have HN1 := lh (HN.out (HG.out.2 hg))
    obtain ⟨⟨g1, g2, g3, g4, g5, g6⟩, g7⟩ := hg
    have hsb : siteB x.site = true := siteB_is.2 ⟨g1, g2⟩
    rw [hsb] at HS1
    clear HG HN HB hsb
    go_wp2_with (go_at_call 125; refine (HS1.out _).mono ?_; rintro e w' ⟨rfl, hxl⟩; obtain ⟨xl, rfl⟩ := hxl.asLater; clear hxl)
    go_roundw
    case rel => exact ⟨k + 1, by omega, by rw [HL.out], by go_num, HN1, lh (by (with_reducible repeat first|exact HX.out|exact eR _|apply eD|apply eN|apply eA|apply eO|apply eS|apply eC);all_goals first|omega|simp <;> omega)⟩
    case measure => simp [intOf]; omega
   ·have HB1 := lh (HB.out (by
     cases hok : ok with
     | false => rfl
     | true => exact absurd (HG.out.1 hok) hg))
    have HR : Hid (R = false) := lh (by rw [HO.out, HB1.out, Bool.and_false])
    have HG' := lh hg
    clear HG HN HB HB1 hg HO
    cases hsb : siteB x.site with
    | false =>
     rw [hsb] at HS1
     clear hsb
     go_wp2_with (go_at_call 125; refine (HS1.out _).mono ?_; rintro e w' ⟨rfl, hxl⟩; obtain ⟨xl, rfl⟩ := hxl.asLater; clear hxl)
     go_ret
     exact ⟨ret_bool HR.out.symm, (by (with_reducible repeat first|exact HX1.out.trans HX.out|exact eR _|apply eD|apply eN|apply eA|apply eO|apply eS|apply eC);all_goals first|omega|simp <;> omega)⟩
    | true =>
     obtain ⟨s0, s1⟩ := siteB_is.1 hsb
     rw [hsb] at HS1
     clear hsb
     go_wp2_with (go_at_call 125; refine (HS1.out _).mono ?_; rintro e w' ⟨rfl, hxl⟩; obtain ⟨xl, rfl⟩ := hxl.asLater; clear hxl)
     all_goals first
      | (exfalso; have := HG'.out; omega)
      | (go_ret; exact ⟨ret_bool HR.out.symm, (by (with_reducible repeat first|exact HX1.out.trans HX.out|exact eR _|apply eD|apply eN|apply eA|apply eO|apply eS|apply eC);all_goals first|omega|simp <;> omega)⟩)
  ·have e1 : k = g.l.length := by omega
   subst e1
   have HF : Hid (R = (decide (0 ≤ g.latest) && decide (g.latest ≤ 1099511627776) && decide (1 ≤ g.most) && decide (g.most ≤ 3600000))) := lh (by rw [HO.out, HK.out, Bool.and_true])
   clear HO HK HA HS
   go_wp2
   all_goals
    go_ret
    exact ⟨ret_bool (by have h := HF.out; clear HF; subst h; first | rfl | (simp [*]; done) | (simp [*]; omega) | omega), (by (with_reducible repeat first|exact HX1.out.trans HX.out|exact eR _|apply eD|apply eN|apply eA|apply eO|apply eS|apply eC);all_goals first|omega|simp <;> omega)⟩
end Go.Proofs.YtpfhmcdcmepfdaaGreatDoor