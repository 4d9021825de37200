
import Derived.WalkKit
import Derived.WalkSpells
import Derived.WalkLawsBesides
import Derived.Deep.QuietTactic
import Derived.BigQuiet
import Derived.Test.YtpfhmcdcmepfdaaGreatDoorUKb
set_option maxRecDepth 100000
set_option maxHeartbeats 64000000
set_option linter.unusedVariables false
set_option linter.unusedSimpArgs false
namespace Go.Proofs.YtpfhmcdcmepfdaaGreatDoor
open Go.RowKit Go.Shelf
open Go.Proofs
theorem reads_at {α : Type} {size : Nat} {enc : α → List Value} (E : EncTy enc size) {w : World} {B : Nat} {A : Option Addr} {l : List α} (h : Reads size enc w B A l) (i : Nat) (hi : i < l.length) :
  ∃ b off, A = some ⟨b, off, none⟩ ∧ b < B ∧ rowOf w b (off + i * size) size = some (enc l[i]).toArray ∧ ∀ j v, (enc l[i])[j]? = some v → w.cell? ⟨b, off + i * size + j, none⟩ = some v := by
 obtain ⟨b, off, h1, h2, h3⟩ := reads_row E h i hi
 obtain ⟨b', off', k1, _, k3⟩ := h (by omega)
 rw [h1] at k1
 injection k1 with k1
 injection k1 with k1 k2
 subst k1 k2
 exact ⟨b, off, h1, h2, h3, fun j v hv => k3 i hi j v hv⟩
theorem best_first {α : Type} (z : α) (p : α → Bool) (q : α → α → Bool) (hq : ∀ a b, q a b = false) : ∀ (l : List α) (o : α × Bool), o.2 = true → l.foldl (fun o x => if p x && (!o.2 || q x o.1) then (x, true) else o) o = o
 | [], _, _ => rfl
 | x :: t, o, h => by
  rw [List.foldl_cons]
  have e : (if p x && (!o.2 || q x o.1) then (x, true) else o) = o := by rw [h, hq]; simp
  rw [e]
  exact best_first z p q hq t o h
theorem best_hit {α : Type} (z : α) (p : α → Bool) (q : α → α → Bool) (hq : ∀ a b, q a b = false) (l : List α) (k : Nat) (h : k < l.length) (h0 : bestS z p q (l.take k) = (z, false)) (hp : p l[k] = true) : bestS z p q l = (l[k], true) := by
 have e : l = l.take k ++ (l[k] :: l.drop (k + 1)) := by
  rw [← List.drop_eq_getElem_cons h, List.take_append_drop]
 have e2 : bestS z p q l = (l.take k ++ (l[k] :: l.drop (k + 1))).foldl (fun o x => if p x && (!o.2 || q x o.1) then (x, true) else o) (z, false) := by
  rw [← e]
  rfl
 rw [e2, List.foldl_append, List.foldl_cons]
 have h1 : (l.take k).foldl (fun o x => if p x && (!o.2 || q x o.1) then (x, true) else o) (z, false) = (z, false) := h0
 rw [h1]
 have e3 : (if p l[k] && (!(z, false).2 || q l[k] (z, false).1) then (l[k], true) else ((z, false) : α × Bool)) = (l[k], true) := by rw [hp]; simp
 rw [e3]
 exact best_first z p q hq _ _ rfl
def leBz : Sem Next := do pure (.value (← Instr.build 87 #[]))
theorem leBz_x (ρ : Operand → Value) (dst : Option Tmp) (t : TypeId) (pos : String) (after : Array Edge) (guard : Option (Nat × Bool)) : execOp ρ { dst, op := .build 87 #[], type := t, pos, after, guard } = leBz := by kernel_rfl
attribute [go_sem ↓] leBz_x
theorem leBz_run (W : World) : leBz.run Tryz.prog W = .ok (.value (.agg (leC noLe))) W := by kernel_rfl
attribute [go_sem] leBz_run
theorem rline_any (x : Gr) (e : Ep) (CA LsA : Option Addr) (cc lsc : Nat) (cs : List Cf) (ls : List Le) (p : Clk) (w : World) (hcl : cs.length ≤ 100000) (hll : ls.length ≤ 100000) (hrc : Reads 37 cfL w w.heap.size CA cs) (hrl : Reads 20 leL w w.heap.size LsA ls) :
  Calls Tryz.prog 78 #[.agg (grC x), .agg (epC e), .slice CA cs.length cc, .slice LsA ls.length lsc, .agg (clkC p)] w fun r w' => r = .returned (.agg (lnC (lineN x e.num cs ls p.lo))) ∧ Ext w w' := by
 have HRC := lh hrc
 have HRL := lh hrl
 have hfx := gr_fits x
 have hfe := ep_fits e
 have HO : Hid (lineN x e.num cs ls p.lo = if (bestS noCf (cfHit x.site e.num) cfNone cs).2 = true then ⟨x.site, 1, (bestS noCf (cfHit x.site e.num) cfNone cs).1, noLe⟩
  else ⟨x.site, if (if (bestS noLe (leHit x.site) leMore ls).2 = true then (bestS noLe (leHit x.site) leMore ls).1.until_ else x.until_) ≤ p.lo then 2 else 3, noCf, (bestS noLe (leHit x.site) leMore ls).1⟩) := lh rfl
 generalize lineN x e.num cs ls p.lo = O at *
 clear hrc hrl
 obtain ⟨p0, p1⟩ := p
 go_enter Tryz.func78, Tryz.ntmps78
 go_wp2
 refine wp_world (fun W => Ext w W ∧ RowAt W w.heap.size (grC x) ∧ RowAt W (w.heap.size + 1) (epC e) ∧ RowAt W (w.heap.size + 1 + 1) #[.int .i64 p0, .int .i64 p1] ∧ RowAt W (w.heap.size + 1 + 1 + 1) (lnC noLn)) ⟨(by (with_reducible repeat first|exact eR _|apply eD|apply eN|apply eA|apply eO|apply eS|apply eC);all_goals first|omega|simp <;> omega), ?_, ?_, ?_, ?_⟩ ?_
 ·exact ((((RowAt.new _ _ _).alloc _).alloc _).alloc _)
 ·exact (((RowAt.newAt (by simp)).alloc _).alloc _)
 ·exact ((RowAt.newAt (by simp)).alloc _)
 ·exact (RowAt.newAt (by simp))
 obtain ⟨B, hB⟩ : ∃ B, w.heap.size = B := ⟨_, rfl⟩
 rw [hB]
 rintro W1 ⟨x1, uX, uE, uP, uR⟩
 have HX1 := lh x1
 have HUX := lh uX
 have HUE := lh uE
 have HUP := lh uP
 have HUR := lh uR
 have hlu := uR.lt
 clear x1 uX uE uP uR
 go_loopw [11] (fun i wr => ∃ k : Nat, k ≤ cs.length ∧ i = .int .i64 k ∧ Hid (bestS noCf (cfHit x.site e.num) cfNone (cs.take k) = (noCf, false)) ∧ Hid (Ext W1 wr)) (fun i _ => cs.length - (intOf i).toNat)
 case atStart => exact ⟨0, Nat.zero_le _, rfl, lh rfl, lh (eR _)⟩
 case round =>
  obtain ⟨k, hk, rfl, HK, HX⟩ := hrel
  have hsz := HX.out.size
  have qX_0 : wr.cell? ⟨B, 0, none⟩ = some (.int .i64 x.site) := ((HUX.out.ext HX.out).cell 0).trans (gr_g0 x)
  have qX_2 : wr.cell? ⟨B, 2, none⟩ = some (.int .i64 x.until_) := ((HUX.out.ext HX.out).cell 2).trans (gr_g2 x)
  have qE_0 : wr.cell? ⟨B+1, 0, none⟩ = some (.int .i64 e.num) := ((HUE.out.ext HX.out).cell 0).trans (ep_g0 e)
  have qP_0 : wr.cell? ⟨B+1+1, 0, none⟩ = some (.int .i64 p0) := (HUP.out.ext HX.out).cell 0
  by_cases hlt : k < cs.length
  ·obtain ⟨b, off, rfl, hb, hrow, hcel⟩ := reads_at cfE (HRC.out.ext (HX1.out.trans HX.out) (Nat.le_refl _)) k hlt
   have hb2 : b < wr.heap.size := by omega
   have c0 : wr.cell? ⟨b, off + k * 37, none⟩ = some (.int .i64 cs[k].site) := hcel 0 _ rfl
   have c1 : wr.cell? ⟨b, off + k * 37 + 1, none⟩ = some (.int .i64 cs[k].epoch) := hcel 1 _ rfl
   have HS := lh (best_snoc noCf (cfHit x.site e.num) cfNone cs k hlt)
   have HH := lh (best_hit noCf (cfHit x.site e.num) cfNone (fun _ _ => rfl) cs k hlt HK.out)
   have HP : Hid (cfHit x.site e.num cs[k] = (decide (cs[k].site = x.site) && decide (e.num ≤ cs[k].epoch))) := lh rfl
   have hft := cf_fits cs[k]
   change rowOf wr b (off + k * 37) 37 = some (cfC cs[k]) at hrow
   clear hcel
   generalize cs[k] = c at *
   by_cases hs : c.site = x.site
   ·have e1 : (c.site == x.site) = true := by simpa using hs
    by_cases hn : e.num ≤ c.epoch
    ·have e2 : decide (e.num ≤ c.epoch) = true := by simpa using hn
     have HV := lh (HH.out (by rw [HP.out, decide_eq_true hs, e2]; rfl))
     have HOo : Hid (O = ⟨x.site, 1, c, noLe⟩) := lh (by rw [HO.out, HV.out, if_pos rfl])
     have HRr := lh (HUR.out.ext HX.out)
     have hfL := ln_fits ⟨x.site, 1, c, noLe⟩
     have mR : roomOf wr (B+1+1+1) 0 59 = true := by rw [HRr.out.room]; rfl
     have hlR := HRr.out.lt
     clear hs hn HS HH HP HV HO
     go_wp2
     refine wp_region_later (by kernel_rfl) (by kernel_rfl) ?_
     repeat (first | go_big_quiet_step (fail) | quiet_step (fail))
     refine wpQuiet_nil ?_
     rintro _ ⟨xq, rfl⟩
     go_wp2
     refine wp_region_later_tail 7 (by kernel_rfl) (by kernel_rfl) ?_
     simp only [List.take_succ_cons, List.take_zero, List.drop_succ_cons, List.drop_zero]
     repeat (first | go_big_quiet_step (fail) | quiet_step (fail))
     refine wpQuiet_nil ?_
     rintro _ ⟨xq, rfl⟩
     go_wp2
     rw [HOo.out]
     exact post_row ln_ty Tryz.results78 rfl rfl (RowAt.stored (n := 59) (HRr.out.later _) rfl rfl (by omega)) ⟨rfl, (by (with_reducible repeat first|exact HX1.out.trans HX.out|exact eR _|apply eD|apply eN|apply eA|apply eO|apply eS|apply eC);all_goals first|omega|simp <;> omega)⟩
    ·have e2 : decide (e.num ≤ c.epoch) = false := by simpa using hn
     have HN : Hid (bestS noCf (cfHit x.site e.num) cfNone (cs.take (k + 1)) = (noCf, false)) := lh (by rw [HS.out, HP.out, e2, Bool.and_false, Bool.false_and, if_neg (by decide)]; exact HK.out)
     clear hs hn HS HH HP HO
     go_wp2
     refine wp_region_later (by kernel_rfl) (by kernel_rfl) ?_
     repeat (first | go_big_quiet_step (fail) | quiet_step (fail))
     refine wpQuiet_nil ?_
     rintro _ ⟨xq, rfl⟩
     go_wp2
     go_roundw
     case rel => exact ⟨k + 1, by omega, by go_num, HN, lh (by (with_reducible repeat first|exact HX.out|exact eR _|apply eD|apply eN|apply eA|apply eO|apply eS|apply eC);all_goals first|omega|simp <;> omega)⟩
     case measure => simp [intOf]; omega
   ·have e1 : (c.site == x.site) = false := by simpa using hs
    have HN : Hid (bestS noCf (cfHit x.site e.num) cfNone (cs.take (k + 1)) = (noCf, false)) := lh (by rw [HS.out, HP.out, decide_eq_false hs, Bool.false_and, Bool.false_and, if_neg (by decide)]; exact HK.out)
    clear hs HS HH HP HO
    go_wp2
    refine wp_region_later (by kernel_rfl) (by kernel_rfl) ?_
    repeat (first | go_big_quiet_step (fail) | quiet_step (fail))
    refine wpQuiet_nil ?_
    rintro _ ⟨xq, rfl⟩
    go_wp2
    go_roundw
    case rel => exact ⟨k + 1, by omega, by go_num, HN, lh (by (with_reducible repeat first|exact HX.out|exact eR _|apply eD|apply eN|apply eA|apply eO|apply eS|apply eC);all_goals first|omega|simp <;> omega)⟩
    case measure => simp [intOf]; omega
  ·have HZ : Hid (bestS noCf (cfHit x.site e.num) cfNone cs = (noCf, false)) := lh (by
    have h := HK.out
    rw [List.take_of_length_le (by omega)] at h
    exact h)
   have HOo : Hid (O = ⟨x.site, if (if (bestS noLe (leHit x.site) leMore ls).2 = true then (bestS noLe (leHit x.site) leMore ls).1.until_ else x.until_) ≤ p0 then 2 else 3, noCf, (bestS noLe (leHit x.site) leMore ls).1⟩) := lh (by rw [HO.out, HZ.out, if_neg (by decide)])
   have HRr := lh (HUR.out.ext HX.out)
   have HXr := lh (HUX.out.ext HX.out)
   have HPr := lh (HUP.out.ext HX.out)
   have hlR := HRr.out.lt
   have hln := le_fits noLe
   clear HO HZ HK
   go_wp2
   refine wp_world (fun W => Ext wr W ∧ RowAt W wr.heap.size (leC noLe)) ⟨(by (with_reducible repeat first|exact eR _|apply eD|apply eN|apply eA|apply eO|apply eS|apply eC);all_goals first|omega|simp <;> omega), RowAt.store (RowAt.new _ _ _) rfl⟩ ?_
   obtain ⟨g, hg⟩ : ∃ g, wr.heap.size = g := ⟨_, rfl⟩
   rw [hg]
   rintro W3 ⟨x3, u3⟩
   have HU3 := lh u3
   have hg3 := u3.lt
   have HW3 := lh (HX1.out.trans (HX.out.trans x3))
   have HR3 := lh (HRr.out.ext x3)
   have HX3 := lh (HXr.out.ext x3)
   have HP3 := lh (HPr.out.ext x3)
   have hs3 := x3.size
   have hgb : B + 1 + 1 + 1 < g := by omega
   have hwg : w.heap.size ≤ g := by omega
   clear x3 u3 qX_0 qX_2 qE_0 qP_0 HRr HXr HPr HX hlR
   go_loopw [13, 14] (fun f i wr => ∃ (k : Nat) (L : Le) (fb : Bool), k ≤ ls.length ∧ f = .bool fb ∧ i = .int .i64 k ∧ Hid (bestS noLe (leHit x.site) leMore (ls.take k) = (L, fb)) ∧ Hid (Ext w wr) ∧ Hid (W3.heap.size ≤ wr.heap.size) ∧ Hid (RowAt wr B (grC x)) ∧ Hid (RowAt wr (B+1+1) #[.int .i64 p0, .int .i64 p1]) ∧ Hid (RowAt wr (B+1+1+1) (lnC noLn)) ∧ Hid (RowAt wr g (leC L))) (fun _ i _ => ls.length - (intOf i).toNat)
   case atStart => exact ⟨0, noLe, false, Nat.zero_le _, rfl, rfl, lh rfl, HW3, lh (Nat.le_refl _), HX3, HP3, HR3, HU3⟩
   case round =>
    obtain ⟨k2, L, fb, hk2, rfl, rfl, HK2, HX4, HS4, HUx, HUp, HUr, HG⟩ := hrel
    have hsz4 := HS4.out
    have qX_0 : wr.cell? ⟨B, 0, none⟩ = some (.int .i64 x.site) := (HUx.out.cell 0).trans (gr_g0 x)
    have qX_2 : wr.cell? ⟨B, 2, none⟩ = some (.int .i64 x.until_) := (HUx.out.cell 2).trans (gr_g2 x)
    have qP_0 : wr.cell? ⟨B+1+1, 0, none⟩ = some (.int .i64 p0) := HUp.out.cell 0
    have qG_2 : wr.cell? ⟨g, 2, none⟩ = some (.int .i64 L.until_) := (HG.out.cell 2).trans (le_g2 L)
    have kG : rowOf wr g 0 20 = some (leC L) := HG.out.all rfl (by omega)
    have mG : roomOf wr g 0 20 = true := by rw [HG.out.room]; rfl
    have mR : roomOf wr (B+1+1+1) 0 59 = true := by rw [HUr.out.room]; rfl
    have hlg := HG.out.lt
    have hfL := le_fits L
    by_cases hlt : k2 < ls.length
    ·obtain ⟨b, off, rfl, hb, hrow, hcel⟩ := reads_at leE (HRL.out.ext HX4.out (Nat.le_refl _)) k2 hlt
     have hb2 : b < w.heap.size := hb
     have hb3 : b < wr.heap.size := by omega
     have c0 : wr.cell? ⟨b, off + k2 * 20, none⟩ = some (.int .i64 ls[k2].site) := hcel 0 _ rfl
     have c2 : wr.cell? ⟨b, off + k2 * 20 + 2, none⟩ = some (.int .i64 ls[k2].until_) := hcel 2 _ rfl
     have HS := lh (best_snoc noLe (leHit x.site) leMore ls k2 hlt)
     have HP : Hid (leHit x.site ls[k2] = decide (ls[k2].site = x.site)) := lh rfl
     have HM : Hid (leMore ls[k2] L = decide (L.until_ < ls[k2].until_)) := lh rfl
     have hft := le_fits ls[k2]
     change rowOf wr b (off + k2 * 20) 20 = some (leC ls[k2]) at hrow
     clear hcel
     generalize ls[k2] = c at *
     rw [HK2.out] at HS
     by_cases hs : c.site = x.site
     ·have e1 : (c.site == x.site) = true := by simpa using hs
      cases fb with
      | false =>
       have HN : Hid (bestS noLe (leHit x.site) leMore (ls.take (k2 + 1)) = (c, true)) := lh (by rw [HS.out, HP.out, decide_eq_true hs]; simp)
       clear hs HS HP HM
       go_wp2
       refine wp_region_later (by kernel_rfl) (by kernel_rfl) ?_
       repeat (first | go_big_quiet_step (fail) | quiet_step (fail))
       refine wpQuiet_nil ?_
       rintro _ ⟨xq, rfl⟩
       go_wp2
       refine ⟨⟨k2 + 1, c, true, by omega, rfl, rfl, HN, lh (Ext.setCells (HX4.out.onto _) hwg _ _), lh (by rw [setCells_size, later_size]; omega), lh ((HUx.out.later _).others (by omega) _ _), lh ((HUp.out.later _).others (by omega) _ _), lh ((HUr.out.later _).others (by omega) _ _), lh (RowAt.store (HG.out.later _) rfl)⟩, by simp [intOf]; omega⟩
      | true =>
       by_cases hm : L.until_ < c.until_
       ·have e2 : decide (L.until_ < c.until_) = true := by simpa using hm
        have HN : Hid (bestS noLe (leHit x.site) leMore (ls.take (k2 + 1)) = (c, true)) := lh (by rw [HS.out, HP.out, HM.out, decide_eq_true hs, e2]; simp)
        clear hs hm HS HP HM
        go_wp2
        refine wp_region_later (by kernel_rfl) (by kernel_rfl) ?_
        repeat (first | go_big_quiet_step (fail) | quiet_step (fail))
        refine wpQuiet_nil ?_
        rintro _ ⟨xq, rfl⟩
        go_wp2
        refine ⟨⟨k2 + 1, c, true, by omega, rfl, rfl, HN, lh (Ext.setCells (HX4.out.onto _) hwg _ _), lh (by rw [setCells_size, later_size]; omega), lh ((HUx.out.later _).others (by omega) _ _), lh ((HUp.out.later _).others (by omega) _ _), lh ((HUr.out.later _).others (by omega) _ _), lh (RowAt.store (HG.out.later _) rfl)⟩, by simp [intOf]; omega⟩
       ·have e2 : decide (L.until_ < c.until_) = false := by simpa using hm
        have HN : Hid (bestS noLe (leHit x.site) leMore (ls.take (k2 + 1)) = (L, true)) := lh (by rw [HS.out, HP.out, HM.out, decide_eq_true hs, e2]; simp)
        clear hs hm HS HP HM
        go_wp2
        refine wp_region_later (by kernel_rfl) (by kernel_rfl) ?_
        repeat (first | go_big_quiet_step (fail) | quiet_step (fail))
        refine wpQuiet_nil ?_
        rintro _ ⟨xq, rfl⟩
        go_wp2
        refine ⟨⟨k2 + 1, L, true, by omega, rfl, rfl, HN, lh (by (with_reducible repeat first|exact HX4.out|exact eR _|apply eD|apply eN|apply eA|apply eO|apply eS|apply eC);all_goals first|omega|simp <;> omega), lh (by first | omega | (rw [later_size]; omega)), lh (by (repeat (first | with_reducible exact HUx.out | with_reducible refine RowAt.drew ?_ | with_reducible refine RowAt.later ?_ _ | with_reducible exact RowAt.newAt (by first | rfl | omega | (simp [later_size, setCells_size]; done) | (simp [later_size, setCells_size]; omega)) | with_reducible refine RowAt.alloc ?_ _ | with_reducible apply RowAt.store | with_reducible refine RowAt.others ?_ ?_ _ _ | with_reducible refine RowAt.other ?_ ?_ _)); all_goals first | omega | (simp; done) | (simp; omega) | (simp [go_sem]; done)), lh (by (repeat (first | with_reducible exact HUp.out | with_reducible refine RowAt.drew ?_ | with_reducible refine RowAt.later ?_ _ | with_reducible exact RowAt.newAt (by first | rfl | omega | (simp [later_size, setCells_size]; done) | (simp [later_size, setCells_size]; omega)) | with_reducible refine RowAt.alloc ?_ _ | with_reducible apply RowAt.store | with_reducible refine RowAt.others ?_ ?_ _ _ | with_reducible refine RowAt.other ?_ ?_ _)); all_goals first | omega | (simp; done) | (simp; omega) | (simp [go_sem]; done)), lh (by (repeat (first | with_reducible exact HUr.out | with_reducible refine RowAt.drew ?_ | with_reducible refine RowAt.later ?_ _ | with_reducible exact RowAt.newAt (by first | rfl | omega | (simp [later_size, setCells_size]; done) | (simp [later_size, setCells_size]; omega)) | with_reducible refine RowAt.alloc ?_ _ | with_reducible apply RowAt.store | with_reducible refine RowAt.others ?_ ?_ _ _ | with_reducible refine RowAt.other ?_ ?_ _)); all_goals first | omega | (simp; done) | (simp; omega) | (simp [go_sem]; done)), lh (by (repeat (first | with_reducible exact HG.out | with_reducible refine RowAt.drew ?_ | with_reducible refine RowAt.later ?_ _ | with_reducible exact RowAt.newAt (by first | rfl | omega | (simp [later_size, setCells_size]; done) | (simp [later_size, setCells_size]; omega)) | with_reducible refine RowAt.alloc ?_ _ | with_reducible apply RowAt.store | with_reducible refine RowAt.others ?_ ?_ _ _ | with_reducible refine RowAt.other ?_ ?_ _)); all_goals first | omega | (simp; done) | (simp; omega) | (simp [go_sem]; done))⟩, by simp [intOf]; omega⟩
     ·have e1 : (c.site == x.site) = false := by simpa using hs
      have HN : Hid (bestS noLe (leHit x.site) leMore (ls.take (k2 + 1)) = (L, fb)) := lh (by rw [HS.out, HP.out, decide_eq_false hs]; simp)
      clear hs HS HP HM
      go_wp2
      refine wp_region_later (by kernel_rfl) (by kernel_rfl) ?_
      repeat (first | go_big_quiet_step (fail) | quiet_step (fail))
      refine wpQuiet_nil ?_
      rintro _ ⟨xq, rfl⟩
      go_wp2
      refine ⟨⟨k2 + 1, L, fb, by omega, rfl, rfl, HN, lh (by (with_reducible repeat first|exact HX4.out|exact eR _|apply eD|apply eN|apply eA|apply eO|apply eS|apply eC);all_goals first|omega|simp <;> omega), lh (by first | omega | (rw [later_size]; omega)), lh (by (repeat (first | with_reducible exact HUx.out | with_reducible refine RowAt.drew ?_ | with_reducible refine RowAt.later ?_ _ | with_reducible exact RowAt.newAt (by first | rfl | omega | (simp [later_size, setCells_size]; done) | (simp [later_size, setCells_size]; omega)) | with_reducible refine RowAt.alloc ?_ _ | with_reducible apply RowAt.store | with_reducible refine RowAt.others ?_ ?_ _ _ | with_reducible refine RowAt.other ?_ ?_ _)); all_goals first | omega | (simp; done) | (simp; omega) | (simp [go_sem]; done)), lh (by (repeat (first | with_reducible exact HUp.out | with_reducible refine RowAt.drew ?_ | with_reducible refine RowAt.later ?_ _ | with_reducible exact RowAt.newAt (by first | rfl | omega | (simp [later_size, setCells_size]; done) | (simp [later_size, setCells_size]; omega)) | with_reducible refine RowAt.alloc ?_ _ | with_reducible apply RowAt.store | with_reducible refine RowAt.others ?_ ?_ _ _ | with_reducible refine RowAt.other ?_ ?_ _)); all_goals first | omega | (simp; done) | (simp; omega) | (simp [go_sem]; done)), lh (by (repeat (first | with_reducible exact HUr.out | with_reducible refine RowAt.drew ?_ | with_reducible refine RowAt.later ?_ _ | with_reducible exact RowAt.newAt (by first | rfl | omega | (simp [later_size, setCells_size]; done) | (simp [later_size, setCells_size]; omega)) | with_reducible refine RowAt.alloc ?_ _ | with_reducible apply RowAt.store | with_reducible refine RowAt.others ?_ ?_ _ _ | with_reducible refine RowAt.other ?_ ?_ _)); all_goals first | omega | (simp; done) | (simp; omega) | (simp [go_sem]; done)), lh (by (repeat (first | with_reducible exact HG.out | with_reducible refine RowAt.drew ?_ | with_reducible refine RowAt.later ?_ _ | with_reducible exact RowAt.newAt (by first | rfl | omega | (simp [later_size, setCells_size]; done) | (simp [later_size, setCells_size]; omega)) | with_reducible refine RowAt.alloc ?_ _ | with_reducible apply RowAt.store | with_reducible refine RowAt.others ?_ ?_ _ _ | with_reducible refine RowAt.other ?_ ?_ _)); all_goals first | omega | (simp; done) | (simp; omega) | (simp [go_sem]; done))⟩, by simp [intOf]; omega⟩
    ·have HZ : Hid (bestS noLe (leHit x.site) leMore ls = (L, fb)) := lh (by
      have h := HK2.out
      rw [List.take_of_length_le (by omega)] at h
      exact h)
     have hfA := ln_fits ⟨x.site, 2, noCf, L⟩
     have hfB := ln_fits ⟨x.site, 3, noCf, L⟩
     cases fb with
     | false =>
      by_cases hu : x.until_ ≤ p0
      ·have e1 : decide (x.until_ ≤ p0) = true := by simpa using hu
       have HR : Hid (O = ⟨x.site, 2, noCf, L⟩) := lh (by rw [HOo.out, HZ.out]; simp [hu])
       clear hu HOo HZ
       go_wp2
       rw [HR.out]
       exact post_row ln_ty Tryz.results78 rfl rfl (RowAt.stored (n := 59) HUr.out rfl rfl (by omega)) ⟨rfl, Ext.setCells HX4.out (by omega) _ _⟩
      ·have e1 : decide (x.until_ ≤ p0) = false := by simpa using hu
       have HR : Hid (O = ⟨x.site, 3, noCf, L⟩) := lh (by rw [HOo.out, HZ.out]; simp [hu])
       clear hu HOo HZ
       go_wp2
       rw [HR.out]
       exact post_row ln_ty Tryz.results78 rfl rfl (RowAt.stored (n := 59) HUr.out rfl rfl (by omega)) ⟨rfl, Ext.setCells HX4.out (by omega) _ _⟩
     | true =>
      by_cases hu : L.until_ ≤ p0
      ·have e1 : decide (L.until_ ≤ p0) = true := by simpa using hu
       have HR : Hid (O = ⟨x.site, 2, noCf, L⟩) := lh (by rw [HOo.out, HZ.out]; simp [hu])
       clear hu HOo HZ
       go_wp2
       rw [HR.out]
       exact post_row ln_ty Tryz.results78 rfl rfl (RowAt.stored (n := 59) HUr.out rfl rfl (by omega)) ⟨rfl, Ext.setCells HX4.out (by omega) _ _⟩
      ·have e1 : decide (L.until_ ≤ p0) = false := by simpa using hu
       have HR : Hid (O = ⟨x.site, 3, noCf, L⟩) := lh (by rw [HOo.out, HZ.out]; simp [hu])
       clear hu HOo HZ
       go_wp2
       rw [HR.out]
       exact post_row ln_ty Tryz.results78 rfl rfl (RowAt.stored (n := 59) HUr.out rfl rfl (by omega)) ⟨rfl, Ext.setCells HX4.out (by omega) _ _⟩
end Go.Proofs.YtpfhmcdcmepfdaaGreatDoor