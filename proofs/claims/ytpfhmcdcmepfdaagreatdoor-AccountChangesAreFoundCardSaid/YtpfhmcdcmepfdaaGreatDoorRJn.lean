
import Derived.WalkKit
import Derived.WalkSpells
import Derived.WalkLawsBesides
import Derived.Deep.QuietTactic
import Derived.BigQuiet
import Derived.Test.YtpfhmcdcmepfdaaGreatDoorRJv
set_option maxRecDepth 100000
set_option maxHeartbeats 64000000
set_option linter.unusedVariables false
set_option linter.unusedSimpArgs false
namespace Go.Proofs.YtpfhmcdcmepfdaaGreatDoor
open Go.RowKit Go.Shelf
open Go.Proofs
theorem rwhole_any (s : Rp) (w : World) (hok : RpOk s) (hl : s.lines.length ≤ 100000) (ha : Reads 59 lnL w w.heap.size s.LA s.lines) :
  Calls Tryz.prog 33 #[.agg (rpC s)] w fun e w' => ∃ A c, e = .returned (.slice A (rpParts s).length c) ∧ ReadsStr w' w'.heap.size A (rpParts s) ∧ (A = none → c = 0) ∧ Ext w w' := by
 have HI0 := lh (fun (A : Option Addr) (c : Nat) (W : World) (hr : ReadsInt W W.heap.size A [s.epoch, s.lo, s.hi, s.serial, (s.lines.length : Int)]) => rwints_ok A c [s.epoch, s.lo, s.hi, s.serial, (s.lines.length : Int)] W (by show 5 ≤ 100000; decide) hr (fun x hx => by
  have h1 := hok.ints x
  simp only [List.mem_cons, List.not_mem_nil, or_false] at hx h1
  rcases hx with rfl | rfl | rfl | rfl | rfl
  ·exact h1 (.inl rfl)
  ·exact h1 (.inr (.inl rfl))
  ·exact h1 (.inr (.inr (.inl rfl)))
  ·exact h1 (.inr (.inr (.inr rfl)))
  ·unfold i64; omega))
 have HIp := lh (fun (k : Nat) (h : k < s.lines.length) (A : Option Addr) (c : Nat) (W : World) (hr : ReadsInt W W.heap.size A [s.lines[k].site, s.lines[k].kind]) => rwints_ok A c [s.lines[k].site, s.lines[k].kind] W (by show 2 ≤ 100000; decide) hr (hok.lines _ (List.getElem_mem h)).ints)
 have HLn := lh hok.lines
 have H16 := lh hok.name.len
 have HAr := lh ha
 have HE : Hid (rpParts s = [strOfNums (encInts [s.epoch, s.lo, s.hi, s.serial, (s.lines.length : Int)]), strOfNums s.name] ++ s.lines.flatMap lnParts) := lh rfl
 have hft := rp_fits s
 clear hok ha
 go_enter Tryz.func33, Tryz.ntmps33
 go_wp2
 refine wp_world (fun W => Ext w W ∧ RowAt W w.heap.size (rpC s) ∧ W.heap.size = w.heap.size + 1) ⟨(by (with_reducible repeat first|exact eR _|apply eD|apply eN|apply eA|apply eO|apply eS|apply eC);all_goals first|omega|simp <;> omega), RowAt.new _ _ _, by simp⟩ ?_
 obtain ⟨B, hB⟩ : ∃ B, w.heap.size = B := ⟨_, rfl⟩
 rw [hB]
 rintro W1 ⟨x1, uB, hs1⟩
 have HX1 := lh x1
 have hlu := uB.lt
 have qB_0 : W1.cell? ⟨B, 0, none⟩ = some (.int .i64 s.epoch) := (uB.cell 0).trans (rp_g0 s)
 have qB_17 : W1.cell? ⟨B, 17, none⟩ = some (.int .i64 s.lo) := (uB.cell 17).trans (rp_g17 s)
 have qB_18 : W1.cell? ⟨B, 18, none⟩ = some (.int .i64 s.hi) := (uB.cell 18).trans (rp_g18 s)
 have qB_20 : W1.cell? ⟨B, 20, none⟩ = some (.int .i64 s.serial) := (uB.cell 20).trans (rp_g20 s)
 have qB_19 : W1.cell? ⟨B, 19, none⟩ = some (.slice s.LA s.lines.length s.lc) := (uB.cell 19).trans (rp_g19 s)
 have HQ19 := lh qB_19
 have rdB_1 := lh (arr_reads ((uB.row 1 16).trans (by rw [if_neg (by omega), rp_s1_16])) H16.out hlu)
 clear x1 uB
 generalize s.LA = LA at *
 refine wp_region_soft 19 (softsL [.eq (.pointer (some ⟨B, 0, none⟩)), .eq (.int .i64 s.epoch), .eq (.pointer (some ⟨B, 17, none⟩)), .eq (.pointer (some ⟨B, 17, none⟩)), .eq (.int .i64 s.lo), .eq (.pointer (some ⟨B, 17, none⟩)), .eq (.pointer (some ⟨B, 18, none⟩)), .eq (.int .i64 s.hi), .eq (.pointer (some ⟨B, 20, none⟩)), .eq (.int .i64 s.serial), .eq (.pointer (some ⟨B, 19, none⟩)), .eq (.slice LA s.lines.length s.lc), .eq (.int .i64 s.lines.length), readI ([s.epoch, s.lo, s.hi, s.serial, (s.lines.length : Int)]), readBy (encInts [s.epoch, s.lo, s.hi, s.serial, (s.lines.length : Int)]), .eq (.string (strOfNums (encInts [s.epoch, s.lo, s.hi, s.serial, (s.lines.length : Int)]))), .eq (.pointer (some ⟨B, 1, none⟩)), .eq (.slice (some ⟨B, 1, none⟩) 16 16), .eq (.string (strOfNums s.name))]) (by kernel_rfl) (by kernel_rfl) (lt_cons ?_ (lt_cons ?_ (lt_cons ?_ (lt_cons ?_ (lt_cons ?_ (lt_cons ?_ (lt_cons ?_ (lt_cons ?_ (lt_cons ?_ (lt_cons ?_ (lt_cons ?_ (lt_cons ?_ (lt_cons ?_ (lt_cons ?_ (lt_cons ?_ (lt_cons ?_ (lt_cons ?_ (lt_cons ?_ (lt_cons ?_ (lt_none)))))))))))))))))))) ?_
 any_goals (refine sop rfl fun xs W HW hsW HD Q' HQ => ?_; simp only [fillAt, dstOf, lc0, lcs, obs, Act.put, lsa, lsz, lss, nz, Nat.reduceAdd] at HQ ⊢)
 ·
  go_wp2
  exact HQ.out _ _ (eR _) rfl
 ·
  have hd0 : xs 0 = .pointer (some ⟨B, 0, none⟩) := (HD.out 0 (dk (by kernel_rfl)))
  generalize xs 0 = x0 at hd0 HQ ⊢; subst hd0
  have hc : W.cell? ⟨B, 0, none⟩ = some (.int .i64 s.epoch) := (HW.out.cell (p := ⟨B, 0, none⟩) (by show B < _; omega)).trans qB_0
  go_wp2
  exact HQ.out _ _ (eR _) rfl
 ·
  go_wp2
  exact HQ.out _ _ (eR _) rfl
 ·
  have hd2 : xs 2 = .pointer (some ⟨B, 17, none⟩) := (HD.out 2 (dk (by kernel_rfl)))
  generalize xs 2 = x2 at hd2 HQ ⊢; subst hd2
  go_wp2
  exact HQ.out _ _ (eR _) rfl
 ·
  have hd3 : xs 3 = .pointer (some ⟨B, 17, none⟩) := (HD.out 3 (dk (by kernel_rfl)))
  generalize xs 3 = x3 at hd3 HQ ⊢; subst hd3
  have hc : W.cell? ⟨B, 17, none⟩ = some (.int .i64 s.lo) := (HW.out.cell (p := ⟨B, 17, none⟩) (by show B < _; omega)).trans qB_17
  go_wp2
  exact HQ.out _ _ (eR _) rfl
 ·
  go_wp2
  exact HQ.out _ _ (eR _) rfl
 ·
  have hd5 : xs 5 = .pointer (some ⟨B, 17, none⟩) := (HD.out 5 (dk (by kernel_rfl)))
  generalize xs 5 = x5 at hd5 HQ ⊢; subst hd5
  go_wp2
  exact HQ.out _ _ (eR _) rfl
 ·
  have hd6 : xs 6 = .pointer (some ⟨B, 18, none⟩) := (HD.out 6 (dk (by kernel_rfl)))
  generalize xs 6 = x6 at hd6 HQ ⊢; subst hd6
  have hc : W.cell? ⟨B, 18, none⟩ = some (.int .i64 s.hi) := (HW.out.cell (p := ⟨B, 18, none⟩) (by show B < _; omega)).trans qB_18
  go_wp2
  exact HQ.out _ _ (eR _) rfl
 ·
  go_wp2
  exact HQ.out _ _ (eR _) rfl
 ·
  have hd8 : xs 8 = .pointer (some ⟨B, 20, none⟩) := (HD.out 8 (dk (by kernel_rfl)))
  generalize xs 8 = x8 at hd8 HQ ⊢; subst hd8
  have hc : W.cell? ⟨B, 20, none⟩ = some (.int .i64 s.serial) := (HW.out.cell (p := ⟨B, 20, none⟩) (by show B < _; omega)).trans qB_20
  go_wp2
  exact HQ.out _ _ (eR _) rfl
 ·
  go_wp2
  exact HQ.out _ _ (eR _) rfl
 ·
  have hd10 : xs 10 = .pointer (some ⟨B, 19, none⟩) := (HD.out 10 (dk (by kernel_rfl)))
  generalize xs 10 = x10 at hd10 HQ ⊢; subst hd10
  have hc : W.cell? ⟨B, 19, none⟩ = some (.slice LA s.lines.length s.lc) := (HW.out.cell (p := ⟨B, 19, none⟩) (by show B < _; omega)).trans qB_19
  go_wp2
  exact HQ.out _ _ (eR _) rfl
 ·
  have hd11 : xs 11 = .slice LA s.lines.length s.lc := (HD.out 11 (dk (by kernel_rfl)))
  generalize xs 11 = x11 at hd11 HQ ⊢; subst hd11
  go_wp2
  exact HQ.out _ _ (eR _) rfl
 ·
  have hd1 : xs 1 = .int .i64 s.epoch := (HD.out 1 (dk (by kernel_rfl)))
  generalize xs 1 = x1 at hd1 HQ ⊢; subst hd1
  have hd4 : xs 4 = .int .i64 s.lo := (HD.out 4 (dk (by kernel_rfl)))
  generalize xs 4 = x4 at hd4 HQ ⊢; subst hd4
  have hd7 : xs 7 = .int .i64 s.hi := (HD.out 7 (dk (by kernel_rfl)))
  generalize xs 7 = x7 at hd7 HQ ⊢; subst hd7
  have hd9 : xs 9 = .int .i64 s.serial := (HD.out 9 (dk (by kernel_rfl)))
  generalize xs 9 = x9 at hd9 HQ ⊢; subst hd9
  have hd12 : xs 12 = .int .i64 s.lines.length := (HD.out 12 (dk (by kernel_rfl)))
  generalize xs 12 = x12 at hd12 HQ ⊢; subst hd12
  go_wp2
  exact HQ.out _ _ ((eR _).alloc _) ⟨_, _, rfl, reads_fresh zE ([s.epoch, s.lo, s.hi, s.serial, (s.lines.length : Int)]) W _ _ rfl⟩
 ·
  obtain ⟨A13, c13, h13, hr13⟩ : (readI ([s.epoch, s.lo, s.hi, s.serial, (s.lines.length : Int)])).S (xs 13) W := (HD.out 13 (dk (by kernel_rfl)))
  generalize xs 13 = x13 at h13 HQ ⊢; subst h13
  go_wp2_with (go_at_call 88; refine (HI0.out A13 c13 _ hr13).mono ?_; rintro e w1 ⟨A, c, rfl, ho, hx⟩)
  exact HQ.out _ _ hx ⟨A, c, rfl, ho.reads bE⟩
 ·
  obtain ⟨A14, c14, h14, hr14⟩ : (readBy (encInts [s.epoch, s.lo, s.hi, s.serial, (s.lines.length : Int)])).S (xs 14) W := (HD.out 14 (dk (by kernel_rfl)))
  generalize xs 14 = x14 at h14 HQ ⊢; subst h14
  have hcv := conv_bytes c14 hr14 (encInts_pos _)
  go_wp2
  exact HQ.out _ _ (eR _) rfl
 ·
  go_wp2
  exact HQ.out _ _ (eR _) rfl
 ·
  have hd16 : xs 16 = .pointer (some ⟨B, 1, none⟩) := (HD.out 16 (dk (by kernel_rfl)))
  generalize xs 16 = x16 at hd16 HQ ⊢; subst hd16
  go_wp2
  exact HQ.out _ _ (eR _) rfl
 ·
  have hd17 : xs 17 = .slice (some ⟨B, 1, none⟩) 16 16 := (HD.out 17 (dk (by kernel_rfl)))
  generalize xs 17 = x17 at hd17 HQ ⊢; subst hd17
  have hcv := conv_bytes 16 (rdB_1.out.on HW.out) (by rw [H16.out]; omega)
  rw [H16.out] at hcv
  go_wp2
  exact HQ.out _ _ (eR _) rfl
 intro xs W3 hW hS
 have h15 : xs 15 = .string (strOfNums (encInts [s.epoch, s.lo, s.hi, s.serial, (s.lines.length : Int)])) := hS 15 (by omega)
 have h18 : xs 18 = .string (strOfNums s.name) := hS 18 (by omega)
 simp only [fillAt, dstOf, lc0, lcs, obs, Act.put, lsa, lsz, lss, nz, Nat.reduceAdd, List.drop_succ_cons, List.drop_zero, List.drop_nil]
 generalize xs 15 = x15 at *; subst h15
 generalize xs 18 = x18 at *; subst h18
 have HW3 := lh (HX1.out.trans hW)
 have HWW3 := lh hW
 clear hS hW qB_0 qB_17 qB_18 qB_20 qB_19
 have hls3 := HWW3.out.size
 generalize strOfNums (encInts [s.epoch, s.lo, s.hi, s.serial, (s.lines.length : Int)]) = T0 at *
 generalize strOfNums s.name = T1 at *
 go_upto_region 2 with (fail)
 refine wp_world (fun W => Ext W1 W ∧ OwnsStr W1.heap.size W (some ⟨W3.heap.size, 0, none⟩) 2 [T0, T1]) ⟨HWW3.out.alloc _, owns_fresh (e := 9) sE [T0, T1] W3 _ _ _ rfl hls3 rfl (by simp)⟩ ?_
 generalize W3.heap.size = g3
 rintro W4 ⟨x4, o4⟩
 have HX4 := lh x4
 have HO4 := lh o4
 have hs4 := x4.size
 clear x4 o4 HI0 rdB_1 HW3 HWW3
 go_wp2
 go_loopw [3, 4] (fun o i wr => ∃ (A2 : Option Addr) (c2 : Nat) (out : List ByteArray) (k : Nat), o = .slice A2 out.length c2 ∧ i = .int .i64 k ∧ k ≤ s.lines.length ∧ out.length ≤ 2 + 6 * k ∧ 2 ≤ out.length ∧ Hid (out = [T0, T1] ++ (s.lines.take k).flatMap lnParts) ∧ Hid (OwnsStr W1.heap.size wr A2 c2 out) ∧ Hid (Ext W1 wr)) (fun _ i _ => s.lines.length - (intOf i).toNat)
 case atStart => exact ⟨_, 2, [T0, T1], 0, rfl, rfl, Nat.zero_le _, Nat.le_refl _, Nat.le_refl _, lh (by simp), HO4, HX4⟩
 case round =>
  obtain ⟨A1, c1, ou1, k, rfl, rfl, hk, hol, hol2, HOu, HOw1, HX⟩ := hrel
  have hsz := HX.out.size
  have qB_19 : wr.cell? ⟨B, 19, none⟩ = some (.slice LA s.lines.length s.lc) := (HX.out.cell (p := ⟨B, 19, none⟩) hlu).trans HQ19.out
  have hlw : B < wr.heap.size := by omega
  by_cases hlt : k < s.lines.length
  ·obtain ⟨b, off, rfl, hb, hrow⟩ := reads_row lnE (HAr.out.ext (HX1.out.trans HX.out) (Nat.le_refl _)) k hlt
   have hb2 : b < wr.heap.size := by omega
   have HI1 := lh (HIp.out k hlt)
   have HN := lh (flat_snoc lnParts s.lines k hlt)
   have hxo := HLn.out _ (List.getElem_mem hlt)
   change rowOf wr b (off + k * 59) 59 = some (lnC s.lines[k]) at hrow
   have hfx := ln_fits s.lines[k]
   clear HIp
   generalize s.lines[k] = x at *
   have HCf := lh (fun W => rcparts_any x.cf W hxo.cf)
   have HLe := lh (fun W => rlparts_any x.le W hxo.le.ints)
   have HcN := lh hxo.cf.sl.len
   have HlN := lh hxo.le.sl.len
   have HPP : Hid (lnParts x = [strOfNums (encInts [x.site, x.kind])] ++ cfParts x.cf ++ [strOfNums x.cf.sl] ++ leParts x.le ++ [strOfNums x.le.sl]) := lh rfl
   have hfcf := cf_fits x.cf
   have hfle := le_fits x.le
   clear hxo
   go_upto_region 6 with (fail)
   refine wp_world (fun W => Ext wr W ∧ RowAt W wr.heap.size (lnC x)) ⟨(by (with_reducible repeat first|exact eR _|apply eD|apply eN|apply eA|apply eO|apply eS|apply eC);all_goals first|omega|simp <;> omega), (RowAt.newAt (by simp)).store rfl⟩ ?_
   generalize hg : wr.heap.size = g
   rintro W5 ⟨x5, ug⟩
   have HX5 := lh x5
   have HUg5 := lh ug
   have hl5 := ug.lt
   have hs5 := x5.size
   have qg_0 : W5.cell? ⟨g, 0, none⟩ = some (.int .i64 x.site) := (ug.cell 0).trans (ln_g0 x)
   have qg_1 : W5.cell? ⟨g, 1, none⟩ = some (.int .i64 x.kind) := (ug.cell 1).trans (ln_g1 x)
   clear ug x5 hrow qB_19
   have HIn : Hid (∀ (b : Nat) (W : World) (t : TypeId), b = W.heap.size → Calls Tryz.prog 88 #[.slice (some ⟨b, 0, none⟩) 2 2] (W.alloc (.cells #[.int .i64 x.site, .int .i64 x.kind] t)) (BytesIs (encInts [x.site, x.kind]) (W.alloc (.cells #[.int .i64 x.site, .int .i64 x.kind] t)))) := lh (fun b W t hb => by
    subst hb
    exact HI1.out _ 2 _ (reads_fresh zE [x.site, x.kind] W _ t rfl))
   clear HI1
   go_upto_region 7 with (first
    | (go_at_call 88; refine (HIn.out _ _ _ rfl).mono ?_; rintro e w1 ⟨Ab, cb, rfl, ho, hx⟩; have hcv := conv_bytes cb (ho.reads bE) (encInts_pos _); have HXb : Hid (Ext wr w1) := lh ((HX5.out.alloc _).trans hx); have HRb := lh ((HUg5.out.alloc _).ext hx); have hsb := HXb.out.size; clear ho hx)
    | (at_builtin; refine app_from strT sE rfl _ _ rfl W1.heap.size _ _ ou1 rfl (HOw1.out.ext (HXb.out.alloc _)) _ 1 _ [strOfNums (encInts [x.site, x.kind])] rfl rfl (new_cellsAt rfl _ _) (by omega) (by omega) (by first | omega | (simp; omega)) ?_; intro A2 c2 oa w7 HLoa HO7 hB7 hl1 hl2 hg7))
   refine wp_world (fun W => Ext W1 W ∧ RowAt W g (lnC x) ∧ OwnsStr W1.heap.size W A2 c2 oa) ⟨(HX.out.trans (HXb.out.alloc _)).grown hB7 (Nat.le_refl _), RowAt.grown (HRb.out.alloc _) hg7 (owns_not_row (HOw1.out.ext HXb.out) (by intro e; rw [e] at hol2; simp at hol2) HRb.out (ln_g0 x) (fun s h => by cases h)), HO7⟩ ?_
   have hoa1 : oa.length ≤ 2 + 6 * k + 1 := by omega
   have hol2 : 2 ≤ oa.length := by omega
   clear hB7 hg7 HXb HRb HO7 HX5 HUg5 hl1 hl2 hcv HIn qg_0 qg_1 hol
   rintro W6 ⟨x6, u6, o6⟩
   have HXr := lh x6
   have HRg := lh u6
   have HOw := lh o6
   have hs6 := x6.size
   have hlg6 := u6.lt
   clear x6 u6 o6
   have kk : rowOf W6 g 2 37 = some (cfC x.cf) := by rw [HRg.out.row, if_neg (by omega), ln_s2_37]
   go_upto_region 8 with (first
    | (go_at_call 64; refine (HCf.out _).mono ?_; rintro e w1 ⟨Ab, cb, rfl, hr9, hz9, hx⟩; have HXs : Hid (Ext W1 w1) := lh (HXr.out.trans hx); have HRs := lh (HRg.out.ext hx); have HOs := lh (HOw.out.ext hx); have hss := hx.size; clear hx)
    | (at_builtin; refine app_reads strT sE rfl _ _ rfl W1.heap.size _ _ oa rfl HOs.out w1.heap.size _ _ (cfParts x.cf) rfl hr9 hz9 (by have h9 : (cfParts x.cf).length ≤ 2 := Nat.le_of_ble_eq_true rfl; omega) (by have h9 : (cfParts x.cf).length ≤ 2 := Nat.le_of_ble_eq_true rfl; omega) (by omega) ?_; intro A3 c3 ob w7 HLob HO7 hB7 hl1 hl2 hg7))
   clear hr9 hz9 kk hss
   refine wp_world (fun W => Ext W1 W ∧ RowAt W g (lnC x) ∧ OwnsStr W1.heap.size W A3 c3 ob) ⟨HXs.out.grown hB7 (Nat.le_refl _), RowAt.grown HRs.out hg7 (owns_not_row HOs.out (by intro e; rw [e] at hol2; simp at hol2) HRs.out (ln_g0 x) (fun s h => by cases h)), HO7⟩ ?_
   clear HXr HRg HOw HXs HRs HOs HO7 hB7 hg7 hs6 hlg6
   have hp : (cfParts x.cf).length = 2 := rfl
   have hob1 : ob.length ≤ 2 + 6 * k + 3 := by omega
   have hol2 : 2 ≤ ob.length := by omega
   clear hl1 hl2 hp
   rintro W7 ⟨x6, u6, o6⟩
   have HXr := lh x6
   have HRg := lh u6
   have HOw := lh o6
   have hs6 := x6.size
   have hlg6 := u6.lt
   clear x6 u6 o6
   have hcv := conv_bytes 16 (arr_reads ((HRg.out.row 23 16).trans (by rw [if_neg (by omega), ln_s23_16])) HcN.out HRg.out.lt) (by rw [HcN.out]; omega)
   rw [HcN.out] at hcv
   have HXs : Hid (Ext W1 (W7.alloc (.cells #[.string (strOfNums x.cf.sl)] 9))) := lh (HXr.out.alloc _)
   have HRs : Hid (RowAt (W7.alloc (.cells #[.string (strOfNums x.cf.sl)] 9)) g (lnC x)) := lh (HRg.out.alloc _)
   have HOs : Hid (OwnsStr W1.heap.size (W7.alloc (.cells #[.string (strOfNums x.cf.sl)] 9)) A3 c3 ob) := lh (HOw.out.alloc _)
   go_upto_region 9 with (at_builtin; refine app_from strT sE rfl _ _ rfl W1.heap.size _ _ ob rfl HOs.out _ 1 _ [strOfNums x.cf.sl] rfl rfl (new_cellsAt rfl _ _) (by omega) (by omega) (by first | omega | (simp; omega)) ?_; intro A4 c4 oc w7 HLoc HO7 hB7 hl1 hl2 hg7)
   clear hcv
   refine wp_world (fun W => Ext W1 W ∧ RowAt W g (lnC x) ∧ OwnsStr W1.heap.size W A4 c4 oc) ⟨HXs.out.grown hB7 (Nat.le_refl _), RowAt.grown HRs.out hg7 (owns_not_row HOs.out (by intro e; rw [e] at hol2; simp at hol2) HRs.out (ln_g0 x) (fun s h => by cases h)), HO7⟩ ?_
   clear HXr HRg HOw HXs HRs HOs HO7 hB7 hg7 hs6 hlg6
   have hoc1 : oc.length ≤ 2 + 6 * k + 4 := by omega
   have hol2 : 2 ≤ oc.length := by omega
   clear hl1 hl2
   rintro W8 ⟨x6, u6, o6⟩
   have HXr := lh x6
   have HRg := lh u6
   have HOw := lh o6
   have hs6 := x6.size
   have hlg6 := u6.lt
   clear x6 u6 o6
   have kk : rowOf W8 g 39 20 = some (leC x.le) := by rw [HRg.out.row, if_neg (by omega), ln_s39_20]
   go_upto_region 10 with (first
    | (go_at_call 89; refine (HLe.out _).mono ?_; rintro e w1 ⟨Ab, cb, rfl, hr9, hz9, hx⟩; have HXs : Hid (Ext W1 w1) := lh (HXr.out.trans hx); have HRs := lh (HRg.out.ext hx); have HOs := lh (HOw.out.ext hx); have hss := hx.size; clear hx)
    | (at_builtin; refine app_reads strT sE rfl _ _ rfl W1.heap.size _ _ oc rfl HOs.out w1.heap.size _ _ (leParts x.le) rfl hr9 hz9 (by have h9 : (leParts x.le).length ≤ 2 := Nat.le_of_ble_eq_true rfl; omega) (by have h9 : (leParts x.le).length ≤ 2 := Nat.le_of_ble_eq_true rfl; omega) (by omega) ?_; intro A5 c5 od w7 HLod HO7 hB7 hl1 hl2 hg7))
   clear hr9 hz9 kk hss
   refine wp_world (fun W => Ext W1 W ∧ RowAt W g (lnC x) ∧ OwnsStr W1.heap.size W A5 c5 od) ⟨HXs.out.grown hB7 (Nat.le_refl _), RowAt.grown HRs.out hg7 (owns_not_row HOs.out (by intro e; rw [e] at hol2; simp at hol2) HRs.out (ln_g0 x) (fun s h => by cases h)), HO7⟩ ?_
   clear HXr HRg HOw HXs HRs HOs HO7 hB7 hg7 hs6 hlg6
   have hp : (leParts x.le).length = 1 := rfl
   have hod1 : od.length ≤ 2 + 6 * k + 5 := by omega
   have hol2 : 2 ≤ od.length := by omega
   clear hl1 hl2 hp
   rintro W9 ⟨x6, u6, o6⟩
   have HXr := lh x6
   have HRg := lh u6
   have HOw := lh o6
   have hs6 := x6.size
   have hlg6 := u6.lt
   clear x6 u6 o6
   have hcv := conv_bytes 16 (arr_reads ((HRg.out.row 43 16).trans (by rw [if_neg (by omega), ln_s43_16])) HlN.out HRg.out.lt) (by rw [HlN.out]; omega)
   rw [HlN.out] at hcv
   have HXs : Hid (Ext W1 (W9.alloc (.cells #[.string (strOfNums x.le.sl)] 9))) := lh (HXr.out.alloc _)
   have HRs : Hid (RowAt (W9.alloc (.cells #[.string (strOfNums x.le.sl)] 9)) g (lnC x)) := lh (HRg.out.alloc _)
   have HOs : Hid (OwnsStr W1.heap.size (W9.alloc (.cells #[.string (strOfNums x.le.sl)] 9)) A5 c5 od) := lh (HOw.out.alloc _)
   go_upto_region 4 with (at_builtin; refine app_from strT sE rfl _ _ rfl W1.heap.size _ _ od rfl HOs.out _ 1 _ [strOfNums x.le.sl] rfl rfl (new_cellsAt rfl _ _) (by omega) (by omega) (by first | omega | (simp; omega)) ?_; intro A6 c6 oe w7 HLoe HO7 hB7 hl1 hl2 hg7)
   clear hcv
   have HFin : Hid (oe = [T0, T1] ++ (s.lines.take (k + 1)).flatMap lnParts) := lh (by rw [HLoe.out, HLod.out, HLoc.out, HLob.out, HLoa.out, HN.out, HOu.out, HPP.out]; simp only [List.append_assoc])
   go_wp2
   go_roundw
   case rel => exact ⟨A6, c6, oe, k + 1, rfl, by go_num, by omega, by omega, by omega, HFin, lh HO7, lh (HXs.out.grown hB7 (Nat.le_refl _))⟩
   case measure => simp [intOf]; omega
  ·have e1 : k = s.lines.length := by omega
   subst e1
   have HOf : Hid (ou1 = rpParts s) := lh (by rw [HOu.out, List.take_of_length_le (Nat.le_refl _), HE.out])
   go_wp2
   go_ret
   obtain rfl := HOf.out
   exact ⟨A1, c1, rfl, HOw1.out.reads sE, HOw1.out.none0, HX1.out.trans HX.out⟩
end Go.Proofs.YtpfhmcdcmepfdaaGreatDoor