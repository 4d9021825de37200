
import Derived.WalkKit
import Derived.WalkSpells
import Derived.WalkLawsBesides
import Derived.Deep.QuietTactic
import Derived.BigQuiet
import Derived.Test.YtpfhmcdcmepfdaaGreatDoorUKd
import Derived.Test.YtpfhmcdcmepfdaaGreatDoorUJr
set_option maxRecDepth 100000
set_option maxHeartbeats 64000000
set_option linter.unusedVariables false
set_option linter.unusedSimpArgs false
namespace Go.Proofs.YtpfhmcdcmepfdaaGreatDoor
open Go.RowKit Go.Shelf
open Go.Proofs
theorem rwhole_any (s : Rp) (w : World) (hok : RpOk s) (hl : s.lines.length ≤ 100000) (ha : Reads 59 lnL w w.heap.size s.LA s.lines) :
  Calls Tryz.prog 33 #[.agg (rpC s)] w fun e w' => ∃ A c, e = .returned (.slice A (rpParts s).length c) ∧ ReadsStr w' w'.heap.size A (rpParts s) ∧ (A = none → c = 0) ∧ Ext w w' := by
 have HI0 := lh (fun (A : Option Addr) (c : Nat) (W : World) (hr : ReadsInt W W.heap.size A [s.epoch, s.lo, s.hi, s.serial, (s.lines.length : Int)]) => rwints_ok A c [s.epoch, s.lo, s.hi, s.serial, (s.lines.length : Int)] W (by show 5 ≤ 100000; decide) hr (fun x hx => by
  have h1 := hok.ints x
  simp only [List.mem_cons, List.not_mem_nil, or_false] at hx h1
  rcases hx with rfl | rfl | rfl | rfl | rfl
  ·exact h1 (.inl rfl)
  ·exact h1 (.inr (.inl rfl))
  ·exact h1 (.inr (.inr (.inl rfl)))
  ·exact h1 (.inr (.inr (.inr rfl)))
  ·unfold i64; omega))
 have HIp := lh (fun (k : Nat) (h : k < s.lines.length) (A : Option Addr) (c : Nat) (W : World) (hr : ReadsInt W W.heap.size A [s.lines[k].site, s.lines[k].kind]) => rwints_ok A c [s.lines[k].site, s.lines[k].kind] W (by show 2 ≤ 100000; decide) hr (hok.lines _ (List.getElem_mem h)).ints)
 have HLn := lh hok.lines
 have H16 := lh hok.name.len
 have HAr := lh ha
 have HE : Hid (rpParts s = [strOfNums (encInts [s.epoch, s.lo, s.hi, s.serial, (s.lines.length : Int)]), strOfNums s.name] ++ s.lines.flatMap lnParts) := lh rfl
 have hft := rp_fits s
 clear hok ha
 go_enter Tryz.func33, Tryz.ntmps33
 go_wp2
 refine wp_world (fun W => Ext w W ∧ RowAt W w.heap.size (rpC s) ∧ W.heap.size = w.heap.size + 1) ⟨(by (with_reducible repeat first|exact eR _|apply eD|apply eN|apply eA|apply eO|apply eS|apply eC);all_goals first|omega|simp <;> omega), RowAt.new _ _ _, by simp⟩ ?_
 obtain ⟨B, hB⟩ : ∃ B, w.heap.size = B := ⟨_, rfl⟩
 rw [hB]
 rintro W1 ⟨x1, uB, hs1⟩
 have HX1 := lh x1
 have hlu := uB.lt
 have qB_0 : W1.cell? ⟨B, 0, none⟩ = some (.int .i64 s.epoch) := (uB.cell 0).trans (rp_g0 s)
 have qB_17 : W1.cell? ⟨B, 17, none⟩ = some (.int .i64 s.lo) := (uB.cell 17).trans (rp_g17 s)
 have qB_18 : W1.cell? ⟨B, 18, none⟩ = some (.int .i64 s.hi) := (uB.cell 18).trans (rp_g18 s)
 have qB_20 : W1.cell? ⟨B, 20, none⟩ = some (.int .i64 s.serial) := (uB.cell 20).trans (rp_g20 s)
 have qB_19 : W1.cell? ⟨B, 19, none⟩ = some (.slice s.LA s.lines.length s.lc) := (uB.cell 19).trans (rp_g19 s)
 have HQ19 := lh qB_19
 have rdB_1 := lh (arr_reads ((uB.row 1 16).trans (by rw [if_neg (by omega), rp_s1_16])) H16.out hlu)
 clear x1 uB
 generalize s.LA = LA at *
 refine wp_region_soft 19 (softsL [.eq (.pointer (some ⟨B, 0, none⟩)), .eq (.int .i64 s.epoch), .eq (.pointer (some ⟨B, 17, none⟩)), .eq (.pointer (some ⟨B, 17, none⟩)), .eq (.int .i64 s.lo), .eq (.pointer (some ⟨B, 17, none⟩)), .eq (.pointer (some ⟨B, 18, none⟩)), .eq (.int .i64 s.hi), .eq (.pointer (some ⟨B, 20, none⟩)), .eq (.int .i64 s.serial), .eq (.pointer (some ⟨B, 19, none⟩)), .eq (.slice LA s.lines.length s.lc), .eq (.int .i64 s.lines.length), readI ([s.epoch, s.lo, s.hi, s.serial, (s.lines.length : Int)]), readBy (encInts [s.epoch, s.lo, s.hi, s.serial, (s.lines.length : Int)]), .eq (.string (strOfNums (encInts [s.epoch, s.lo, s.hi, s.serial, (s.lines.length : Int)]))), .eq (.pointer (some ⟨B, 1, none⟩)), .eq (.slice (some ⟨B, 1, none⟩) 16 16), .eq (.string (strOfNums s.name))]) (by kernel_rfl) (by kernel_rfl) (lt_cons ?_ (lt_cons ?_ (lt_cons ?_ (lt_cons ?_ (lt_cons ?_ (lt_cons ?_ (lt_cons ?_ (lt_cons ?_ (lt_cons ?_ (lt_cons ?_ (lt_cons ?_ (lt_cons ?_ (lt_cons ?_ (lt_cons ?_ (lt_cons ?_ (lt_cons ?_ (lt_cons ?_ (lt_cons ?_ (lt_cons ?_ (lt_none)))))))))))))))))))) ?_
 any_goals (refine sop rfl fun xs W HW hsW HD Q' HQ => ?_; simp only [fillAt, dstOf, lc0, lcs, obs, Act.put, lsa, lsz, lss, nz, Nat.reduceAdd] at HQ ⊢)
 ·
  go_wp2
  exact HQ.out _ _ (eR _) rfl
 ·
  have hd0 : xs 0 = .pointer (some ⟨B, 0, none⟩) := (HD.out 0 (dk (by kernel_rfl)))
  generalize xs 0 = x0 at hd0 HQ ⊢; subst hd0
  have hc : W.cell? ⟨B, 0, none⟩ = some (.int .i64 s.epoch) := (HW.out.cell (p := ⟨B, 0, none⟩) (by show B < _; omega)).trans qB_0
  go_wp2
  exact HQ.out _ _ (eR _) rfl
 ·
  go_wp2
  exact HQ.out _ _ (eR _) rfl
 ·
  have hd2 : xs 2 = .pointer (some ⟨B, 17, none⟩) := (HD.out 2 (dk (by kernel_rfl)))
  generalize xs 2 = x2 at hd2 HQ ⊢; subst hd2
  go_wp2
  exact HQ.out _ _ (eR _) rfl
 ·
  have hd3 : xs 3 = .pointer (some ⟨B, 17, none⟩) := (HD.out 3 (dk (by kernel_rfl)))
  generalize xs 3 = x3 at hd3 HQ ⊢; subst hd3
  have hc : W.cell? ⟨B, 17, none⟩ = some (.int .i64 s.lo) := (HW.out.cell (p := ⟨B, 17, none⟩) (by show B < _; omega)).trans qB_17
  go_wp2
  exact HQ.out _ _ (eR _) rfl
 ·
  go_wp2
  exact HQ.out _ _ (eR _) rfl
 ·
  have hd5 : xs 5 = .pointer (some ⟨B, 17, none⟩) := (HD.out 5 (dk (by kernel_rfl)))
  generalize xs 5 = x5 at hd5 HQ ⊢; subst hd5
  go_wp2
  exact HQ.out _ _ (eR _) rfl
 ·
  have hd6 : xs 6 = .pointer (some ⟨B, 18, none⟩) := (HD.out 6 (dk (by kernel_rfl)))
  generalize xs 6 = x6 at hd6 HQ ⊢; subst hd6
  have hc : W.cell? ⟨B, 18, none⟩ = some (.int .i64 s.hi) := (HW.out.cell (p := ⟨B, 18, none⟩) (by show B < _; omega)).trans qB_18
  go_wp2
  exact HQ.out _ _ (eR _) rfl
 ·
  go_wp2
  exact HQ.out _ _ (eR _) rfl
 ·
  have hd8 : xs 8 = .pointer (some ⟨B, 20, none⟩) := (HD.out 8 (dk (by kernel_rfl)))
  generalize xs 8 = x8 at hd8 HQ ⊢; subst hd8
  have hc : W.cell? ⟨B, 20, none⟩ = some (.int .i64 s.serial) := (HW.out.cell (p := ⟨B, 20, none⟩) (by show B < _; omega)).trans qB_20
  go_wp2
  exact HQ.out _ _ (eR _) rfl
 ·
  go_wp2
  exact HQ.out _ _ (eR _) rfl
 ·
  have hd10 : xs 10 = .pointer (some ⟨B, 19, none⟩) := (HD.out 10 (dk (by kernel_rfl)))
  generalize xs 10 = x10 at hd10 HQ ⊢; subst hd10
  have hc : W.cell? ⟨B, 19, none⟩ = some (.slice LA s.lines.length s.lc) := (HW.out.cell (p := ⟨B, 19, none⟩) (by show B < _; omega)).trans qB_19
  go_wp2
  exact HQ.out _ _ (eR _) rfl
 ·
  have hd11 : xs 11 = .slice LA s.lines.length s.lc := (HD.out 11 (dk (by kernel_rfl)))
  generalize xs 11 = x11 at hd11 HQ ⊢; subst hd11
  go_wp2
  exact HQ.out _ _ (eR _) rfl
 ·
  have hd1 : xs 1 = .int .i64 s.epoch := (HD.out 1 (dk (by kernel_rfl)))
  generalize xs 1 = x1 at hd1 HQ ⊢; subst hd1
  have hd4 : xs 4 = .int .i64 s.lo := (HD.out 4 (dk (by kernel_rfl)))
  generalize xs 4 = x4 at hd4 HQ ⊢; subst hd4
  have hd7 : xs 7 = .int .i64 s.hi := (HD.out 7 (dk (by kernel_rfl)))
  generalize xs 7 = x7 at hd7 HQ ⊢; subst hd7
  have hd9 : xs 9 = .int .i64 s.serial := (HD.out 9 (dk (by kernel_rfl)))
  generalize xs 9 = x9 at hd9 HQ ⊢; subst hd9
  have hd12 : xs 12 = .int .i64 s.lines.length := (HD.out 12 (dk (by kernel_rfl)))
  generalize xs 12 = x12 at hd12 HQ ⊢; subst hd12
  go_wp2
  exact HQ.out _ _ ((eR _).alloc _) ⟨_, _, rfl, reads_fresh zE ([s.epoch, s.lo, s.hi, s.serial, (s.lines.length : Int)]) W _ _ rfl⟩
 ·
  obtain ⟨A13, c13, h13, hr13⟩ : (readI ([s.epoch, s.lo, s.hi, s.serial, (s.lines.length : Int)])).S (xs 13) W := (HD.out 13 (dk (by kernel_rfl)))
  generalize xs 13 = x13 at h13 HQ ⊢; subst h13
  go_wp2_with (go_at_call 88; refine (HI0.out A13 c13 _ hr13).mono ?_; rintro e w1 ⟨A, c, rfl, ho, hx⟩)
  exact HQ.out _ _ hx ⟨A, c, rfl, ho.reads bE⟩
 ·
  obtain ⟨A14, c14, h14, hr14⟩ : (readBy (encInts [s.epoch, s.lo, s.hi, s.serial, (s.lines.length : Int)])).S (xs 14) W := (HD.out 14 (dk (by kernel_rfl)))
  generalize xs 14 = x14 at h14 HQ ⊢; subst h14
  have hcv := conv_bytes c14 hr14 (encInts_pos _)
  go_wp2
  exact HQ.out _ _ (eR _) rfl
 ·
  go_wp2
  exact HQ.out _ _ (eR _) rfl
 ·
  have hd16 : xs 16 = .pointer (some ⟨B, 1, none⟩) := (HD.out 16 (dk (by kernel_rfl)))
  generalize xs 16 = x16 at hd16 HQ ⊢; subst hd16
  go_wp2
  exact HQ.out _ _ (eR _) rfl
 ·
  have hd17 : xs 17 = .slice (some ⟨B, 1, none⟩) 16 16 := (HD.out 17 (dk (by kernel_rfl)))
  generalize xs 17 = x17 at hd17 HQ ⊢; subst hd17
  have hcv := conv_bytes 16 (rdB_1.out.on HW.out) (by rw [H16.out]; omega)
  rw [H16.out] at hcv
  go_wp2
  exact HQ.out _ _ (eR _) rfl
 intro xs W3 hW hS
 have h15 : xs 15 = .string (strOfNums (encInts [s.epoch, s.lo, s.hi, s.serial, (s.lines.length : Int)])) := hS 15 (by omega)
 have h18 : xs 18 = .string (strOfNums s.name) := hS 18 (by omega)
 simp only [fillAt, dstOf, lc0, lcs, obs, Act.put, lsa, lsz, lss, nz, Nat.reduceAdd, List.drop_succ_cons, List.drop_zero, List.drop_nil]
 generalize xs 15 = x15 at *; subst h15
 generalize xs 18 = x18 at *; subst h18
 have HW3 := lh (HX1.out.trans hW)
 have HWW3 := lh hW
 clear hS hW qB_0 qB_17 qB_18 qB_20 qB_19
 have hls3 := HWW3.out.size
 generalize strOfNums (encInts [s.epoch, s.lo, s.hi, s.serial, (s.lines.length : Int)]) = T0 at *
 generalize strOfNums s.name = T1 at *
 go_upto_region 2 with (fail)
 refine wp_world (fun W => Ext W1 W ∧ OwnsStr W1.heap.size W (some ⟨W3.heap.size, 0, none⟩) 2 [T0, T1]) ⟨HWW3.out.alloc _, owns_fresh (e := 9) sE [T0, T1] W3 _ _ _ rfl hls3 rfl (by simp)⟩ ?_
 generalize W3.heap.size = g3
 rintro W4 ⟨x4, o4⟩
 have HX4 := lh x4
 have HO4 := lh o4
 have hs4 := x4.size
 clear x4 o4 HI0 rdB_1 HW3 HWW3
 go_wp2
 go_loopw [3, 4] (fun o i wr => ∃ (A2 : Option Addr) (c2 : Nat) (out : List ByteArray) (k : Nat), o = .slice A2 out.length c2 ∧ i = .int .i64 k ∧ k ≤ s.lines.length ∧ out.length ≤ 2 + 6 * k ∧ 2 ≤ out.length ∧ Hid (out = [T0, T1] ++ (s.lines.take k).flatMap lnParts) ∧ Hid (OwnsStr W1.heap.size wr A2 c2 out) ∧ Hid (Ext W1 wr)) (fun _ i _ => s.lines.length - (intOf i).toNat)
 case atStart => exact ⟨_, 2, [T0, T1], 0, rfl, rfl, Nat.zero_le _, Nat.le_refl _, Nat.le_refl _, lh (by simp), HO4, HX4⟩
 case round =>
  obtain ⟨A1, c1, ou1, k, rfl, rfl, hk, hol, hol2, HOu, HOw1, HX⟩ := hrel
  have hsz := HX.out.size
  have qB_19 : wr.cell? ⟨B, 19, none⟩ = some (.slice LA s.lines.length s.lc) := (HX.out.cell (p := ⟨B, 19, none⟩) hlu).trans HQ19.out
  have hlw : B < wr.heap.size := by omega
  by_cases hlt : k < s.lines.length
  ·obtain ⟨b, off, rfl, hb, hrow⟩ := reads_row lnE (HAr.out.ext (HX1.out.trans HX.out) (Nat.le_refl _)) k hlt
   have hb2 : b < wr.heap.size := by omega
   have HI1 := lh (HIp.out k hlt)
   have HN := lh (flat_snoc lnParts s.lines k hlt)
   have hxo := HLn.out _ (List.getElem_mem hlt)
   change rowOf wr b (off + k * 59) 59 = some (lnC s.lines[k]) at hrow
   have hfx := ln_fits s.lines[k]
   clear HIp
   generalize s.lines[k] = x at *
   have HCf := lh (fun W => rcparts_any x.cf W hxo.cf)
   have HLe := lh (fun W => rlparts_any x.le W hxo.le.ints)
   have HcN := lh hxo.cf.sl.len
   have HlN := lh hxo.le.sl.len
   have HPP : Hid (lnParts x = [strOfNums (encInts [x.site, x.kind])] ++ cfParts x.cf ++ [strOfNums x.cf.sl] ++ leParts x.le ++ [strOfNums x.le.sl]) := lh rfl
   have hfcf := cf_fits x.cf
   have hfle := le_fits x.le
   clear hxo
   go_upto_region 6 with (fail)
   refine wp_world (fun W => Ext wr W ∧ RowAt W wr.heap.size (lnC x)) ⟨(by (with_reducible repeat first|exact eR _|apply eD|apply eN|apply eA|apply eO|apply eS|apply eC);all_goals first|omega|simp <;> omega), (RowAt.newAt (by simp)).store rfl⟩ ?_
   generalize hg : wr.heap.size = g
   rintro W5 ⟨x5, ug⟩
   have HX5 := lh x5
   have HUg5 := lh ug
   have hl5 := ug.lt
   have hs5 := x5.size
   have qg_0 : W5.cell? ⟨g, 0, none⟩ = some (.int .i64 x.site) := (ug.cell 0).trans (ln_g0 x)
   have qg_1 : W5.cell? ⟨g, 1, none⟩ = some (.int .i64 x.kind) := (ug.cell 1).trans (ln_g1 x)
   clear ug x5 hrow qB_19
   have HIn : Hid (∀ (b : Nat) (W : World) (t : TypeId), b = W.heap.size → Calls Tryz.prog 88 #[.slice (some ⟨b, 0, none⟩) 2 2] (W.alloc (.cells #[.int .i64 x.site, .int .i64 x.kind] t)) (BytesIs (encInts [x.site, x.kind]) (W.alloc (.cells #[.int .i64 x.site, .int .i64 x.kind] t)))) := lh (fun b W t hb => by
    subst hb
    exact HI1.out _ 2 _ (reads_fresh zE [x.site, x.kind] W _ t rfl))
   clear HI1
   go_upto_region 7 with (first
    | (go_at_call 88; refine (HIn.out _ _ _ rfl).mono ?_; rintro e w1 ⟨Ab, cb, rfl, ho, hx⟩; have hcv := conv_bytes cb (ho.reads bE) (encInts_pos _); have HXb : Hid (Ext wr w1) := lh ((HX5.out.alloc _).trans hx); have HRb := lh ((HUg5.out.alloc _).ext hx); have hsb := HXb.out.size; clear ho hx)
    | (at_builtin; refine app_from strT sE rfl _ _ rfl W1.heap.size _ _ ou1 rfl (HOw1.out.ext (HXb.out.alloc _)) _ 1 _ [strOfNums (encInts [x.site, x.kind])] rfl rfl (new_cellsAt rfl _ _) (by omega) (by omega) (by first | omega | (simp; omega)) ?_; intro A2 c2 oa w7 HLoa HO7 hB7 hl1 hl2 hg7))
   refine wp_world (fun W => Ext W1 W ∧ RowAt W g (lnC x) ∧ OwnsStr W1.heap.size W A2 c2 oa) ⟨(HX.out.trans (HXb.out.alloc _)).grown hB7 (Nat.le_refl _), RowAt.grown (HRb.out.alloc _) hg7 (owns_not_row (HOw1.out.ext HXb.out) (by intro e; rw [e] at hol2; simp at hol2) HRb.out (ln_g0 x) (fun s h => by cases h)), HO7⟩ ?_
   have hoa1 : oa.length ≤ 2 + 6 * k + 1 := by omega
   have hol2 : 2 ≤ oa.length := by omega
   clear hB7 hg7 HXb HRb HO7 HX5 HUg5 hl1 hl2 hcv HIn qg_0 qg_1 hol
   rintro W6 ⟨x6, u6, o6⟩
   have HXr := lh x6
   have HRg := lh u6
   have HOw := lh o6
   have hs6 := x6.size
   have hlg6 := u6.lt
   clear x6 u6 o6
   have kk : rowOf W6 g 2 37 = some (cfC x.cf) := by rw [HRg.out.row, if_neg (by omega), ln_s2_37]
   go_upto_region 8 with (first
    | (go_at_call 64; refine (HCf.out _).mono ?_; rintro e w1 ⟨Ab, cb, rfl, hr9, hz9, hx⟩; have HXs : Hid (Ext W1 w1) := lh (HXr.out.trans hx); have HRs := lh (HRg.out.ext hx); have HOs := lh (HOw.out.ext hx); have hss := hx.size; clear hx)
    | (at_builtin; refine app_reads strT sE rfl _ _ rfl W1.heap.size _ _ oa rfl HOs.out w1.heap.size _ _ (cfParts x.cf) rfl hr9 hz9 (by have h9 : (cfParts x.cf).length ≤ 2 := Nat.le_of_ble_eq_true rfl; omega) (by have h9 : (cfParts x.cf).length ≤ 2 := Nat.le_of_ble_eq_true rfl; omega) (by omega) ?_; intro A3 c3 ob w7 HLob HO7 hB7 hl1 hl2 hg7))
   clear hr9 hz9 kk hss
   refine wp_world (fun W => Ext W1 W ∧ RowAt W g (lnC x) ∧ OwnsStr W1.heap.size W A3 c3 ob) ⟨HXs.out.grown hB7 (Nat.le_refl _), RowAt.grown HRs.out hg7 (owns_not_row HOs.out (by intro e; rw [e] at hol2; simp at hol2) HRs.out (ln_g0 x) (fun s h => by cases h)), HO7⟩ ?_
   clear HXr HRg HOw HXs HRs HOs HO7 hB7 hg7 hs6 hlg6
   have hp : (cfParts x.cf).length = 2 := rfl
   have hob1 : ob.length ≤ 2 + 6 * k + 3 := by omega
   have hol2 : 2 ≤ ob.length := by omega
   clear hl1 hl2 hp
   rintro W7 ⟨x6, u6, o6⟩
   have HXr := lh x6
   have HRg := lh u6
   have HOw := lh o6
   have hs6 := x6.size
   have hlg6 := u6.lt
   clear x6 u6 o6
   have hcv := conv_bytes 16 (arr_reads ((HRg.out.row 23 16).trans (by rw [if_neg (by omega), ln_s23_16])) HcN.out HRg.out.lt) (by rw [HcN.out]; omega)
   rw [HcN.out] at hcv
   have HXs : Hid (Ext W1 (W7.alloc (.cells #[.string (strOfNums x.cf.sl)] 9))) := lh (HXr.out.alloc _)
   have HRs : Hid (RowAt (W7.alloc (.cells #[.string (strOfNums x.cf.sl)] 9)) g (lnC x)) := lh (HRg.out.alloc _)
   have HOs : Hid (OwnsStr W1.heap.size (W7.alloc (.cells #[.string (strOfNums x.cf.sl)] 9)) A3 c3 ob) := lh (HOw.out.alloc _)
   go_upto_region 9 with (at_builtin; refine app_from strT sE rfl _ _ rfl W1.heap.size _ _ ob rfl HOs.out _ 1 _ [strOfNums x.cf.sl] rfl rfl (new_cellsAt rfl _ _) (by omega) (by omega) (by first | omega | (simp; omega)) ?_; intro A4 c4 oc w7 HLoc HO7 hB7 hl1 hl2 hg7)
   clear hcv
   refine wp_world (fun W => Ext W1 W ∧ RowAt W g (lnC x) ∧ OwnsStr W1.heap.size W A4 c4 oc) ⟨HXs.out.grown hB7 (Nat.le_refl _), RowAt.grown HRs.out hg7 (owns_not_row HOs.out (by intro e; rw [e] at hol2; simp at hol2) HRs.out (ln_g0 x) (fun s h => by cases h)), HO7⟩ ?_
   clear HXr HRg HOw HXs HRs HOs HO7 hB7 hg7 hs6 hlg6
   have hoc1 : oc.length ≤ 2 + 6 * k + 4 := by omega
   have hol2 : 2 ≤ oc.length := by omega
   clear hl1 hl2
   rintro W8 ⟨x6, u6, o6⟩
   have HXr := lh x6
   have HRg := lh u6
   have HOw := lh o6
   have hs6 := x6.size
   have hlg6 := u6.lt
   clear x6 u6 o6
   have kk : rowOf W8 g 39 20 = some (leC x.le) := by rw [HRg.out.row, if_neg (by omega), ln_s39_20]
   go_upto_region 10 with (first
    | (go_at_call 89; refine (HLe.out _).mono ?_; rintro e w1 ⟨Ab, cb, rfl, hr9, hz9, hx⟩; have HXs : Hid (Ext W1 w1) := lh (HXr.out.trans hx); have HRs := lh (HRg.out.ext hx); have HOs := lh (HOw.out.ext hx); have hss := hx.size; clear hx)
    | (at_builtin; refine app_reads strT sE rfl _ _ rfl W1.heap.size _ _ oc rfl HOs.out w1.heap.size _ _ (leParts x.le) rfl hr9 hz9 (by have h9 : (leParts x.le).length ≤ 2 := Nat.le_of_ble_eq_true rfl; omega) (by have h9 : (leParts x.le).length ≤ 2 := Nat.le_of_ble_eq_true rfl; omega) (by omega) ?_; intro A5 c5 od w7 HLod HO7 hB7 hl1 hl2 hg7))
   clear hr9 hz9 kk hss
   refine wp_world (fun W => Ext W1 W ∧ RowAt W g (lnC x) ∧ OwnsStr W1.heap.size W A5 c5 od) ⟨HXs.out.grown hB7 (Nat.le_refl _), RowAt.grown HRs.out hg7 (owns_not_row HOs.out (by intro e; rw [e] at hol2; simp at hol2) HRs.out (ln_g0 x) (fun s h => by cases h)), HO7⟩ ?_
   clear HXr HRg HOw HXs HRs HOs HO7 hB7 hg7 hs6 hlg6
   have hp : (leParts x.le).length = 1 := rfl
   have hod1 : od.length ≤ 2 + 6 * k + 5 := by omega
   have hol2 : 2 ≤ od.length := by omega
   clear hl1 hl2 hp
   rintro W9 ⟨x6, u6, o6⟩
   have HXr := lh x6
   have HRg := lh u6
   have HOw := lh o6
   have hs6 := x6.size
   have hlg6 := u6.lt
   clear x6 u6 o6
   have hcv := conv_bytes 16 (arr_reads ((HRg.out.row 43 16).trans (by rw [if_neg (by omega), ln_s43_16])) HlN.out HRg.out.lt) (by rw [HlN.out]; omega)
   rw [HlN.out] at hcv
   have HXs : Hid (Ext W1 (W9.alloc (.cells #[.string (strOfNums x.le.sl)] 9))) := lh (HXr.out.alloc _)
   have HRs : Hid (RowAt (W9.alloc (.cells #[.string (strOfNums x.le.sl)] 9)) g (lnC x)) := lh (HRg.out.alloc _)
   have HOs : Hid (OwnsStr W1.heap.size (W9.alloc (.cells #[.string (strOfNums x.le.sl)] 9)) A5 c5 od) := lh (HOw.out.alloc _)
   go_upto_region 4 with (at_builtin; refine app_from strT sE rfl _ _ rfl W1.heap.size _ _ od rfl HOs.out _ 1 _ [strOfNums x.le.sl] rfl rfl (new_cellsAt rfl _ _) (by omega) (by omega) (by first | omega | (simp; omega)) ?_; intro A6 c6 oe w7 HLoe HO7 hB7 hl1 hl2 hg7)
   clear hcv
   have HFin : Hid (oe = [T0, T1] ++ (s.lines.take (k + 1)).flatMap lnParts) := lh (by rw [HLoe.out, HLod.out, HLoc.out, HLob.out, HLoa.out, HN.out, HOu.out, HPP.out]; simp only [List.append_assoc])
   go_wp2
   go_roundw
   case rel => exact ⟨A6, c6, oe, k + 1, rfl, by go_num, by omega, by omega, by omega, HFin, lh HO7, lh (HXs.out.grown hB7 (Nat.le_refl _))⟩
   case measure => simp [intOf]; omega
  ·have e1 : k = s.lines.length := by omega
   subst e1
   have HOf : Hid (ou1 = rpParts s) := lh (by rw [HOu.out, List.take_of_length_le (Nat.le_refl _), HE.out])
   go_wp2
   go_ret
   obtain rfl := HOf.out
   exact ⟨A1, c1, rfl, HOw1.out.reads sE, HOw1.out.none0, HX1.out.trans HX.out⟩
def toldC (s : Rp) (e : Int) : Array Value := (rpL s ++ [Value.int .i64 e]).toArray
theorem told_ty : RowTy Tryz.prog 72 38 := ⟨by kernel_rfl, by kernel_rfl⟩
theorem told_ld (w : World) (b o : Nat) : (rowLoad 72 38 (.pointer (some ⟨b, o, none⟩))).run Tryz.prog w = rowLoadR Tryz.prog w 72 38 b o (rowOf w b o 38) := run_rowLoad told_ty w b o
theorem told_st (w : World) (b o : Nat) (cells : Array Value) : (rowStore 72 38 (.pointer (some ⟨b, o, none⟩)) (.agg cells)).run Tryz.prog w = rowStoreR Tryz.prog w 72 38 b o cells (roomOf w b o 38 && fitsRow 38 cells) := run_rowStore told_ty w b o cells
theorem told_al (w : World) : (rowAlloc 72).run Tryz.prog w = .ok (.value (.pointer (some ⟨w.heap.size, 0, none⟩))) (w.alloc (.cells (toldC noRp 0) 72)) := run_rowAlloc (by kernel_rfl) w
theorem told_xl (ρ : Operand → Value) (dst : Option Tmp) (x : Operand) (t : TypeId) (pos : String) (after : Array Edge) (guard : Option (Nat × Bool)) : execOp ρ { dst, op := .load 72 x, type := t, pos, after, guard } = rowLoad 72 38 (ρ x) := rfl
theorem told_xs (ρ : Operand → Value) (dst : Option Tmp) (x y : Operand) (t : TypeId) (pos : String) (after : Array Edge) (guard : Option (Nat × Bool)) : execOp ρ { dst, op := .store 72 x y, type := t, pos, after, guard } = rowStore 72 38 (ρ x) (ρ y) := rfl
theorem told_xa (ρ : Operand → Value) (dst : Option Tmp) (t : TypeId) (pos : String) (after : Array Edge) (guard : Option (Nat × Bool)) : execOp ρ { dst, op := .alloc 72, type := t, pos, after, guard } = rowAlloc 72 := rfl
attribute [go_sem ↓] told_xl told_xs told_xa
attribute [go_sem] told_ld told_st told_al
theorem told_size (s : Rp) (e : Int) : (toldC s e).size = 38 := rfl
theorem told_all (s : Rp) (e : Int) : rowSub (toldC s e) 0 38 = some (toldC s e) := rowSub_all _ _ rfl
theorem told_fits (s : Rp) (e : Int) : fitsRow 38 (toldC s e) = true := by kernel_rfl
theorem told_rp (s : Rp) (e : Int) : rowSub (toldC s e) 0 37 = some (rpC s) := by kernel_rfl
theorem told_g37 (s : Rp) (e : Int) : (toldC s e)[37]? = some (.int .i64 e) := by kernel_rfl
attribute [go_sem] told_size told_all told_fits told_rp told_g37
def toldB1 (a : Value) : Sem Next := do pure (.value (← Instr.build 72 #[(1, a)]))
theorem toldB1_x (ρ : Operand → Value) (dst : Option Tmp) (a : Operand) (t : TypeId) (pos : String) (after : Array Edge) (guard : Option (Nat × Bool)) : execOp ρ { dst, op := .build 72 #[(1, a)], type := t, pos, after, guard } = toldB1 (ρ a) := by kernel_rfl
attribute [go_sem ↓] toldB1_x
theorem toldB1_run (e : Int) (W : World) : (toldB1 (.int .i64 e)).run Tryz.prog W = .ok (.value (.agg (toldC noRp e))) W := by kernel_rfl
def toldB0 (a : Value) : Sem Next := do pure (.value (← Instr.build 72 #[(0, a)]))
theorem toldB0_x (ρ : Operand → Value) (dst : Option Tmp) (a : Operand) (t : TypeId) (pos : String) (after : Array Edge) (guard : Option (Nat × Bool)) : execOp ρ { dst, op := .build 72 #[(0, a)], type := t, pos, after, guard } = toldB0 (ρ a) := by kernel_rfl
attribute [go_sem ↓] toldB0_x
theorem toldB0_run (s : Rp) (W : World) : (toldB0 (.agg (rpC s))).run Tryz.prog W = .ok (.value (.agg (toldC s 0))) W := by kernel_rfl
attribute [go_sem] toldB1_run toldB0_run
def RepH (W1 : World) (R : Nat) (s : Rp) (A2 : Option Addr) (c2 : Nat) (out : List Ln) (L : Ln) (r : Nat) (xs : Nat → Value) (w : World) : Prop :=
 Ext W1 w ∧ R < w.heap.size ∧ (r ≤ 1 → RowAt w R (rpC (rpW s A2 c2 out))) ∧ (r = 0 → OwnsLn (R + 1) w A2 c2 out) ∧
 (r = 1 → ∃ A c l, xs 13 = .slice A l.length c ∧ Hid (l = out ++ [L]) ∧ OwnsLn (R + 1) w A c l) ∧ (r = 2 → ∃ A c l, Hid (l = out ++ [L]) ∧ OwnsLn (R + 1) w A c l ∧ RowAt w R (rpC (rpW s A c l)))
theorem repH_x {W1 : World} {R : Nat} {s : Rp} {A2 : Option Addr} {c2 : Nat} {out : List Ln} {L : Ln} (r : Nat) (xs : Nat → Value) (i : Nat) (v : Value) (w : World) (hi : i ∉ [13, 15]) (h : RepH W1 R s A2 c2 out L r xs w) : RepH W1 R s A2 c2 out L r (updAt xs i v) w := by
 have n6 : 13 ≠ i := fun h => hi (by simp [← h])
 obtain ⟨a, z, c, d, e, f⟩ := h
 exact ⟨a, z, c, d, by rw [updAt_ne _ _ n6]; exact e, f⟩
theorem repH_e {W1 : World} {R : Nat} {s : Rp} {A2 : Option Addr} {c2 : Nat} {out : List Ln} {L : Ln} (r : Nat) (xs : Nat → Value) (w w' : World) (h : RepH W1 R s A2 c2 out L r xs w) (hx : Ext w w') : RepH W1 R s A2 c2 out L r xs w' := by
 obtain ⟨a, z, c, d, e, f⟩ := h
 exact ⟨a.trans hx, Nat.lt_of_lt_of_le z hx.size, fun h => (c h).ext hx, fun h => (d h).ext hx, fun h => by obtain ⟨A, cc, l, h1, h2, h3⟩ := e h; exact ⟨A, cc, l, h1, h2, h3.ext hx⟩, fun h => by obtain ⟨A, cc, l, h1, h2, h3⟩ := f h; exact ⟨A, cc, l, h1, h2.ext hx, h3.ext hx⟩⟩
def RmOut (k : Ky) (g : Gs) (e : Ep) (cs : List Cf) (ls : List Le) (now : Clk) (base : Nat) (r : Ending) (w' : World) : Prop :=
 ∃ LA lc, r = .returned (.agg (toldC (mkR k g e cs ls now LA lc) (mkE k g e now))) ∧ OwnsLn base w' LA lc (mkR k g e cs ls now LA lc).lines
theorem rmakeRp_any (k : Ky) (g : Gs) (e : Ep) (CA LsA : Option Addr) (cc lsc : Nat) (cs : List Cf) (ls : List Le) (p : Clk) (w : World) (hks : k.secret.size < 9223372036854775808) (hgl : g.l.length ≤ 100000) (hga : Reads 3 grL w w.heap.size g.GA g.l)
  (hok : EpOk e) (hs : EpShort e) (ha : EpAt w e) (hcl : cs.length ≤ 100000) (hll : ls.length ≤ 100000) (hco : ∀ c ∈ cs, CfOk c) (hlo : ∀ l ∈ ls, LeOk l) (hrc : Reads 37 cfL w w.heap.size CA cs) (hrl : Reads 20 leL w w.heap.size LsA ls) (hk : RKonst w) :
  Calls Tryz.prog 23 #[.agg (kyC k), .agg (gsC g), .agg (epC e), .slice CA cs.length cc, .slice LsA ls.length lsc, .agg (clkC p)] w fun r w' => RmOut k g e cs ls p w.heap.size r w' ∧ Ext w w' := by
 have HKv := lh (fun W => rkvalid_any k W hks)
 have HGv := lh (fun (W : World) (hx : Ext w W) => r30valid_any g W hgl (hga.on hx))
 have HEv := lh (fun (W : World) (hx : Ext w W) => revalid_any e W (ha.on hx) (by have := hs.pu; omega) hok.rvl (fun p hp => by have := hs.what p hp; omega))
 have HCv : Hid (∀ W : World, Calls Tryz.prog 34 #[.agg #[.int .i64 p.lo, .int .i64 p.hi]] W fun e' w' => e' = .returned (.bool (okClk p)) ∧ Ext W w') := lh (fun W => by
  have h := rper_any p.lo p.hi W
  rw [perclk32] at h
  exact h)
 have HNm := lh (fun (W : World) (hx : Ext w W) => rename_any e W hok hs (ha.on hx) (RowAt.ext hk hx))
 have HPt := lh (fun (h : makeB k g e p = true) (LA : Option Addr) (lc : Nat) (W : World) (hr : Reads 59 lnL W W.heap.size LA (mkLines g e cs ls p)) => rwhole_any (rpOf k g e cs ls p LA lc) W (rpOf_ok h hco hlo) (by show (mkLines g e cs ls p).length ≤ _; simp [mkLines]; omega) hr)
 have HMk := lh (fun (h : makeB k g e p = true) (LA : Option Addr) (lc : Nat) (A : Option Addr) (c : Nat) (W : World) (h1 : ReadsStr W W.heap.size A (rpParts (rpOf k g e cs ls p LA lc))) (h2 : A = none → c = 0) (hx : Ext w W) => rmake_any k 321 A c (rpParts (rpOf k g e cs ls p LA lc)) W h1 h2 (lens_key (by
   simp only [makeB, Bool.and_eq_true] at h
   exact (okKy_lims h.1.1.1.1.1).2.2.2.2.2.1) (by
   have := rpParts_lens (rpOf_ok (LA := LA) (lc := lc) h hco hlo) (by show (mkLines g e cs ls p).length ≤ _; simp [mkLines]; omega)
   omega)) (RowAt.ext hk hx))
 have HLn := lh (fun (x : Gr) (W : World) (hx : Ext w W) => rline_any x e CA LsA cc lsc cs ls p W hcl hll (hrc.on hx) (hrl.on hx))
 have HB : Hid (makeB k g e p = (okKy k && decide (k.party = 1) && okGs g && okEp e && decide (e.num ≤ g.latest) && okClk p)) := lh rfl
 have hfk := ky_fits k
 have hfg := gs_fits g
 have hfe := ep_fits e
 have hf0 := rp_fits noRp
 have HNo : Hid (makeB k g e p = false → mkR k g e cs ls p none 0 = noRp ∧ mkE k g e p = 1) := lh (fun h => by unfold mkR mkE; rw [h]; exact ⟨rfl, rfl⟩)
 have HGA := lh hga
 clear hks hga hok hs ha hco hlo hrc hrl hk
 cases bk : okKy k with
 | false =>
  have HR := lh (HNo.out (by rw [HB.out, bk]; simp))
  rw [bk] at HKv
  clear HNo
  clear HPt HMk HB HNm HLn
  obtain ⟨p0, p1⟩ := p
  go_enter Tryz.func23, Tryz.ntmps23
  go_upto_region 6 with (first
   | (go_at_call 62; refine (HKv.out _).mono ?_; rintro e w' ⟨rfl, hxl⟩; obtain ⟨xn, rfl⟩ := hxl.asLater; clear hxl)
   | (go_at_call 77; refine (HGv.out _ (by (with_reducible repeat first|exact eR _|apply eD|apply eN|apply eA|apply eO|apply eS|apply eC);all_goals first|omega|simp <;> omega)).mono ?_; rintro e w' ⟨rfl, hxl⟩; obtain ⟨xm, rfl⟩ := hxl.asLater; clear hxl)
   | (go_at_call 35; refine (HEv.out _ (by (with_reducible repeat first|exact eR _|apply eD|apply eN|apply eA|apply eO|apply eS|apply eC);all_goals first|omega|simp <;> omega)).mono ?_; rintro e w' ⟨rfl, hxl⟩; obtain ⟨xo, rfl⟩ := hxl.asLater; clear hxl)
   | (go_at_call 34; refine (HCv.out _).mono ?_; rintro e w' ⟨rfl, hxl⟩; obtain ⟨xp, rfl⟩ := hxl.asLater; clear hxl))
  refine wp_world (fun W => Ext w W ∧ RowAt W (w.heap.size + 1 + 1 + 1 + 1) (toldC noRp 0)) ⟨(by (with_reducible repeat first|exact eR _|apply eD|apply eN|apply eA|apply eO|apply eS|apply eC);all_goals first|omega|simp <;> omega), (RowAt.newAt (by simp)).later _⟩ ?_
  rintro W1 ⟨x1, uR⟩
  have HX1 := lh x1
  have HUR := lh uR
  have hlr := uR.lt
  have hrm : roomOf W1 (w.heap.size + 1 + 1 + 1 + 1) 0 38 = true := by rw [uR.room]; rfl
  clear x1 uR
  have hft1 := told_fits noRp 1
  go_wp2
  have HR9 := HR.out
  refine post_row told_ty Tryz.results23 rfl rfl (RowAt.stored (n := 38) (ds := toldC noRp 1) HUR.out rfl rfl (by omega)) ⟨⟨none, 0, by rw [HR9.1, HR9.2], by rw [HR9.1]; exact Owns.nil _ _ _ _ _⟩, Ext.setCells HX1.out (by omega) _ _⟩
 | true =>
  rw [bk] at HKv
  by_cases bp : k.party = 1
  ·have e0 : (k.party != 1) = false := by simpa using bp
   cases bg : okGs g with
   | false =>
    have HR := lh (HNo.out (by rw [HB.out, bg]; simp))
    rw [bg] at HGv
    clear HNo bp
    clear HPt HMk HB HNm HLn
    obtain ⟨p0, p1⟩ := p
    go_enter Tryz.func23, Tryz.ntmps23
    go_upto_region 6 with (first
     | (go_at_call 62; refine (HKv.out _).mono ?_; rintro e w' ⟨rfl, hxl⟩; obtain ⟨xn, rfl⟩ := hxl.asLater; clear hxl)
     | (go_at_call 77; refine (HGv.out _ (by (with_reducible repeat first|exact eR _|apply eD|apply eN|apply eA|apply eO|apply eS|apply eC);all_goals first|omega|simp <;> omega)).mono ?_; rintro e w' ⟨rfl, hxl⟩; obtain ⟨xm, rfl⟩ := hxl.asLater; clear hxl)
     | (go_at_call 35; refine (HEv.out _ (by (with_reducible repeat first|exact eR _|apply eD|apply eN|apply eA|apply eO|apply eS|apply eC);all_goals first|omega|simp <;> omega)).mono ?_; rintro e w' ⟨rfl, hxl⟩; obtain ⟨xo, rfl⟩ := hxl.asLater; clear hxl)
     | (go_at_call 34; refine (HCv.out _).mono ?_; rintro e w' ⟨rfl, hxl⟩; obtain ⟨xp, rfl⟩ := hxl.asLater; clear hxl))
    refine wp_world (fun W => Ext w W ∧ RowAt W (w.heap.size + 1 + 1 + 1 + 1) (toldC noRp 0)) ⟨(by (with_reducible repeat first|exact eR _|apply eD|apply eN|apply eA|apply eO|apply eS|apply eC);all_goals first|omega|simp <;> omega), (RowAt.newAt (by simp)).later _⟩ ?_
    rintro W1 ⟨x1, uR⟩
    have HX1 := lh x1
    have HUR := lh uR
    have hlr := uR.lt
    have hrm : roomOf W1 (w.heap.size + 1 + 1 + 1 + 1) 0 38 = true := by rw [uR.room]; rfl
    clear x1 uR
    have hft1 := told_fits noRp 1
    go_wp2
    have HR9 := HR.out
    refine post_row told_ty Tryz.results23 rfl rfl (RowAt.stored (n := 38) (ds := toldC noRp 1) HUR.out rfl rfl (by omega)) ⟨⟨none, 0, by rw [HR9.1, HR9.2], by rw [HR9.1]; exact Owns.nil _ _ _ _ _⟩, Ext.setCells HX1.out (by omega) _ _⟩
   | true =>
    rw [bg] at HGv
    cases be : okEp e with
    | false =>
     have HR := lh (HNo.out (by rw [HB.out, be]; simp))
     rw [be] at HEv
     clear HNo bp
     clear HPt HMk HB HNm HLn
     obtain ⟨p0, p1⟩ := p
     go_enter Tryz.func23, Tryz.ntmps23
     go_upto_region 6 with (first
      | (go_at_call 62; refine (HKv.out _).mono ?_; rintro e w' ⟨rfl, hxl⟩; obtain ⟨xn, rfl⟩ := hxl.asLater; clear hxl)
      | (go_at_call 77; refine (HGv.out _ (by (with_reducible repeat first|exact eR _|apply eD|apply eN|apply eA|apply eO|apply eS|apply eC);all_goals first|omega|simp <;> omega)).mono ?_; rintro e w' ⟨rfl, hxl⟩; obtain ⟨xm, rfl⟩ := hxl.asLater; clear hxl)
      | (go_at_call 35; refine (HEv.out _ (by (with_reducible repeat first|exact eR _|apply eD|apply eN|apply eA|apply eO|apply eS|apply eC);all_goals first|omega|simp <;> omega)).mono ?_; rintro e w' ⟨rfl, hxl⟩; obtain ⟨xo, rfl⟩ := hxl.asLater; clear hxl)
      | (go_at_call 34; refine (HCv.out _).mono ?_; rintro e w' ⟨rfl, hxl⟩; obtain ⟨xp, rfl⟩ := hxl.asLater; clear hxl))
     refine wp_world (fun W => Ext w W ∧ RowAt W (w.heap.size + 1 + 1 + 1 + 1) (toldC noRp 0)) ⟨(by (with_reducible repeat first|exact eR _|apply eD|apply eN|apply eA|apply eO|apply eS|apply eC);all_goals first|omega|simp <;> omega), (RowAt.newAt (by simp)).later _⟩ ?_
     rintro W1 ⟨x1, uR⟩
     have HX1 := lh x1
     have HUR := lh uR
     have hlr := uR.lt
     have hrm : roomOf W1 (w.heap.size + 1 + 1 + 1 + 1) 0 38 = true := by rw [uR.room]; rfl
     clear x1 uR
     have hft1 := told_fits noRp 1
     go_wp2
     have HR9 := HR.out
     refine post_row told_ty Tryz.results23 rfl rfl (RowAt.stored (n := 38) (ds := toldC noRp 1) HUR.out rfl rfl (by omega)) ⟨⟨none, 0, by rw [HR9.1, HR9.2], by rw [HR9.1]; exact Owns.nil _ _ _ _ _⟩, Ext.setCells HX1.out (by omega) _ _⟩
    | true =>
     rw [be] at HEv
     by_cases bn : g.latest < e.num
     ·have HR := lh (HNo.out (by rw [HB.out, decide_eq_false (show ¬ e.num ≤ g.latest by omega)]; simp))
      have e1 : decide (g.latest < e.num) = true := by simpa using bn
      clear HNo bp
      clear HPt HMk HB HNm HLn
      obtain ⟨p0, p1⟩ := p
      go_enter Tryz.func23, Tryz.ntmps23
      go_upto_region 6 with (first
       | (go_at_call 62; refine (HKv.out _).mono ?_; rintro e w' ⟨rfl, hxl⟩; obtain ⟨xn, rfl⟩ := hxl.asLater; clear hxl)
       | (go_at_call 77; refine (HGv.out _ (by (with_reducible repeat first|exact eR _|apply eD|apply eN|apply eA|apply eO|apply eS|apply eC);all_goals first|omega|simp <;> omega)).mono ?_; rintro e w' ⟨rfl, hxl⟩; obtain ⟨xm, rfl⟩ := hxl.asLater; clear hxl)
       | (go_at_call 35; refine (HEv.out _ (by (with_reducible repeat first|exact eR _|apply eD|apply eN|apply eA|apply eO|apply eS|apply eC);all_goals first|omega|simp <;> omega)).mono ?_; rintro e w' ⟨rfl, hxl⟩; obtain ⟨xo, rfl⟩ := hxl.asLater; clear hxl)
       | (go_at_call 34; refine (HCv.out _).mono ?_; rintro e w' ⟨rfl, hxl⟩; obtain ⟨xp, rfl⟩ := hxl.asLater; clear hxl))
      refine wp_world (fun W => Ext w W ∧ RowAt W (w.heap.size + 1 + 1 + 1 + 1) (toldC noRp 0)) ⟨(by (with_reducible repeat first|exact eR _|apply eD|apply eN|apply eA|apply eO|apply eS|apply eC);all_goals first|omega|simp <;> omega), (RowAt.newAt (by simp)).later _⟩ ?_
      rintro W1 ⟨x1, uR⟩
      have HX1 := lh x1
      have HUR := lh uR
      have hlr := uR.lt
      have hrm : roomOf W1 (w.heap.size + 1 + 1 + 1 + 1) 0 38 = true := by rw [uR.room]; rfl
      clear x1 uR
      have hft1 := told_fits noRp 1
      go_wp2
      have HR9 := HR.out
      refine post_row told_ty Tryz.results23 rfl rfl (RowAt.stored (n := 38) (ds := toldC noRp 1) HUR.out rfl rfl (by omega)) ⟨⟨none, 0, by rw [HR9.1, HR9.2], by rw [HR9.1]; exact Owns.nil _ _ _ _ _⟩, Ext.setCells HX1.out (by omega) _ _⟩
     ·have e1 : decide (g.latest < e.num) = false := by simpa using bn
      cases bc : okClk p with
      | false =>
       have HR := lh (HNo.out (by rw [HB.out, bc]; simp))
       rw [bc] at HCv
       clear HNo bp bn
       clear HPt HMk HB HNm HLn
       obtain ⟨p0, p1⟩ := p
       go_enter Tryz.func23, Tryz.ntmps23
       go_upto_region 6 with (first
        | (go_at_call 62; refine (HKv.out _).mono ?_; rintro e w' ⟨rfl, hxl⟩; obtain ⟨xn, rfl⟩ := hxl.asLater; clear hxl)
        | (go_at_call 77; refine (HGv.out _ (by (with_reducible repeat first|exact eR _|apply eD|apply eN|apply eA|apply eO|apply eS|apply eC);all_goals first|omega|simp <;> omega)).mono ?_; rintro e w' ⟨rfl, hxl⟩; obtain ⟨xm, rfl⟩ := hxl.asLater; clear hxl)
        | (go_at_call 35; refine (HEv.out _ (by (with_reducible repeat first|exact eR _|apply eD|apply eN|apply eA|apply eO|apply eS|apply eC);all_goals first|omega|simp <;> omega)).mono ?_; rintro e w' ⟨rfl, hxl⟩; obtain ⟨xo, rfl⟩ := hxl.asLater; clear hxl)
        | (go_at_call 34; refine (HCv.out _).mono ?_; rintro e w' ⟨rfl, hxl⟩; obtain ⟨xp, rfl⟩ := hxl.asLater; clear hxl))
       refine wp_world (fun W => Ext w W ∧ RowAt W (w.heap.size + 1 + 1 + 1 + 1) (toldC noRp 0)) ⟨(by (with_reducible repeat first|exact eR _|apply eD|apply eN|apply eA|apply eO|apply eS|apply eC);all_goals first|omega|simp <;> omega), (RowAt.newAt (by simp)).later _⟩ ?_
       rintro W1 ⟨x1, uR⟩
       have HX1 := lh x1
       have HUR := lh uR
       have hlr := uR.lt
       have hrm : roomOf W1 (w.heap.size + 1 + 1 + 1 + 1) 0 38 = true := by rw [uR.room]; rfl
       clear x1 uR
       have hft1 := told_fits noRp 1
       go_wp2
       have HR9 := HR.out
       refine post_row told_ty Tryz.results23 rfl rfl (RowAt.stored (n := 38) (ds := toldC noRp 1) HUR.out rfl rfl (by omega)) ⟨⟨none, 0, by rw [HR9.1, HR9.2], by rw [HR9.1]; exact Owns.nil _ _ _ _ _⟩, Ext.setCells HX1.out (by omega) _ _⟩
      | true =>
       rw [bc] at HCv
       have hB1 : makeB k g e p = true := by rw [HB.out, bk, bg, be, bc, decide_eq_true bp, decide_eq_true (show e.num ≤ g.latest by omega)]; rfl
       clear HNo bp bn bk bg be bc HB
       have HRes : Hid (∀ LA lc, mkR k g e cs ls p LA lc = { rpOf k g e cs ls p LA lc with sl := makeN k 321 (rpParts (rpOf k g e cs ls p LA lc)) } ∧ mkE k g e p = 0) := lh (fun LA lc => by unfold mkR mkE; rw [if_pos hB1, if_pos hB1]; exact ⟨rfl, rfl⟩)
       have HC0 : Hid (∀ LA lc, rpOf k g e cs ls p LA lc = ⟨e.num, epName e, p.lo, p.hi, LA, lc, mkLines g e cs ls p, k.serial, zeros32 16⟩) := lh (fun _ _ => rfl)
       have HML : Hid (mkLines g e cs ls p = g.l.map fun x => lineN x e.num cs ls p.lo) := lh rfl
       have HPt' := lh (HPt.out hB1)
       have HMk' := lh (HMk.out hB1)
       have hfd : fitsRow 16 (dgC (epName e)) = true := by simp [fitsRow, dgC, Value.oneCell']
       generalize epName e = N at *
       clear HPt HMk hB1
       obtain ⟨p0, p1⟩ := p
       generalize mkLines g e cs ls ⟨p0, p1⟩ = ML at *
       go_enter Tryz.func23, Tryz.ntmps23
       go_upto_region 7 with (first
        | (go_at_call 62; refine (HKv.out _).mono ?_; rintro e w' ⟨rfl, hxl⟩; obtain ⟨xn, rfl⟩ := hxl.asLater; clear hxl)
        | (go_at_call 77; refine (HGv.out _ (by (with_reducible repeat first|exact eR _|apply eD|apply eN|apply eA|apply eO|apply eS|apply eC);all_goals first|omega|simp <;> omega)).mono ?_; rintro e w' ⟨rfl, hxl⟩; obtain ⟨xm, rfl⟩ := hxl.asLater; clear hxl)
        | (go_at_call 35; refine (HEv.out _ (by (with_reducible repeat first|exact eR _|apply eD|apply eN|apply eA|apply eO|apply eS|apply eC);all_goals first|omega|simp <;> omega)).mono ?_; rintro e w' ⟨rfl, hxl⟩; obtain ⟨xo, rfl⟩ := hxl.asLater; clear hxl)
        | (go_at_call 34; refine (HCv.out _).mono ?_; rintro e w' ⟨rfl, hxl⟩; obtain ⟨xp, rfl⟩ := hxl.asLater; clear hxl))
       refine wp_world (fun W => Ext w W ∧ RowAt W w.heap.size (kyC k) ∧ RowAt W (w.heap.size + 1) (gsC g) ∧ RowAt W (w.heap.size + 1 + 1) (epC e) ∧ RowAt W (w.heap.size + 1 + 1 + 1) #[.int .i64 p0, .int .i64 p1] ∧ RowAt W (w.heap.size + 1 + 1 + 1 + 1) (toldC noRp 0)) ⟨(by (with_reducible repeat first|exact eR _|apply eD|apply eN|apply eA|apply eO|apply eS|apply eC);all_goals first|omega|simp <;> omega), ?_, ?_, ?_, ?_, ?_⟩ ?_
       ·exact (((((RowAt.new _ _ _).alloc _).alloc _).alloc _).alloc _).later _
       ·exact ((((RowAt.newAt (by simp)).alloc _).alloc _).alloc _).later _
       ·exact (((RowAt.newAt (by simp)).alloc _).alloc _).later _
       ·exact ((RowAt.newAt (by simp)).alloc _).later _
       ·exact (RowAt.newAt (by simp)).later _
       obtain ⟨B, hB⟩ : ∃ B, w.heap.size = B := ⟨_, rfl⟩
       rw [hB]
       rintro W1 ⟨x1, uB, uG, uE, uP, uR⟩
       have HX1 := lh x1
       have HUB := lh uB
       have HUG := lh uG
       have HUR := lh uR
       have HUP := lh uP
       have HUE := lh uE
       have hlu := uR.lt
       have HG2 : Hid ((gsC g)[2]? = some (.slice g.GA g.l.length g.gc)) := lh (gs_g2 g)
       have qE_0 : W1.cell? ⟨B+1+1, 0, none⟩ = some (.int .i64 e.num) := (uE.cell 0).trans (ep_g0 e)
       have kE_0_38 : rowOf W1 (B+1+1) 0 38 = some (epC e) := uE.all rfl (by omega)
       have qP_0 : W1.cell? ⟨B+1+1+1, 0, none⟩ = some (.int .i64 p0) := uP.cell 0
       have qP_1 : W1.cell? ⟨B+1+1+1, 1, none⟩ = some (.int .i64 p1) := uP.cell 1
       have qB_1 : W1.cell? ⟨B, 1, none⟩ = some (.int .i64 k.serial) := (uB.cell 1).trans (ky_g1 k)
       have HLn1 : Hid (∀ (x : Gr) (W : World), Ext W1 W → Calls Tryz.prog 78 #[.agg (grC x), .agg (epC e), .slice CA cs.length cc, .slice LsA ls.length lsc, .agg #[.int .i64 p0, .int .i64 p1]] W fun e' w' => e' = .returned (.agg (lnC (lineN x e.num cs ls p0))) ∧ Ext W w') := lh (fun x W hx => HLn.out x W (HX1.out.trans hx))
       clear x1 uB uG uE uP uR HLn HKv HGv HEv HCv
       generalize g.GA = GA at *
       have hfc := rp_fits ⟨e.num, N, p0, p1, none, 0, [], k.serial, zeros32 16⟩
       refine wp_region_rowN 10 (by kernel_rfl) 8 9 (fun i => ([.pointer (some ⟨B+1+1, 0, none⟩), .int .i64 e.num, .agg (epC e), .agg (dgC N), .agg #[.int .i64 p0, .int .i64 p1], .pointer (some ⟨B, 1, none⟩), .int .i64 k.serial, .agg (rpC ⟨e.num, N, p0, p1, none, 0, [], k.serial, zeros32 16⟩), undef, undef] : List Value).getD i undef) (rpC ⟨e.num, N, p0, p1, none, 0, [], k.serial, zeros32 16⟩) (by kernel_rfl) (by kernel_rfl) (by decide) (dk (by kernel_rfl)) (dk (by kernel_rfl)) (dk (by kernel_rfl)) (lt_cons ?_ (lt_cons ?_ (lt_cons ?_ (lt_cons ?_ (lt_cons ?_ (lt_cons ?_ (lt_cons ?_ (lt_cons ?_ (lt_cons ?_ (lt_cons ?_ (lt_none))))))))))) ?_ ?_ ?_
       ·
        intro _ _
        refine sop rfl fun xs W HW hsW HD Q' HQ => ?_; simp only [fillAt, dstOf, lc0, lcs, obs, Act.put, lsa, lsz, lss, nz, Nat.reduceAdd] at HQ ⊢
        go_wp2
        exact HQ.out _ _ (eR _) rfl
       ·
        intro _ _
        refine sop rfl fun xs W HW hsW HD Q' HQ => ?_; simp only [fillAt, dstOf, lc0, lcs, obs, Act.put, lsa, lsz, lss, nz, Nat.reduceAdd] at HQ ⊢
        have hd0 : xs 0 = .pointer (some ⟨B+1+1, 0, none⟩) := (HD.out 0 (dk (by kernel_rfl)))
        generalize xs 0 = x0 at hd0 HQ ⊢; subst hd0
        have hc : W.cell? ⟨B+1+1, 0, none⟩ = some (.int .i64 e.num) := (HW.out.cell (p := ⟨B+1+1, 0, none⟩) (by show B+1+1 < _; omega)).trans qE_0
        go_wp2
        exact HQ.out _ _ (eR _) rfl
       ·
        intro _ _
        refine sop rfl fun xs W HW hsW HD Q' HQ => ?_; simp only [fillAt, dstOf, lc0, lcs, obs, Act.put, lsa, lsz, lss, nz, Nat.reduceAdd] at HQ ⊢
        have hc := (row_extW HW.out (b := B+1+1) (by omega) 0 38).trans kE_0_38
        go_wp2
        exact HQ.out _ _ (eR _) rfl
       ·
        intro _ _
        refine sop rfl fun xs W HW hsW HD Q' HQ => ?_; simp only [fillAt, dstOf, lc0, lcs, obs, Act.put, lsa, lsz, lss, nz, Nat.reduceAdd] at HQ ⊢
        have hd2 : xs 2 = .agg (epC e) := (HD.out 2 (dk (by kernel_rfl)))
        generalize xs 2 = x2 at hd2 HQ ⊢; subst hd2
        go_wp2_with (go_at_call 63; refine (HNm.out _ (HX1.out.trans HW.out)).mono ?_; rintro e w1 ⟨rfl, hx⟩)
        exact HQ.out _ _ hx rfl
       ·
        intro _ _
        refine sop rfl fun xs W HW hsW HD Q' HQ => ?_; simp only [fillAt, dstOf, lc0, lcs, obs, Act.put, lsa, lsz, lss, nz, Nat.reduceAdd] at HQ ⊢
        have hc := (HW.out.cell (p := ⟨B+1+1+1, 0, none⟩) (by show B+1+1+1 < _; omega)).trans qP_0
        have hc2 := (HW.out.cell (p := ⟨B+1+1+1, 1, none⟩) (by show B+1+1+1 < _; omega)).trans qP_1
        go_wp2
        exact HQ.out _ _ (eR _) rfl
       ·
        intro _ _
        refine sop rfl fun xs W HW hsW HD Q' HQ => ?_; simp only [fillAt, dstOf, lc0, lcs, obs, Act.put, lsa, lsz, lss, nz, Nat.reduceAdd] at HQ ⊢
        go_wp2
        exact HQ.out _ _ (eR _) rfl
       ·
        intro _ _
        refine sop rfl fun xs W HW hsW HD Q' HQ => ?_; simp only [fillAt, dstOf, lc0, lcs, obs, Act.put, lsa, lsz, lss, nz, Nat.reduceAdd] at HQ ⊢
        have hd5 : xs 5 = .pointer (some ⟨B, 1, none⟩) := (HD.out 5 (dk (by kernel_rfl)))
        generalize xs 5 = x5 at hd5 HQ ⊢; subst hd5
        have hc : W.cell? ⟨B, 1, none⟩ = some (.int .i64 k.serial) := (HW.out.cell (p := ⟨B, 1, none⟩) (by show B < _; omega)).trans qB_1
        go_wp2
        exact HQ.out _ _ (eR _) rfl
       ·
        intro _ _
        refine sop rfl fun xs W HW hsW HD Q' HQ => ?_; simp only [fillAt, dstOf, lc0, lcs, obs, Act.put, lsa, lsz, lss, nz, Nat.reduceAdd] at HQ ⊢
        have hd1 : xs 1 = .int .i64 e.num := (HD.out 1 (dk (by kernel_rfl)))
        generalize xs 1 = x1 at hd1 HQ ⊢; subst hd1
        have hd3 : xs 3 = .agg (dgC N) := (HD.out 3 (dk (by kernel_rfl)))
        generalize xs 3 = x3 at hd3 HQ ⊢; subst hd3
        have hd4 : xs 4 = .agg #[.int .i64 p0, .int .i64 p1] := (HD.out 4 (dk (by kernel_rfl)))
        generalize xs 4 = x4 at hd4 HQ ⊢; subst hd4
        have hd6 : xs 6 = .int .i64 k.serial := (HD.out 6 (dk (by kernel_rfl)))
        generalize xs 6 = x6 at hd6 HQ ⊢; subst hd6
        go_wp2
        exact HQ.out _ _ (eR _) rfl
       ·exact fun h => absurd rfl h
       ·exact fun _ h => absurd rfl h
       ·
        refine sop rfl fun xs W HW hsW HD Q' HQ => ?_; simp only [fillAt, dstOf, lc0, lcs, obs, Act.put, lsa, lsz, lss, nz, Nat.reduceAdd] at HQ ⊢
        go_wp2
        exact HQ.out _ _ ((eR _).alloc _) ⟨W.heap.size, rfl, by omega, _, RowAt.new _ _ _, rfl⟩
       ·
        refine sop rfl fun xs W HW hsW HD Q' HQ => ?_; simp only [fillAt, dstOf, lc0, lcs, obs, Act.put, lsa, lsz, lss, nz, Nat.reduceAdd] at HQ ⊢
        have hdv : xs 7 = .agg (rpC ⟨e.num, N, p0, p1, none, 0, [], k.serial, zeros32 16⟩) := (HD.out 7 (dk (by kernel_rfl)))
        obtain ⟨bb, hxa, hbb, ds, hrb, hzb⟩ : ∃ b, xs 8 = .pointer (some ⟨b, 0, none⟩) ∧ W1.heap.size ≤ b ∧ ∃ ds, RowAt W b ds ∧ ds.size = (rpC ⟨e.num, N, p0, p1, none, 0, [], k.serial, zeros32 16⟩).size := (HD.out 8 (dk (by kernel_rfl)))
        have hrm : roomOf W bb 0 37 = true := by rw [hrb.room, hzb]; rfl
        generalize xs 7 = x7 at hdv HQ ⊢; subst hdv
        generalize xs 8 = x8 at hxa HQ ⊢; subst hxa
        clear hrb hzb
        go_wp2
        exact HQ.out undef bb rfl
       intro xs W3 R hW hxb hbaseR hrowR hvs
       simp only [fillAt, dstOf, lc0, lcs, obs, Act.put, lsa, lsz, lss, nz, Nat.reduceAdd]
       generalize xs 8 = xa at *; subst hxb
       have HW3 := lh (HX1.out.trans hW)
       have HWW3 := lh hW
       have HRR := lh hrowR
       have hlR := hrowR.lt
       clear hW hvs hrowR qE_0 kE_0_38 qP_0 qP_1 qB_1
       have hs13 := HWW3.out.size
       have hsW1 := HX1.out.size
       obtain ⟨r0, hr0⟩ : ∃ r : Rp, r = ⟨e.num, N, p0, p1, none, 0, [], k.serial, zeros32 16⟩ := ⟨_, rfl⟩
       have HR0 : Hid (∀ A c l, rpW r0 A c l = ⟨e.num, N, p0, p1, A, c, l, k.serial, zeros32 16⟩) := lh (fun A c l => by rw [hr0]; rfl)
       have HRR : Hid (RowAt W3 R (rpC (rpW r0 none 0 []))) := lh (by rw [HR0.out]; exact HRR.out)
       clear hr0 hfc HNm
       go_wp2
       go_loopw [18] (fun i wr => ∃ (A2 : Option Addr) (c2 : Nat) (out : List Ln) (n : Nat), i = .int .i64 n ∧ n ≤ g.l.length ∧ out.length ≤ n ∧ Hid (out = (g.l.take n).map fun x => lineN x e.num cs ls p0) ∧ Hid (RowAt wr R (rpC (rpW r0 A2 c2 out))) ∧ Hid (OwnsLn (R + 1) wr A2 c2 out) ∧ Hid (Ext W1 wr)) (fun i _ => g.l.length - (intOf i).toNat)
       case atStart => exact ⟨none, 0, [], 0, rfl, Nat.zero_le _, Nat.le_refl _, lh rfl, HRR, lh (Owns.nil _ _ _ _ _), HWW3⟩
       case round =>
        obtain ⟨A2, c2, out, n, rfl, hn, hol, HOu, HRw, HOw, HX⟩ := hrel
        have hsz := HX.out.size
        have hRl := HRw.out.lt
        by_cases hlt : n < g.l.length
        ·obtain ⟨b, off, rfl, hb, hrow⟩ := reads_row grE (HGA.out.ext (HX1.out.trans HX.out) (Nat.le_refl _)) n hlt
         have hb2 : b < wr.heap.size := by omega
         have HL1 := lh (HLn1.out g.l[n])
         have hrowW : rowOf W1 b (off + n * 3) 3 = some (grC g.l[n]) := by
          obtain ⟨b', off', e1, _, h3⟩ := reads_row grE (HGA.out.ext HX1.out (Nat.le_refl _)) n hlt
          injection e1 with e1
          injection e1 with e1 e2
          subst e1 e2
          exact h3
         have HN : Hid ((g.l.take (n + 1)).map (fun x => lineN x e.num cs ls p0) = (g.l.take n).map (fun x => lineN x e.num cs ls p0) ++ [lineN g.l[n] e.num cs ls p0]) := lh (map_snoc _ g.l n hlt)
         change rowOf wr b (off + n * 3) 3 = some (grC g.l[n]) at hrow
         have hfx := gr_fits g.l[n]
         generalize hLL : lineN g.l[n] e.num cs ls p0 = L at *
         generalize g.l[n] = x at *
         have hfL := ln_fits L
         have hb1 : b < W1.heap.size := by omega
         have hrow1 : rowOf W1 b (off + n * 3) 3 = some (grC x) := hrowW
         have qG_2 : wr.cell? ⟨B+1, 2, none⟩ = some (.slice (some ⟨b, off, none⟩) g.l.length g.gc) := ((HUG.out.ext HX.out).cell 2).trans HG2.out
         have hlG := (HUG.out.ext HX.out).lt
         have HA2 := lh (fun a h => (HOw.out.lt a h).2)
         have hWR : W1.heap.size ≤ R + 1 := by omega
         have hol4 : out.length ≤ 100000 := by omega
         have HX6 := HX
         have HR6 := HRw
         have HO6 := HOw
         have hR6 := HRw.out.lt
         clear hrow
         go_upto_region 11 with (fail)
         clear qG_2
         refine wp_region_steps 16 (by kernel_rfl) [13, 15] (RepH W1 R r0 A2 c2 out L) (fun i => (softRs [.eq (.pointer (some ⟨R, 19, none⟩)), .eq (.slice A2 out.length c2), .eq (.pointer (some ⟨B+1, 2, none⟩)), .eq (.slice (some ⟨b, off, none⟩) g.l.length g.gc), .eq (.int .i64 n), .eq (.pointer (some ⟨b, off + n * 3, none⟩)), .eq (.agg (grC x)), .eq (.agg (epC e)), .eq (.slice CA cs.length cc), .eq (.slice LsA ls.length lsc), .eq (.agg #[.int .i64 p0, .int .i64 p1]), .eq (.agg (lnC L)), .ln L, .any, .eq (.pointer (some ⟨R, 19, none⟩)), .any] i).S) (by kernel_rfl) (by kernel_rfl) (by kernel_rfl) (by kernel_rfl) ?_ repH_x repH_e (fun i => (softRs _ i).on) (lt_cons ?_ (lt_cons ?_ (lt_cons ?_ (lt_cons ?_ (lt_cons ?_ (lt_cons ?_ (lt_cons ?_ (lt_cons ?_ (lt_cons ?_ (lt_cons ?_ (lt_cons ?_ (lt_cons ?_ (lt_cons ?_ (lt_cons ?_ (lt_cons ?_ (lt_cons ?_ (lt_none))))))))))))))))) (lt_cons ?_ (lt_cons ?_ lt_none)) ?_ (by decide)
         ·exact ⟨HX6.out.drew, hR6, fun _ => HR6.out.drew, fun _ => HO6.out.drew, fun h => absurd h (by decide), fun h => absurd h (by decide)⟩
         ·
          intro hni o ho r xs W hr hG hd hk hbf Q' hQ; obtain rfl := Option.some.inj ho; clear ho hk hni; simp only [fillAt, dstOf, lc0, lcs, obs, Act.put, lsa, lsz, lss, nz, Nat.reduceAdd] at hQ ⊢; have HQ := lh hQ; have HD := lh hd; have HG := lh hG; clear hQ hd hG
          go_wp2
          exact HQ.out _ _ (eR _) rfl
         ·
          intro hni o ho r xs W hr hG hd hk hbf Q' hQ; obtain rfl := Option.some.inj ho; clear ho hk hni; simp only [fillAt, dstOf, lc0, lcs, obs, Act.put, lsa, lsz, lss, nz, Nat.reduceAdd] at hQ ⊢; have HQ := lh hQ; have HD := lh hd; have HG := lh hG; clear hQ hd hG
          have hr0 : r ≤ 1 := by
           rcases Nat.lt_or_ge 1 r with h | h
           ·exact (hbf 0 (by omega) (dk (by kernel_rfl))).elim
           ·exact h
          have hd0 : xs 0 = .pointer (some ⟨R, 19, none⟩) := (HD.out 0 (dk (by kernel_rfl)) (by decide))
          generalize xs 0 = x0 at hd0 HQ ⊢; subst hd0
          have uR := HG.out.2.2.1 hr0
          have hc : W.cell? ⟨R, 19, none⟩ = some (.slice A2 out.length c2) := (uR.cell 19).trans (rpw_g19 _ _ _ _)
          have hlRR := uR.lt
          clear uR
          go_wp2
          exact HQ.out _ _ (eR _) rfl
         ·
          intro hni o ho r xs W hr hG hd hk hbf Q' hQ; obtain rfl := Option.some.inj ho; clear ho hk hni; simp only [fillAt, dstOf, lc0, lcs, obs, Act.put, lsa, lsz, lss, nz, Nat.reduceAdd] at hQ ⊢; have HQ := lh hQ; have HD := lh hd; have HG := lh hG; clear hQ hd hG
          go_wp2
          exact HQ.out _ _ (eR _) rfl
         ·
          intro hni o ho r xs W hr hG hd hk hbf Q' hQ; obtain rfl := Option.some.inj ho; clear ho hk hni; simp only [fillAt, dstOf, lc0, lcs, obs, Act.put, lsa, lsz, lss, nz, Nat.reduceAdd] at hQ ⊢; have HQ := lh hQ; have HD := lh hd; have HG := lh hG; clear hQ hd hG
          have hd2 : xs 2 = .pointer (some ⟨B+1, 2, none⟩) := (HD.out 2 (dk (by kernel_rfl)) (by decide))
          generalize xs 2 = x2 at hd2 HQ ⊢; subst hd2
          have hc : W.cell? ⟨B+1, 2, none⟩ = some (.slice (some ⟨b, off, none⟩) g.l.length g.gc) := ((HUG.out.ext HG.out.1).cell 2).trans (HG2.out)
          have hlG := (HUG.out.ext HG.out.1).lt
          go_wp2
          exact HQ.out _ _ (eR _) rfl
         ·
          intro hni o ho r xs W hr hG hd hk hbf Q' hQ; obtain rfl := Option.some.inj ho; clear ho hk hni; simp only [fillAt, dstOf, lc0, lcs, obs, Act.put, lsa, lsz, lss, nz, Nat.reduceAdd] at hQ ⊢; have HQ := lh hQ; have HD := lh hd; have HG := lh hG; clear hQ hd hG
          go_wp2
          exact HQ.out _ _ (eR _) rfl
         ·
          intro hni o ho r xs W hr hG hd hk hbf Q' hQ; obtain rfl := Option.some.inj ho; clear ho hk hni; simp only [fillAt, dstOf, lc0, lcs, obs, Act.put, lsa, lsz, lss, nz, Nat.reduceAdd] at hQ ⊢; have HQ := lh hQ; have HD := lh hd; have HG := lh hG; clear hQ hd hG
          have hd3 : xs 3 = .slice (some ⟨b, off, none⟩) g.l.length g.gc := (HD.out 3 (dk (by kernel_rfl)) (by decide))
          generalize xs 3 = x3 at hd3 HQ ⊢; subst hd3
          have hd4 : xs 4 = .int .i64 n := (HD.out 4 (dk (by kernel_rfl)) (by decide))
          generalize xs 4 = x4 at hd4 HQ ⊢; subst hd4
          go_wp2
          exact HQ.out _ _ (eR _) rfl
         ·
          intro hni o ho r xs W hr hG hd hk hbf Q' hQ; obtain rfl := Option.some.inj ho; clear ho hk hni; simp only [fillAt, dstOf, lc0, lcs, obs, Act.put, lsa, lsz, lss, nz, Nat.reduceAdd] at hQ ⊢; have HQ := lh hQ; have HD := lh hd; have HG := lh hG; clear hQ hd hG
          have hd5 : xs 5 = .pointer (some ⟨b, off + n * 3, none⟩) := (HD.out 5 (dk (by kernel_rfl)) (by decide))
          generalize xs 5 = x5 at hd5 HQ ⊢; subst hd5
          have hc : rowOf W b (off + n * 3) 3 = some (grC x) := (row_extW HG.out.1 (b := b) hb1 _ 3).trans hrow1
          have hlb : b < W.heap.size := Nat.lt_of_lt_of_le hb1 HG.out.1.size
          go_wp2
          exact HQ.out _ _ (eR _) rfl
         ·
          intro hni o ho r xs W hr hG hd hk hbf Q' hQ; obtain rfl := Option.some.inj ho; clear ho hk hni; simp only [fillAt, dstOf, lc0, lcs, obs, Act.put, lsa, lsz, lss, nz, Nat.reduceAdd] at hQ ⊢; have HQ := lh hQ; have HD := lh hd; have HG := lh hG; clear hQ hd hG
          have uE := HUE.out.ext HG.out.1
          have hc : rowOf W (B+1+1) 0 38 = some (epC e) := uE.all rfl (by omega)
          have hlE := uE.lt
          clear uE
          go_wp2
          exact HQ.out _ _ (eR _) rfl
         ·
          intro hni o ho r xs W hr hG hd hk hbf Q' hQ; obtain rfl := Option.some.inj ho; clear ho hk hni; simp only [fillAt, dstOf, lc0, lcs, obs, Act.put, lsa, lsz, lss, nz, Nat.reduceAdd] at hQ ⊢; have HQ := lh hQ; have HD := lh hd; have HG := lh hG; clear hQ hd hG
          go_wp2
          exact HQ.out _ _ (eR _) rfl
         ·
          intro hni o ho r xs W hr hG hd hk hbf Q' hQ; obtain rfl := Option.some.inj ho; clear ho hk hni; simp only [fillAt, dstOf, lc0, lcs, obs, Act.put, lsa, lsz, lss, nz, Nat.reduceAdd] at hQ ⊢; have HQ := lh hQ; have HD := lh hd; have HG := lh hG; clear hQ hd hG
          go_wp2
          exact HQ.out _ _ (eR _) rfl
         ·
          intro hni o ho r xs W hr hG hd hk hbf Q' hQ; obtain rfl := Option.some.inj ho; clear ho hk hni; simp only [fillAt, dstOf, lc0, lcs, obs, Act.put, lsa, lsz, lss, nz, Nat.reduceAdd] at hQ ⊢; have HQ := lh hQ; have HD := lh hd; have HG := lh hG; clear hQ hd hG
          have uP := HUP.out.ext HG.out.1
          have hc : W.cell? ⟨B+1+1+1, 0, none⟩ = some (.int .i64 p0) := uP.cell 0
          have hc2 : W.cell? ⟨B+1+1+1, 1, none⟩ = some (.int .i64 p1) := uP.cell 1
          have hlP := uP.lt
          clear uP
          go_wp2
          exact HQ.out _ _ (eR _) rfl
         ·
          intro hni o ho r xs W hr hG hd hk hbf Q' hQ; obtain rfl := Option.some.inj ho; clear ho hk hni; simp only [fillAt, dstOf, lc0, lcs, obs, Act.put, lsa, lsz, lss, nz, Nat.reduceAdd] at hQ ⊢; have HQ := lh hQ; have HD := lh hd; have HG := lh hG; clear hQ hd hG
          have hd6 : xs 6 = .agg (grC x) := (HD.out 6 (dk (by kernel_rfl)) (by decide))
          generalize xs 6 = x6 at hd6 HQ ⊢; subst hd6
          have hd7 : xs 7 = .agg (epC e) := (HD.out 7 (dk (by kernel_rfl)) (by decide))
          generalize xs 7 = x7 at hd7 HQ ⊢; subst hd7
          have hd8 : xs 8 = .slice CA cs.length cc := (HD.out 8 (dk (by kernel_rfl)) (by decide))
          generalize xs 8 = x8 at hd8 HQ ⊢; subst hd8
          have hd9 : xs 9 = .slice LsA ls.length lsc := (HD.out 9 (dk (by kernel_rfl)) (by decide))
          generalize xs 9 = x9 at hd9 HQ ⊢; subst hd9
          have hd10 : xs 10 = .agg #[.int .i64 p0, .int .i64 p1] := (HD.out 10 (dk (by kernel_rfl)) (by decide))
          generalize xs 10 = x10 at hd10 HQ ⊢; subst hd10
          go_wp2_with (go_at_call 78; refine (HL1.out _ HG.out.1).mono ?_; rintro e w1 ⟨rfl, hx⟩)
          exact HQ.out _ _ hx rfl
         ·
          intro hni o ho r xs W hr hG hd hk hbf Q' hQ; obtain rfl := Option.some.inj ho; clear ho hk hni; simp only [fillAt, dstOf, lc0, lcs, obs, Act.put, lsa, lsz, lss, nz, Nat.reduceAdd] at hQ ⊢; have HQ := lh hQ; have HD := lh hd; have HG := lh hG; clear hQ hd hG
          have hd11 : xs 11 = .agg (lnC L) := (HD.out 11 (dk (by kernel_rfl)) (by decide))
          generalize xs 11 = x11 at hd11 HQ ⊢; subst hd11
          go_wp2
          exact HQ.out _ _ ((eR _).alloc _) (fun _ => ⟨_, rfl, reads_fresh lnE [L] W _ _ (by kernel_rfl)⟩)
         ·exact fun h => absurd (by decide) h
         ·
          intro hni o ho r xs W hr hG hd hk hbf Q' hQ; obtain rfl := Option.some.inj ho; clear ho hk hni; simp only [fillAt, dstOf, lc0, lcs, obs, Act.put, lsa, lsz, lss, nz, Nat.reduceAdd] at hQ ⊢; have HQ := lh hQ; have HD := lh hd; have HG := lh hG; clear hQ hd hG
          go_wp2
          exact HQ.out _ _ (eR _) rfl
         ·exact fun h => absurd (by decide) h
         ·
          intro hkn o ho xs W hG hd Q' hQ; obtain rfl := Option.some.inj ho; clear ho hkn; simp only [fillAt, dstOf, lc0, lcs, obs, Act.put, lsa, lsz, lss, nz, Nat.reduceAdd] at hQ ⊢; have HQ := lh hQ; have HD := lh hd; have HG := lh hG; clear hQ hd hG
          have hd1 : xs 1 = .slice A2 out.length c2 := (HD.out 1 (dk (by kernel_rfl)) (by decide))
          obtain ⟨b5, h5, hr5⟩ : ∃ b, xs 12 = .slice (some ⟨b, 0, none⟩) 1 1 ∧ Reads 59 lnL W W.heap.size (some ⟨b, 0, none⟩) [L] := (HD.out 12 (dk (by kernel_rfl)) (by decide)) rfl
          generalize xs 1 = x1 at hd1 HQ ⊢; subst hd1
          generalize xs 12 = x12 at h5 HQ ⊢; subst h5
          obtain ⟨xW, hRW, uR, o0, _, _⟩ := HG.out
          have HO0 := lh (o0 rfl)
          have HXW := lh xW
          have HUR := lh (uR (by decide))
          have HR5 := lh hr5
          clear xW uR o0 HG hr5
          go_wp2_with (at_builtin; refine app_reads lnT lnE rfl _ _ rfl (R + 1) _ _ out rfl HO0.out W.heap.size _ _ [L] rfl HR5.out (fun h => by cases h) (by simp; omega) (by simp; omega) (by omega) ?_; intro A7 c7 l7 w7 HL HO5 hB hl1 hl2 hg)
          exact HQ.out _ _ (softRs_step _ (by
           intro s hs u h
           simp only [List.mem_cons, List.not_mem_nil, or_false] at hs
           rcases hs with rfl | rfl | rfl | rfl | rfl | rfl | rfl | rfl | rfl | rfl | rfl | rfl | rfl | rfl | rfl | rfl
           all_goals first
            | exact h
            | exact trivial
            | exact fun h0 => absurd h0 (by decide))) ⟨HXW.out.grown hB hWR, Nat.lt_of_lt_of_le hRW hg.size, fun _ => HUR.out.below hB (Nat.lt_succ_self _), fun h => absurd h (by decide), fun _ => ⟨A7, c7, l7, rfl, HL, HO5⟩, fun h => absurd h (by decide)⟩
         ·
          intro hkn o ho xs W hG hd Q' hQ; obtain rfl := Option.some.inj ho; clear ho hkn; simp only [fillAt, dstOf, lc0, lcs, obs, Act.put, lsa, lsz, lss, nz, Nat.reduceAdd] at hQ ⊢; have HQ := lh hQ; have HD := lh hd; have HG := lh hG; clear hQ hd hG
          have hd7 : xs 14 = .pointer (some ⟨R, 19, none⟩) := (HD.out 14 (dk (by kernel_rfl)) (by decide))
          obtain ⟨xW, hRW, uR, _, o1, _⟩ := HG.out
          obtain ⟨A6, c6, l6, h6, HL6, ho6⟩ := o1 rfl
          generalize xs 14 = x14 at hd7 HQ ⊢; subst hd7
          generalize xs 13 = x13 at h6 HQ ⊢; subst h6
          have HO6 := lh ho6
          have HXW := lh xW
          have HUR := lh (uR (by decide))
          have hc := (HUR.out.cell 19).trans (rpw_g19 _ _ _ _)
          have hfz := HUR.out.free 19
          clear xW uR o1 HG ho6
          go_wp2
          exact HQ.out undef _ (softRs_step _ (by
           intro s hs u h
           simp only [List.mem_cons, List.not_mem_nil, or_false] at hs
           rcases hs with rfl | rfl | rfl | rfl | rfl | rfl | rfl | rfl | rfl | rfl | rfl | rfl | rfl | rfl | rfl | rfl
           all_goals first
            | exact h
            | exact trivial
            | exact fun h0 => absurd h0 (by decide))) ⟨HXW.out.setCell (by show _ ≤ R; omega) _, by simpa using hRW, fun h => absurd h (by decide), fun h => absurd h (by decide), fun h => absurd h (by decide), fun _ => ⟨A6, c6, l6, HL6, HO6.out.other (by show R < R + 1; omega) _, by
           have h := HUR.out.set 19 (.slice A6 l6.length c6)
           rw [rpw_set] at h
           exact h⟩⟩
         intro _ xs W7 hG _
         obtain ⟨xW, _, _, _, _, o2⟩ := hG
         obtain ⟨A7, c7, l7, HL7, ho7, uR7⟩ := o2 rfl
         simp only [fillAt, dstOf, lc0, lcs, obs, Act.put, lsa, lsz, lss, nz, Nat.reduceAdd]
         have HX7 := lh xW
         have HO7 := lh ho7
         have HR7 := lh uR7
         clear xW o2 ho7 uR7
         go_wp2
         go_roundw
         case rel => exact ⟨A7, c7, l7, n + 1, by go_num, by omega, by have h := HL7.out; rw [h, List.length_append]; simp; omega, lh (by rw [HL7.out, HN.out, HOu.out]), HR7, HO7, HX7⟩
         case measure => simp [intOf]; omega
        ·have e1 : n = g.l.length := by omega
         subst e1
         have HF : Hid (out = ML) := lh (by rw [HOu.out, List.take_of_length_le (Nat.le_refl _), HML.out])
         have HRf : Hid (RowAt wr R (rpC (rpOf k g e cs ls ⟨p0, p1⟩ A2 c2))) := lh (by rw [HC0.out, ← HR0.out, ← HF.out]; exact HRw.out)
         have HPr := lh (fun (W : World) (hx : Ext wr W) => HPt'.out A2 c2 W (by rw [← HF.out]; exact ((HOw.out.ext hx).reads lnE)))
         have HMr := lh (HMk'.out A2 c2)
         have HRs := lh (HRes.out A2 c2)
         have qG_2 : wr.cell? ⟨B+1, 2, none⟩ = some (.slice GA g.l.length g.gc) := ((HUG.out.ext HX.out).cell 2).trans HG2.out
         have hlG := (HUG.out.ext HX.out).lt
         have HLi : Hid ((rpOf k g e cs ls ⟨p0, p1⟩ A2 c2).lines = ML) := lh (by rw [HC0.out])
         clear HRw HC0 HPt' HMk' HRes HR0 HRR HLn1 HML HOu
         generalize rpOf k g e cs ls ⟨p0, p1⟩ A2 c2 = r at *
         generalize makeN k 321 (rpParts r) = D at *
         have hfr := rp_fits r
         have hfD : fitsRow 16 (dgC D) = true := by simp [fitsRow, dgC, Value.oneCell']
         have kB_0_5 : rowOf wr B 0 5 = some (kyC k) := (HUB.out.ext HX.out).all rfl (by omega)
         have kR_0_37 : rowOf wr R 0 37 = some (rpC r) := HRf.out.all rfl (by omega)
         have HUR3 := lh (HUR.out.ext HX.out)
         go_upto_region 12 with (fail)
         refine wp_region_soft 5 (softsL [.eq (.agg (kyC k)), .eq (.agg (rpC r)), readS (rpParts r), .eq (.agg (dgC D)), .eq (.pointer (some ⟨R, 21, none⟩))]) (by kernel_rfl) (by kernel_rfl) (lt_cons ?_ (lt_cons ?_ (lt_cons ?_ (lt_cons ?_ (lt_cons ?_ (lt_none)))))) ?_
         any_goals (refine sop rfl fun xs W HW hsW HD Q' HQ => ?_; simp only [fillAt, dstOf, lc0, lcs, obs, Act.put, lsa, lsz, lss, nz, Nat.reduceAdd] at HQ ⊢)
         ·
          have hc := (row_extW HW.out (b := B) (by omega) 0 5).trans kB_0_5
          go_wp2
          exact HQ.out _ _ (eR _) rfl
         ·
          have hc := (row_extW HW.out (b := R) (by omega) 0 37).trans kR_0_37
          go_wp2
          exact HQ.out _ _ (eR _) rfl
         ·
          have hd1 : xs 1 = .agg (rpC r) := (HD.out 1 (dk (by kernel_rfl)))
          generalize xs 1 = x1 at hd1 HQ ⊢; subst hd1
          go_wp2_with (go_at_call 33; refine (HPr.out _ HW.out).mono ?_; rintro e w1 ⟨A, c, rfl, h1, h2, hx⟩)
          exact HQ.out _ _ hx ⟨A, c, rfl, h1, h2⟩
         ·
          have hd0 : xs 0 = .agg (kyC k) := (HD.out 0 (dk (by kernel_rfl)))
          generalize xs 0 = x0 at hd0 HQ ⊢; subst hd0
          obtain ⟨A2, c2, h2, hr2, hz2⟩ : (readS (rpParts r)).S (xs 2) W := (HD.out 2 (dk (by kernel_rfl)))
          generalize xs 2 = x2 at h2 HQ ⊢; subst h2
          go_wp2_with (go_at_call 31; refine (HMr.out A2 c2 _ hr2 hz2 ((HX1.out.trans HX.out).trans HW.out)).mono ?_; rintro e w1 ⟨rfl, hx⟩)
          exact HQ.out _ _ hx rfl
         ·
          go_wp2
          exact HQ.out _ _ (eR _) rfl
         intro xs W4 hW hS
         have h3 : xs 3 = .agg (dgC D) := hS 3 (by omega)
         have h4 : xs 4 = .pointer (some ⟨R, 21, none⟩) := hS 4 (by omega)
         simp only [fillAt, dstOf, lc0, lcs, obs, Act.put, lsa, lsz, lss, nz, Nat.reduceAdd, List.drop_succ_cons, List.drop_zero, List.drop_nil]
         generalize xs 3 = x3 at *; subst h3
         generalize xs 4 = x4 at *; subst h4
         have HW4 := lh (HX.out.trans hW)
         have HWW4 := lh hW
         clear hS hW kB_0_5 kR_0_37
         have HU13 := lh (HRf.out.ext HWW4.out)
         have HUR4 := lh (HUR3.out.ext HWW4.out)
         have HO4 := lh (HOw.out.ext HWW4.out)
         have m1 : roomOf W4 R 21 16 = true := by rw [HU13.out.room]; rfl
         have hl4 := HWW4.out.size
         go_upto_region 13 with (fail)
         refine wp_world (fun W => Ext W1 W ∧ RowAt W R (rpC { r with sl := D }) ∧ RowAt W (B+1+1+1+1) (toldC noRp 0) ∧ OwnsLn (R + 1) W A2 c2 out) ⟨?_, ?_, ?_, ?_⟩ ?_
         ·exact HW4.out.setCells (by omega) _ _
         ·have h := HU13.out.sets 21 (dgC D).toList
          rw [rp_seal_set] at h
          exact h
         ·exact HUR4.out.others (by omega) _ _
         ·exact HO4.out.others (by omega) _ _
         rintro W5 ⟨x5, u5, ur5, o5⟩
         have HW5 := lh x5
         have HUR5 := lh ur5
         have HO5 := lh o5
         have k1 : rowOf W5 R 0 37 = some (rpC { r with sl := D }) := u5.all rfl (by omega)
         have m2 : roomOf W5 (B+1+1+1+1) 0 38 = true := by rw [ur5.room]; rfl
         have hl5 := u5.lt
         have hl5r := ur5.lt
         have hlw1 : B + 1 + 1 + 1 + 1 < R + 1 := by omega
         clear x5 u5 ur5 m1 HU13 HUR4 o5
         have hft := rp_fits { r with sl := D }
         have hft2 := told_fits { r with sl := D } 0
         go_wp2
         refine post_row told_ty Tryz.results23 rfl rfl (RowAt.stored (n := 38) (ds := toldC { r with sl := D } 0) HUR5.out rfl rfl (by omega)) ⟨⟨A2, c2, by rw [HRs.out.1, HRs.out.2], ?_⟩, Ext.setCells (HX1.out.trans HW5.out) (by omega) _ _⟩
         rw [HRs.out.1]
         show OwnsLn _ _ A2 c2 r.lines
         rw [HLi.out, ← HF.out]
         exact (HO5.out.others hlw1 _ _).lower (by omega)
  ·have e0 : (k.party != 1) = true := by simpa using bp
   have HR := lh (HNo.out (by rw [HB.out, decide_eq_false bp]; simp))
   clear HNo bp
   clear HPt HMk HB HNm HLn
   obtain ⟨p0, p1⟩ := p
   go_enter Tryz.func23, Tryz.ntmps23
   go_upto_region 6 with (first
    | (go_at_call 62; refine (HKv.out _).mono ?_; rintro e w' ⟨rfl, hxl⟩; obtain ⟨xn, rfl⟩ := hxl.asLater; clear hxl)
    | (go_at_call 77; refine (HGv.out _ (by (with_reducible repeat first|exact eR _|apply eD|apply eN|apply eA|apply eO|apply eS|apply eC);all_goals first|omega|simp <;> omega)).mono ?_; rintro e w' ⟨rfl, hxl⟩; obtain ⟨xm, rfl⟩ := hxl.asLater; clear hxl)
    | (go_at_call 35; refine (HEv.out _ (by (with_reducible repeat first|exact eR _|apply eD|apply eN|apply eA|apply eO|apply eS|apply eC);all_goals first|omega|simp <;> omega)).mono ?_; rintro e w' ⟨rfl, hxl⟩; obtain ⟨xo, rfl⟩ := hxl.asLater; clear hxl)
    | (go_at_call 34; refine (HCv.out _).mono ?_; rintro e w' ⟨rfl, hxl⟩; obtain ⟨xp, rfl⟩ := hxl.asLater; clear hxl))
   refine wp_world (fun W => Ext w W ∧ RowAt W (w.heap.size + 1 + 1 + 1 + 1) (toldC noRp 0)) ⟨(by (with_reducible repeat first|exact eR _|apply eD|apply eN|apply eA|apply eO|apply eS|apply eC);all_goals first|omega|simp <;> omega), (RowAt.newAt (by simp)).later _⟩ ?_
   rintro W1 ⟨x1, uR⟩
   have HX1 := lh x1
   have HUR := lh uR
   have hlr := uR.lt
   have hrm : roomOf W1 (w.heap.size + 1 + 1 + 1 + 1) 0 38 = true := by rw [uR.room]; rfl
   clear x1 uR
   have hft1 := told_fits noRp 1
   go_wp2
   have HR9 := HR.out
   refine post_row told_ty Tryz.results23 rfl rfl (RowAt.stored (n := 38) (ds := toldC noRp 1) HUR.out rfl rfl (by omega)) ⟨⟨none, 0, by rw [HR9.1, HR9.2], by rw [HR9.1]; exact Owns.nil _ _ _ _ _⟩, Ext.setCells HX1.out (by omega) _ _⟩
end Go.Proofs.YtpfhmcdcmepfdaaGreatDoor