/- address.read. -/
import Derived.WalkKit
import Derived.WalkSpells
import Derived.WalkLawsBesides
import Derived.Deep.QuietTactic
import Derived.BigQuiet
import Derived.Test.YtpojnhikgjcgmaaGreatDoorENx
set_option maxRecDepth 100000
set_option maxHeartbeats 64000000
set_option linter.unusedVariables false
set_option linter.unusedSimpArgs false
namespace Go.Proofs.YtpojnhikgjcgmaaGreatDoor
open Go.RowKit Go.Shelf
open Go.Proofs
def begB (s p : ByteArray) : Bool := decide (s.data.toList.take p.size = p.data.toList)
theorem beg_len {s p : ByteArray} (h : s.size < p.size) : begB s p = false := by
 refine decide_eq_false ?_
 intro e
 have := congrArg List.length e
 simp at this
 omega
theorem beg_eq {s p : ByteArray} (h : p.size ≤ s.size) : ((s.extract 0 p.size).toList == p.toList) = begB s p := by
 unfold begB
 rw [Lib.toList_data, Lib.toList_data, Bool.eq_iff_iff, decide_eq_true_iff, beq_iff_eq]
 simp [List.extract]
theorem hasPrefix_any (s p : ByteArray) (w : World) :
  Calls Tryz.prog 222 #[.string s, .string p] w fun e w' => e = .returned (.bool (begB s p)) ∧ Ext w w' := by
 by_cases h : p.size ≤ s.size
 ·have HB := lh (beg_eq h)
  generalize begB s p = R at *
  go_enter Tryz.func222, Tryz.ntmps222
  go_wp2
  go_ret
  exact ⟨ret_bool (by first | exact HB.out | (simp; exact HB.out)), (by (with_reducible repeat first|exact eR _|apply eD|apply eN|apply eA|apply eO|apply eS|apply eC);all_goals first|omega|simp <;> omega)⟩
 ·have HB := lh (beg_len (s := s) (p := p) (by omega))
  generalize begB s p = R at *
  go_enter Tryz.func222, Tryz.ntmps222
  go_wp2
  go_ret
  exact ⟨ret_bool (by first | exact HB.out.symm | (simp; exact HB.out)), (by (with_reducible repeat first|exact eR _|apply eD|apply eN|apply eA|apply eO|apply eS|apply eC);all_goals first|omega|simp <;> omega)⟩
def restT (s p : ByteArray) : ByteArray := if begB s p = true then s.extract p.size s.size else s
theorem beg_le {s p : ByteArray} (h : begB s p = true) : p.size ≤ s.size := by
 by_cases h' : p.size ≤ s.size
 ·exact h'
 ·rw [beg_len (by omega)] at h; cases h
theorem lcutPrefix_any (s p : ByteArray) (w : World) :
  Calls Tryz.prog 167 #[.string s, .string p] w fun e w' => e = .returned (.tuple #[.string (restT s p), .bool (begB s p)]) ∧ Ext w w' := by
 have HH := lh (hasPrefix_any s p w)
 have HR : Hid (restT s p = if begB s p = true then s.extract p.size s.size else s) := lh rfl
 have HL := lh (beg_le (s := s) (p := p))
 generalize restT s p = T at *
 generalize begB s p = R at *
 cases R with
 | true =>
  have hle := HL.out rfl
  have hT : T = s.extract p.size s.size := HR.out
  subst hT
  clear HR HL
  go_enter Tryz.func167, Tryz.ntmps167
  go_wp2_with (go_at_call 222; refine HH.out.mono ?_; rintro e w' ⟨rfl, hxl⟩; obtain ⟨xl, rfl⟩ := hxl.asLater; clear hxl)
  refine bodyPost_ret (v := .tuple #[.string (s.extract p.size s.size), .bool true]) ?_ rfl ⟨rfl, (by (with_reducible repeat first|exact eR _|apply eD|apply eN|apply eA|apply eO|apply eS|apply eC);all_goals first|omega|simp <;> omega)⟩
  simp [results, Tryz.results167, go_sem, ↓IntWalk.iteOmega]
 | false =>
  have hT : T = s := HR.out
  subst hT
  clear HR HL
  go_enter Tryz.func167, Tryz.ntmps167
  go_wp2_with (go_at_call 222; refine HH.out.mono ?_; rintro e w' ⟨rfl, hxl⟩; obtain ⟨xl, rfl⟩ := hxl.asLater; clear hxl)
  refine bodyPost_ret (v := .tuple #[.string T, .bool false]) ?_ rfl ⟨rfl, (by (with_reducible repeat first|exact eR _|apply eD|apply eN|apply eA|apply eO|apply eS|apply eC);all_goals first|omega|simp <;> omega)⟩
  simp [results, Tryz.results167, go_sem, ↓IntWalk.iteOmega]
theorem cutPrefix_any (s p : ByteArray) (w : World) :
  Calls Tryz.prog 123 #[.string s, .string p] w fun e w' => e = .returned (.tuple #[.string (restT s p), .bool (begB s p)]) ∧ Ext w w' := by
 have HH := lh (lcutPrefix_any s p w)
 generalize restT s p = T at *
 generalize begB s p = R at *
 go_enter Tryz.func123, Tryz.ntmps123
 go_wp2_with (go_at_call 167; refine HH.out.mono ?_; rintro e w' ⟨rfl, hxl⟩; obtain ⟨xl, rfl⟩ := hxl.asLater; clear hxl)
 refine bodyPost_ret (v := .tuple #[.string T, .bool R]) ?_ rfl ⟨rfl, (by (with_reducible repeat first|exact eR _|apply eD|apply eN|apply eA|apply eO|apply eS|apply eC);all_goals first|omega|simp <;> omega)⟩
 simp [results, Tryz.results123, go_sem, ↓IntWalk.iteOmega]
end Go.Proofs.YtpojnhikgjcgmaaGreatDoor

namespace Go.Proofs.YtpojnhikgjcgmaaGreatDoor
open Go.RowKit Go.Shelf
open Go.Proofs
open Ad (Bs)
theorem parse_len {s : Bs} (h : Ad.parseE s = 0) : s.length ≤ 4096 := by
 unfold Ad.parseE at h
 split at h
 ·cases h
 ·omega
theorem read_canon {s : Bs} (h : Ad.parseE s = 0) : decide (Ad.textT (Ad.parseA s) = s) = Ad.canonB s := by
 have hl := parse_len h
 have hE : Ad.canonE s = if 4096 < (Ad.textT (Ad.parseA s)).length then 1 else 0 := by unfold Ad.canonE; rw [if_pos h]
 have hT : Ad.canonT s = if Ad.canonE s = 0 then Ad.textT (Ad.parseA s) else [] := rfl
 unfold Ad.canonB
 by_cases e : Ad.textT (Ad.parseA s) = s
 ·have h0 : Ad.canonE s = 0 := by rw [hE, if_neg (by rw [e]; omega)]
  rw [if_pos h0] at hT
  simp [h0, hT, e]
 ·by_cases h0 : Ad.canonE s = 0
  ·rw [if_pos h0] at hT
   simp [h0, hT, e]
  ·simp [h0, e]
theorem read_bad {s : Bs} (h : Ad.parseE s ≠ 0) : Ad.canonB s = false := by
 unfold Ad.canonB Ad.canonE
 rw [if_neg h]
 simp [h]
section
attribute [local go_sem] adr_fits adr_sub0
theorem read_any (s : ByteArray) (w : World) (hs : s.size ≤ 900000) :
  Calls Tryz.prog 122 #[.string s] w fun e w' => (∃ v, e = .returned (.tuple #[v, .bool (Ad.canonB (bsT s))]) ∧ AdrAt w.heap.size (Ad.parseA (bsT s)) v w') ∧ Ext w w' := by
 have HB : Hid (Ad.parseE (bsT s) = 0 → decide (Ad.textT (Ad.parseA (bsT s)) = bsT s) = Ad.canonB (bsT s)) := lh read_canon
 have HB2 : Hid (Ad.parseE (bsT s) ≠ 0 → Ad.canonB (bsT s) = false) := lh read_bad
 have HG := lh (fun h => Ad.parseA_good (s := bsT s) h)
 have HP := lh (fun W => parse_any s W hs (fun q W' _ hq _ => pairs_any q W' hq))
 generalize Ad.canonB (bsT s) = CB at *
 generalize Ad.parseA (bsT s) = PA at *
 generalize Ad.parseE (bsT s) = PE at *
 go_enter Tryz.func122, Tryz.ntmps122
 go_wp2_with (go_at_call 165; refine (show Hid _ from ?_).out)
 refine lh ?_
 refine calls_world (fun W => Ext w W ∧ RowAt W w.heap.size #[.string ByteArray.empty, .slice none 0 0, .slice none 0 0]) ⟨(by (with_reducible repeat first|exact eR _|apply eD|apply eN|apply eA|apply eO|apply eS|apply eC);all_goals first|omega|simp <;> omega), RowAt.new _ _ _⟩ ?_
 obtain ⟨B, hB⟩ : ∃ B, w.heap.size = B := ⟨_, rfl⟩
 rw [hB]
 rintro W1 ⟨x1, r1⟩
 have hlB := r1.lt
 have HX1 := lh x1
 have HR1 := lh r1
 clear x1 r1
 refine (HP.out W1).mono ?_
 rintro e w2 ⟨v, rfl, ⟨cu, A, c, ls, A2, c2, qs, rfl, hA, ho1, ho2⟩, hx2⟩
 have HX2 := lh (HX1.out.trans hx2)
 have HR2 := lh (HR1.out.ext hx2)
 have HO1 := lh ho1
 have HO2 := lh ho2
 have HA := lh hA
 have hs2 := hx2.size
 have hft := adr_fits cu A ls.length c A2 qs.length c2
 clear hx2 ho1 ho2 HX1 HR1 HP hA
 go_upto_region 2 with (fail)
 refine wp_world (fun W => Ext w2 W ∧ RowAt W w2.heap.size #[.string cu, .slice A ls.length c, .slice A2 qs.length c2]) ⟨(by (with_reducible repeat first|exact eR _|apply eD|apply eN|apply eA|apply eO|apply eS|apply eC);all_goals first|omega|simp <;> omega), RowAt.store (RowAt.new _ _ _) rfl⟩ ?_
 obtain ⟨g, hg⟩ : ∃ g, w2.heap.size = g := ⟨_, rfl⟩
 have hgl := Nat.le_of_eq hg
 have hgr := Nat.le_of_eq hg.symm
 rw [hg]
 rintro W3 ⟨x3, r3⟩
 have HX3 := lh x3
 have HR3 := lh r3
 have HRB := lh (HR2.out.ext x3)
 have hl3 := r3.lt
 clear x3 r3 HR2 hg
 obtain ⟨tx, htx⟩ : ∃ tx, Ad.textT PA = tx := ⟨_, rfl⟩
 by_cases h0 : PE = 0
 ·subst h0
  obtain ⟨g1, g2, g3, g4, g5, g6⟩ := HG.out rfl
  rw [← HA.out] at g1 g2 g3 g4 g6
  have HWr := lh (fun (W : World) (hx : Ext W3 W) => write_any cu A c ls A2 c2 qs W (name_size g1) (fun x hx => word_size (g4 _ (List.mem_map_of_mem hx))) (fun p hp => by
   have h := g6 _ (List.mem_map_of_mem hp)
   simp only [Ad.goodP, Bool.and_eq_true] at h
   exact ⟨name_size h.1, word_size h.2⟩) (by simpa using g2) (by simpa using g3) ((HO1.out.reads sE).on (HX3.out.trans hx)) ((HO2.out.reads prE).on (HX3.out.trans hx)))
  rw [HA.out, htx] at HWr
  have HC : Hid (decide (tx = bsT s) = CB) := lh (by rw [← htx]; exact HB.out rfl)
  have HE : Hid (((⟨tx.toArray⟩ : ByteArray).toList == s.toList) = CB) := lh (by rw [eq_walk]; exact HC.out)
  clear g1 g2 g3 g4 g5 g6 HB HB2 HG htx HC
  generalize (⟨tx.toArray⟩ : ByteArray) = tt at *
  refine wp_region_put 11 (by kernel_rfl) 9 (fun i => ([.agg #[.string cu, .slice A ls.length c, .slice A2 qs.length c2], .int .i64 0, .bool true, .bool true, .agg #[.string cu, .slice A ls.length c, .slice A2 qs.length c2], .string tt, .string s, .bool CB, .bool CB, undef, .bool CB] : List Value).getD i undef) B #[.string ByteArray.empty, .slice none 0 0, .slice none 0 0] #[.string cu, .slice A ls.length c, .slice A2 qs.length c2] (by kernel_rfl) (by kernel_rfl) (by kernel_rfl) HRB.out rfl (lt_cons ?_ (lt_cons ?_ (lt_cons ?_ (lt_cons ?_ (lt_cons ?_ (lt_cons ?_ (lt_cons ?_ (lt_cons ?_ (lt_cons ?_ (lt_cons ?_ (lt_cons ?_ lt_none))))))))))) ?_ ?_
  ·intro _
   refine sopP rfl fun xs W HW hsW HD Q' HQ => ?_; simp only [fillAt, dstOf, lc0, lcs, obs, Act.put, lsa, lsz, lss, nz, Nat.reduceAdd] at HQ ⊢
   have hc := (HW.out.row HR3.out (by show ¬ g = B; omega)).all (n := 3) rfl (by omega)
   go_wp2
   exact HQ.out _ _ (eR _) rfl
  ·intro _
   refine sopP rfl fun xs W HW hsW HD Q' HQ => ?_; simp only [fillAt, dstOf, lc0, lcs, obs, Act.put, lsa, lsz, lss, nz, Nat.reduceAdd] at HQ ⊢
   go_wp2
   exact HQ.out _ _ (eR _) rfl
  ·intro _
   refine sopP rfl fun xs W HW hsW HD Q' HQ => ?_; simp only [fillAt, dstOf, lc0, lcs, obs, Act.put, lsa, lsz, lss, nz, Nat.reduceAdd] at HQ ⊢
   have hd1 : xs 1 = .int .i64 0 := (HD.out.2 1 (dk (by kernel_rfl)) (by decide))
   generalize xs 1 = x1 at hd1 HQ ⊢; subst hd1
   go_wp2
   exact HQ.out _ _ (eR _) rfl
  ·intro _
   refine sopP rfl fun xs W HW hsW HD Q' HQ => ?_; simp only [fillAt, dstOf, lc0, lcs, obs, Act.put, lsa, lsz, lss, nz, Nat.reduceAdd] at HQ ⊢
   have hd1 : xs 2 = .bool true := (HD.out.2 2 (dk (by kernel_rfl)) (by decide))
   generalize xs 2 = x2 at hd1 HQ ⊢; subst hd1
   go_wp2
   exact HQ.out _ _ (eR _) rfl
  ·intro _
   refine sopP rfl fun xs W HW hsW HD Q' HQ => ?_; simp only [fillAt, dstOf, lc0, lcs, obs, Act.put, lsa, lsz, lss, nz, Nat.reduceAdd] at HQ ⊢
   have hd1 : xs 3 = .bool true := (HD.out.2 3 (dk (by kernel_rfl)) (by decide))
   generalize xs 3 = x3 at hd1 HQ ⊢; subst hd1
   have hc := (HW.out.row HR3.out (by show ¬ g = B; omega)).all (n := 3) rfl (by omega)
   go_wp2
   exact HQ.out _ _ (eR _) rfl
  ·intro _
   refine sopP rfl fun xs W HW hsW HD Q' HQ => ?_; simp only [fillAt, dstOf, lc0, lcs, obs, Act.put, lsa, lsz, lss, nz, Nat.reduceAdd] at HQ ⊢
   have hd1 : xs 3 = .bool true := (HD.out.2 3 (dk (by kernel_rfl)) (by decide))
   have hd2 : xs 4 = .agg #[.string cu, .slice A ls.length c, .slice A2 qs.length c2] := (HD.out.2 4 (dk (by kernel_rfl)) (by decide))
   have HXW := lh (HD.out.1 (dk (by kernel_rfl)))
   generalize xs 3 = x3 at hd1 HQ ⊢; subst hd1
   generalize xs 4 = x4 at hd2 HQ ⊢; subst hd2
   go_wp2_with (go_at_call 166; refine (HWr.out _ HXW.out).mono ?_; rintro e w1 ⟨rfl, hx⟩)
   exact HQ.out _ _ hx rfl
  ·intro _
   refine sopP rfl fun xs W HW hsW HD Q' HQ => ?_; simp only [fillAt, dstOf, lc0, lcs, obs, Act.put, lsa, lsz, lss, nz, Nat.reduceAdd] at HQ ⊢
   have hd1 : xs 3 = .bool true := (HD.out.2 3 (dk (by kernel_rfl)) (by decide))
   generalize xs 3 = x3 at hd1 HQ ⊢; subst hd1
   go_wp2
   exact HQ.out _ _ (eR _) rfl
  ·intro _
   refine sopP rfl fun xs W HW hsW HD Q' HQ => ?_; simp only [fillAt, dstOf, lc0, lcs, obs, Act.put, lsa, lsz, lss, nz, Nat.reduceAdd] at HQ ⊢
   have hd1 : xs 3 = .bool true := (HD.out.2 3 (dk (by kernel_rfl)) (by decide))
   have hd2 : xs 5 = .string tt := (HD.out.2 5 (dk (by kernel_rfl)) (by decide))
   have hd3 : xs 6 = .string s := (HD.out.2 6 (dk (by kernel_rfl)) (by decide))
   generalize xs 3 = x3 at hd1 HQ ⊢; subst hd1
   generalize xs 5 = x5 at hd2 HQ ⊢; subst hd2
   generalize xs 6 = x6 at hd3 HQ ⊢; subst hd3
   have hE := HE.out
   go_wp2
   exact HQ.out _ _ (eR _) rfl
  ·intro _
   refine sopP rfl fun xs W HW hsW HD Q' HQ => ?_; simp only [fillAt, dstOf, lc0, lcs, obs, Act.put, lsa, lsz, lss, nz, Nat.reduceAdd] at HQ ⊢
   have hd1 : xs 3 = .bool true := (HD.out.2 3 (dk (by kernel_rfl)) (by decide))
   have hd2 : xs 7 = .bool CB := (HD.out.2 7 (dk (by kernel_rfl)) (by decide))
   generalize xs 3 = x3 at hd1 HQ ⊢; subst hd1
   generalize xs 7 = x7 at hd2 HQ ⊢; subst hd2
   go_wp2
   exact HQ.out _ _ (eR _) rfl
  ·exact fun h => absurd rfl h
  ·intro _
   refine sopP rfl fun xs W HW hsW HD Q' HQ => ?_; simp only [fillAt, dstOf, lc0, lcs, obs, Act.put, lsa, lsz, lss, nz, Nat.reduceAdd] at HQ ⊢
   have hd2 : xs 8 = .bool CB := (HD.out.2 8 (dk (by kernel_rfl)) (by decide))
   generalize xs 8 = x8 at hd2 HQ ⊢; subst hd2
   go_wp2
   exact HQ.out _ _ (eR _) rfl
  ·refine sop rfl fun xs W HW hsW HD Q' HQ => ?_; simp only [fillAt, dstOf, lc0, lcs, obs, Act.put, lsa, lsz, lss, nz, Nat.reduceAdd] at HQ ⊢
   have hd0 : xs 0 = .agg #[.string cu, .slice A ls.length c, .slice A2 qs.length c2] := (HD.out.2 0 (dk (by kernel_rfl)) (by decide))
   have hrm : roomOf W B 0 3 = true := by rw [HD.out.1.room]; rfl
   generalize xs 0 = x0 at hd0 HQ ⊢; subst hd0
   go_wp2
   exact HQ.out undef
  ·intro xs W4 hb4 hr4 hvs
   have h10 := hvs 10 (by omega) (by omega)
   simp only [fillAt, dstOf, lc0, lcs, obs, Act.put, lsa, lsz, lss, nz, Nat.reduceAdd]
   generalize xs 10 = x10 at *
   subst h10
   have hE5 : Ext w W4 := ((ButS.of_ext (S := (· = B)) (HX2.out.trans HX3.out)).trans hb4).toExt (fun k hk e => by omega)
   have hO1 := (HO1.out.ext HX3.out).butS hb4 (fun k hk e => by omega)
   have hO2 := (HO2.out.ext HX3.out).butS hb4 (fun k hk e => by omega)
   have hld := adr_loaded (hr4.all (n := 3) rfl (by omega))
   clear hvs
   go_wp2
   refine post_two Tryz.results122 rfl ⟨_, rfl, hld⟩ rfl ?_
   exact ⟨⟨_, rfl, cu, A, c, ls, A2, c2, qs, rfl, HA.out, hO1.lower (by omega), hO2.lower (by omega)⟩, hE5⟩
 ·have hCB := HB2.out h0
  subst hCB
  have d0 : (PE == 0) = false := by simpa using h0
  clear HB HB2 HG htx
  refine wp_region_put 11 (by kernel_rfl) 9 (fun i => ([.agg #[.string cu, .slice A ls.length c, .slice A2 qs.length c2], .int .i64 PE, .bool false, .bool false, undef, undef, undef, undef, .bool false, undef, .bool false] : List Value).getD i undef) B #[.string ByteArray.empty, .slice none 0 0, .slice none 0 0] #[.string cu, .slice A ls.length c, .slice A2 qs.length c2] (by kernel_rfl) (by kernel_rfl) (by kernel_rfl) HRB.out rfl (lt_cons ?_ (lt_cons ?_ (lt_cons ?_ (lt_cons ?_ (lt_cons ?_ (lt_cons ?_ (lt_cons ?_ (lt_cons ?_ (lt_cons ?_ (lt_cons ?_ (lt_cons ?_ lt_none))))))))))) ?_ ?_
  ·intro _
   refine sopP rfl fun xs W HW hsW HD Q' HQ => ?_; simp only [fillAt, dstOf, lc0, lcs, obs, Act.put, lsa, lsz, lss, nz, Nat.reduceAdd] at HQ ⊢
   have hc := (HW.out.row HR3.out (by show ¬ g = B; omega)).all (n := 3) rfl (by omega)
   go_wp2
   exact HQ.out _ _ (eR _) rfl
  ·intro _
   refine sopP rfl fun xs W HW hsW HD Q' HQ => ?_; simp only [fillAt, dstOf, lc0, lcs, obs, Act.put, lsa, lsz, lss, nz, Nat.reduceAdd] at HQ ⊢
   go_wp2
   exact HQ.out _ _ (eR _) rfl
  ·intro _
   refine sopP rfl fun xs W HW hsW HD Q' HQ => ?_; simp only [fillAt, dstOf, lc0, lcs, obs, Act.put, lsa, lsz, lss, nz, Nat.reduceAdd] at HQ ⊢
   have hd1 : xs 1 = .int .i64 PE := (HD.out.2 1 (dk (by kernel_rfl)) (by decide))
   generalize xs 1 = x1 at hd1 HQ ⊢; subst hd1
   go_wp2
   exact HQ.out _ _ (eR _) rfl
  ·intro _
   refine sopP rfl fun xs W HW hsW HD Q' HQ => ?_; simp only [fillAt, dstOf, lc0, lcs, obs, Act.put, lsa, lsz, lss, nz, Nat.reduceAdd] at HQ ⊢
   have hd1 : xs 2 = .bool false := (HD.out.2 2 (dk (by kernel_rfl)) (by decide))
   generalize xs 2 = x2 at hd1 HQ ⊢; subst hd1
   go_wp2
   exact HQ.out _ _ (eR _) rfl
  ·intro _
   refine sopP rfl fun xs W HW hsW HD Q' HQ => ?_; simp only [fillAt, dstOf, lc0, lcs, obs, Act.put, lsa, lsz, lss, nz, Nat.reduceAdd] at HQ ⊢
   have hd1 : xs 3 = .bool false := (HD.out.2 3 (dk (by kernel_rfl)) (by decide))
   generalize xs 3 = x3 at hd1 HQ ⊢; subst hd1
   go_wp2
   exact HQ.out _ _ (eR _) rfl
  ·intro _
   refine sopP rfl fun xs W HW hsW HD Q' HQ => ?_; simp only [fillAt, dstOf, lc0, lcs, obs, Act.put, lsa, lsz, lss, nz, Nat.reduceAdd] at HQ ⊢
   have hd1 : xs 3 = .bool false := (HD.out.2 3 (dk (by kernel_rfl)) (by decide))
   generalize xs 3 = x3 at hd1 HQ ⊢; subst hd1
   go_wp2
   exact HQ.out _ _ (eR _) rfl
  ·intro _
   refine sopP rfl fun xs W HW hsW HD Q' HQ => ?_; simp only [fillAt, dstOf, lc0, lcs, obs, Act.put, lsa, lsz, lss, nz, Nat.reduceAdd] at HQ ⊢
   have hd1 : xs 3 = .bool false := (HD.out.2 3 (dk (by kernel_rfl)) (by decide))
   generalize xs 3 = x3 at hd1 HQ ⊢; subst hd1
   go_wp2
   exact HQ.out _ _ (eR _) rfl
  ·intro _
   refine sopP rfl fun xs W HW hsW HD Q' HQ => ?_; simp only [fillAt, dstOf, lc0, lcs, obs, Act.put, lsa, lsz, lss, nz, Nat.reduceAdd] at HQ ⊢
   have hd1 : xs 3 = .bool false := (HD.out.2 3 (dk (by kernel_rfl)) (by decide))
   generalize xs 3 = x3 at hd1 HQ ⊢; subst hd1
   go_wp2
   exact HQ.out _ _ (eR _) rfl
  ·intro _
   refine sopP rfl fun xs W HW hsW HD Q' HQ => ?_; simp only [fillAt, dstOf, lc0, lcs, obs, Act.put, lsa, lsz, lss, nz, Nat.reduceAdd] at HQ ⊢
   have hd1 : xs 3 = .bool false := (HD.out.2 3 (dk (by kernel_rfl)) (by decide))
   generalize xs 3 = x3 at hd1 HQ ⊢; subst hd1
   go_wp2
   exact HQ.out _ _ (eR _) rfl
  ·exact fun h => absurd rfl h
  ·intro _
   refine sopP rfl fun xs W HW hsW HD Q' HQ => ?_; simp only [fillAt, dstOf, lc0, lcs, obs, Act.put, lsa, lsz, lss, nz, Nat.reduceAdd] at HQ ⊢
   have hd2 : xs 8 = .bool false := (HD.out.2 8 (dk (by kernel_rfl)) (by decide))
   generalize xs 8 = x8 at hd2 HQ ⊢; subst hd2
   go_wp2
   exact HQ.out _ _ (eR _) rfl
  ·refine sop rfl fun xs W HW hsW HD Q' HQ => ?_; simp only [fillAt, dstOf, lc0, lcs, obs, Act.put, lsa, lsz, lss, nz, Nat.reduceAdd] at HQ ⊢
   have hd0 : xs 0 = .agg #[.string cu, .slice A ls.length c, .slice A2 qs.length c2] := (HD.out.2 0 (dk (by kernel_rfl)) (by decide))
   have hrm : roomOf W B 0 3 = true := by rw [HD.out.1.room]; rfl
   generalize xs 0 = x0 at hd0 HQ ⊢; subst hd0
   go_wp2
   exact HQ.out undef
  ·intro xs W4 hb4 hr4 hvs
   have h10 := hvs 10 (by omega) (by omega)
   simp only [fillAt, dstOf, lc0, lcs, obs, Act.put, lsa, lsz, lss, nz, Nat.reduceAdd]
   generalize xs 10 = x10 at *
   subst h10
   have hE5 : Ext w W4 := ((ButS.of_ext (S := (· = B)) (HX2.out.trans HX3.out)).trans hb4).toExt (fun k hk e => by omega)
   have hO1 := (HO1.out.ext HX3.out).butS hb4 (fun k hk e => by omega)
   have hO2 := (HO2.out.ext HX3.out).butS hb4 (fun k hk e => by omega)
   have hld := adr_loaded (hr4.all (n := 3) rfl (by omega))
   clear hvs
   go_wp2
   refine post_two Tryz.results122 rfl ⟨_, rfl, hld⟩ rfl ?_
   exact ⟨⟨_, rfl, cu, A, c, ls, A2, c2, qs, rfl, HA.out, hO1.lower (by omega), hO2.lower (by omega)⟩, hE5⟩
end
end Go.Proofs.YtpojnhikgjcgmaaGreatDoor