
import Derived.WalkKit
import Derived.WalkSpells
import Derived.WalkLawsBesides
import Derived.Deep.QuietTactic
import Derived.BigQuiet
import Derived.Test.YtpfhmcdcmepfdaaGreatDoorUOz
set_option maxRecDepth 100000
set_option maxHeartbeats 64000000
set_option linter.unusedVariables false
set_option linter.unusedSimpArgs false
namespace Go.Proofs.YtpfhmcdcmepfdaaGreatDoor
open Go.RowKit Go.Shelf
open Go.Proofs
def readBy (ls : List Int) : Soft := ⟨fun v w => ∃ A c, v = .slice A ls.length c ∧ ReadsB w w.heap.size A ls, fun v w w' ⟨A, c, h1, h2⟩ hx => ⟨A, c, h1, h2.on hx⟩⟩
theorem arr_reads {w : World} {b o : Nat} {l : List Int} (h : rowOf w b o 16 = some (dgC l)) (h16 : l.length = 16) (hb : b < w.heap.size) : ReadsB w w.heap.size (some ⟨b, o, none⟩) l := by
 intro _
 refine ⟨b, o, rfl, hb, fun i hi j v hv => ?_⟩
 have hj : j = 0 := by
  have := (List.getElem?_eq_some_iff.1 hv).1
  simp [encB] at this
  omega
 subst hj
 simp only [encB, List.getElem?_cons_zero, Option.some.injEq] at hv
 subst hv
 rw [dgC_cells h16] at h
 have hc := rowOf_cell h (i := i) (by omega)
 rw [cells8_get, h16, if_pos (by omega)] at hc
 rw [Nat.mul_one, Nat.add_zero, hc]
 simp [hi]
theorem reads_freshB {α : Type} {size : Nat} {enc : α → List Value} (E : EncTy enc size) (l : List α) (W : World) (cs : Array Value) (t : TypeId) (h : cs.toList = l.flatMap enc) (b : Nat) (hb : b = W.heap.size) : Reads size enc (W.alloc (.cells cs t)) (W.alloc (.cells cs t)).heap.size (some ⟨b, 0, none⟩) l := by
 subst hb
 exact reads_fresh E l W cs t h
theorem cparts_any (s : Cf) (w : World) (hs : CfOk s) :
  Calls Tryz.prog 60 #[.agg (cfC s)] w fun e w' => ∃ A c, e = .returned (.slice A (cfParts s).length c) ∧ ReadsStr w' w'.heap.size A (cfParts s) ∧ (A = none → c = 0) ∧ Ext w w' := by
 have HI := lh (fun (A : Option Addr) (c : Nat) (W : World) (hr : ReadsInt W W.heap.size A [s.site, s.epoch, s.lo, s.hi, s.serial]) => wints_ok A c [s.site, s.epoch, s.lo, s.hi, s.serial] W (by show 5 ≤ 100000; decide) hr hs.ints)
 have H16 := lh hs.name.len
 clear hs
 go_enter Tryz.func60, Tryz.ntmps60
 go_wp2
 refine wp_world (fun W => Ext w W ∧ RowAt W w.heap.size (cfC s)) ⟨(by (with_reducible repeat first|exact eR _|apply eD|apply eN|apply eA|apply eO|apply eS|apply eC);all_goals first|omega|simp <;> omega), RowAt.new _ _ _⟩ ?_
 obtain ⟨B, hB⟩ : ∃ B, w.heap.size = B := ⟨_, rfl⟩
 rw [hB]
 rintro W1 ⟨x1, uB⟩
 have HX1 := lh x1
 have hlu := uB.lt
 have qB_0 : W1.cell? ⟨B, 0, none⟩ = some (.int .i64 s.site) := (uB.cell 0).trans (cf_g0 s)
 have qB_1 : W1.cell? ⟨B, 1, none⟩ = some (.int .i64 s.epoch) := (uB.cell 1).trans (cf_g1 s)
 have qB_18 : W1.cell? ⟨B, 18, none⟩ = some (.int .i64 s.lo) := (uB.cell 18).trans (cf_g18 s)
 have qB_19 : W1.cell? ⟨B, 19, none⟩ = some (.int .i64 s.hi) := (uB.cell 19).trans (cf_g19 s)
 have qB_20 : W1.cell? ⟨B, 20, none⟩ = some (.int .i64 s.serial) := (uB.cell 20).trans (cf_g20 s)
 have rdB_2 := lh (arr_reads ((uB.row 2 16).trans (by rw [if_neg (by omega), cf_s2_16])) H16.out hlu)
 clear x1 uB
 refine wp_region_soft 18 (softsL [.eq (.pointer (some ⟨B, 0, none⟩)), .eq (.int .i64 s.site), .eq (.pointer (some ⟨B, 1, none⟩)), .eq (.int .i64 s.epoch), .eq (.pointer (some ⟨B, 18, none⟩)), .eq (.pointer (some ⟨B, 18, none⟩)), .eq (.int .i64 s.lo), .eq (.pointer (some ⟨B, 18, none⟩)), .eq (.pointer (some ⟨B, 19, none⟩)), .eq (.int .i64 s.hi), .eq (.pointer (some ⟨B, 20, none⟩)), .eq (.int .i64 s.serial), readI ([s.site, s.epoch, s.lo, s.hi, s.serial]), readBy (encInts [s.site, s.epoch, s.lo, s.hi, s.serial]), .eq (.string (strOfNums (encInts [s.site, s.epoch, s.lo, s.hi, s.serial]))), .eq (.pointer (some ⟨B, 2, none⟩)), .eq (.slice (some ⟨B, 2, none⟩) 16 16), .eq (.string (strOfNums s.name))]) (by kernel_rfl) (by kernel_rfl) (lt_cons ?_ (lt_cons ?_ (lt_cons ?_ (lt_cons ?_ (lt_cons ?_ (lt_cons ?_ (lt_cons ?_ (lt_cons ?_ (lt_cons ?_ (lt_cons ?_ (lt_cons ?_ (lt_cons ?_ (lt_cons ?_ (lt_cons ?_ (lt_cons ?_ (lt_cons ?_ (lt_cons ?_ (lt_cons ?_ (lt_none))))))))))))))))))) ?_
 any_goals (refine sop rfl fun xs W HW hsW HD Q' HQ => ?_; simp only [fillAt, dstOf, lc0, lcs, obs, Act.put, lsa, lsz, lss, nz, Nat.reduceAdd] at HQ ⊢)
 ·
  go_wp2
  exact HQ.out _ _ (eR _) rfl
 ·
  have hd0 : xs 0 = .pointer (some ⟨B, 0, none⟩) := (HD.out 0 (dk (by kernel_rfl)))
  generalize xs 0 = x0 at hd0 HQ ⊢; subst hd0
  have hc : W.cell? ⟨B, 0, none⟩ = some (.int .i64 s.site) := (HW.out.cell (p := ⟨B, 0, none⟩) (by show B < _; omega)).trans qB_0
  go_wp2
  exact HQ.out _ _ (eR _) rfl
 ·
  go_wp2
  exact HQ.out _ _ (eR _) rfl
 ·
  have hd2 : xs 2 = .pointer (some ⟨B, 1, none⟩) := (HD.out 2 (dk (by kernel_rfl)))
  generalize xs 2 = x2 at hd2 HQ ⊢; subst hd2
  have hc : W.cell? ⟨B, 1, none⟩ = some (.int .i64 s.epoch) := (HW.out.cell (p := ⟨B, 1, none⟩) (by show B < _; omega)).trans qB_1
  go_wp2
  exact HQ.out _ _ (eR _) rfl
 ·
  go_wp2
  exact HQ.out _ _ (eR _) rfl
 ·
  have hd4 : xs 4 = .pointer (some ⟨B, 18, none⟩) := (HD.out 4 (dk (by kernel_rfl)))
  generalize xs 4 = x4 at hd4 HQ ⊢; subst hd4
  go_wp2
  exact HQ.out _ _ (eR _) rfl
 ·
  have hd5 : xs 5 = .pointer (some ⟨B, 18, none⟩) := (HD.out 5 (dk (by kernel_rfl)))
  generalize xs 5 = x5 at hd5 HQ ⊢; subst hd5
  have hc : W.cell? ⟨B, 18, none⟩ = some (.int .i64 s.lo) := (HW.out.cell (p := ⟨B, 18, none⟩) (by show B < _; omega)).trans qB_18
  go_wp2
  exact HQ.out _ _ (eR _) rfl
 ·
  go_wp2
  exact HQ.out _ _ (eR _) rfl
 ·
  have hd7 : xs 7 = .pointer (some ⟨B, 18, none⟩) := (HD.out 7 (dk (by kernel_rfl)))
  generalize xs 7 = x7 at hd7 HQ ⊢; subst hd7
  go_wp2
  exact HQ.out _ _ (eR _) rfl
 ·
  have hd8 : xs 8 = .pointer (some ⟨B, 19, none⟩) := (HD.out 8 (dk (by kernel_rfl)))
  generalize xs 8 = x8 at hd8 HQ ⊢; subst hd8
  have hc : W.cell? ⟨B, 19, none⟩ = some (.int .i64 s.hi) := (HW.out.cell (p := ⟨B, 19, none⟩) (by show B < _; omega)).trans qB_19
  go_wp2
  exact HQ.out _ _ (eR _) rfl
 ·
  go_wp2
  exact HQ.out _ _ (eR _) rfl
 ·
  have hd10 : xs 10 = .pointer (some ⟨B, 20, none⟩) := (HD.out 10 (dk (by kernel_rfl)))
  generalize xs 10 = x10 at hd10 HQ ⊢; subst hd10
  have hc : W.cell? ⟨B, 20, none⟩ = some (.int .i64 s.serial) := (HW.out.cell (p := ⟨B, 20, none⟩) (by show B < _; omega)).trans qB_20
  go_wp2
  exact HQ.out _ _ (eR _) rfl
 ·
  have hd1 : xs 1 = .int .i64 s.site := (HD.out 1 (dk (by kernel_rfl)))
  generalize xs 1 = x1 at hd1 HQ ⊢; subst hd1
  have hd3 : xs 3 = .int .i64 s.epoch := (HD.out 3 (dk (by kernel_rfl)))
  generalize xs 3 = x3 at hd3 HQ ⊢; subst hd3
  have hd6 : xs 6 = .int .i64 s.lo := (HD.out 6 (dk (by kernel_rfl)))
  generalize xs 6 = x6 at hd6 HQ ⊢; subst hd6
  have hd9 : xs 9 = .int .i64 s.hi := (HD.out 9 (dk (by kernel_rfl)))
  generalize xs 9 = x9 at hd9 HQ ⊢; subst hd9
  have hd11 : xs 11 = .int .i64 s.serial := (HD.out 11 (dk (by kernel_rfl)))
  generalize xs 11 = x11 at hd11 HQ ⊢; subst hd11
  go_wp2
  exact HQ.out _ _ ((eR _).alloc _) ⟨_, _, rfl, reads_fresh zE ([s.site, s.epoch, s.lo, s.hi, s.serial]) W _ _ rfl⟩
 ·
  obtain ⟨A12, c12, h12, hr12⟩ : (readI ([s.site, s.epoch, s.lo, s.hi, s.serial])).S (xs 12) W := (HD.out 12 (dk (by kernel_rfl)))
  generalize xs 12 = x12 at h12 HQ ⊢; subst h12
  go_wp2_with (go_at_call 119; refine (HI.out A12 c12 _ hr12).mono ?_; rintro e w1 ⟨A, c, rfl, ho, hx⟩)
  exact HQ.out _ _ hx ⟨A, c, rfl, ho.reads bE⟩
 ·
  obtain ⟨A13, c13, h13, hr13⟩ : (readBy (encInts [s.site, s.epoch, s.lo, s.hi, s.serial])).S (xs 13) W := (HD.out 13 (dk (by kernel_rfl)))
  generalize xs 13 = x13 at h13 HQ ⊢; subst h13
  have hcv := conv_bytes c13 hr13 (encInts_pos _)
  go_wp2
  exact HQ.out _ _ (eR _) rfl
 ·
  go_wp2
  exact HQ.out _ _ (eR _) rfl
 ·
  have hd15 : xs 15 = .pointer (some ⟨B, 2, none⟩) := (HD.out 15 (dk (by kernel_rfl)))
  generalize xs 15 = x15 at hd15 HQ ⊢; subst hd15
  go_wp2
  exact HQ.out _ _ (eR _) rfl
 ·
  have hd16 : xs 16 = .slice (some ⟨B, 2, none⟩) 16 16 := (HD.out 16 (dk (by kernel_rfl)))
  generalize xs 16 = x16 at hd16 HQ ⊢; subst hd16
  have hcv := conv_bytes 16 (rdB_2.out.on HW.out) (by rw [H16.out]; omega)
  rw [H16.out] at hcv
  go_wp2
  exact HQ.out _ _ (eR _) rfl
 intro xs W3 hW hS
 have h14 : xs 14 = .string (strOfNums (encInts [s.site, s.epoch, s.lo, s.hi, s.serial])) := hS 14 (by omega)
 have h17 : xs 17 = .string (strOfNums s.name) := hS 17 (by omega)
 simp only [fillAt, dstOf, lc0, lcs, obs, Act.put, lsa, lsz, lss, nz, Nat.reduceAdd, List.drop_succ_cons, List.drop_zero, List.drop_nil]
 generalize xs 14 = x14 at *; subst h14
 generalize xs 17 = x17 at *; subst h17
 have HW3 := lh (HX1.out.trans hW)
 have HWW3 := lh hW
 clear hS hW qB_0 qB_1 qB_18 qB_19 qB_20
 go_wp2
 go_ret
 exact ⟨_, _, rfl, reads_fresh sE (cfParts s) W3 _ _ rfl, fun h => (by cases h), (by (with_reducible repeat first|exact HW3.out|exact eR _|apply eD|apply eN|apply eA|apply eO|apply eS|apply eC);all_goals first|omega|simp <;> omega)⟩
theorem rcparts_any (s : Cf) (w : World) (hs : CfOk s) :
  Calls Tryz.prog 64 #[.agg (cfC s)] w fun e w' => ∃ A c, e = .returned (.slice A (cfParts s).length c) ∧ ReadsStr w' w'.heap.size A (cfParts s) ∧ (A = none → c = 0) ∧ Ext w w' := by
 have HI := lh (fun (A : Option Addr) (c : Nat) (W : World) (hr : ReadsInt W W.heap.size A [s.site, s.epoch, s.lo, s.hi, s.serial]) => rwints_ok A c [s.site, s.epoch, s.lo, s.hi, s.serial] W (by show 5 ≤ 100000; decide) hr hs.ints)
 have H16 := lh hs.name.len
 clear hs
 go_enter Tryz.func64, Tryz.ntmps64
 go_wp2
 refine wp_world (fun W => Ext w W ∧ RowAt W w.heap.size (cfC s)) ⟨(by (with_reducible repeat first|exact eR _|apply eD|apply eN|apply eA|apply eO|apply eS|apply eC);all_goals first|omega|simp <;> omega), RowAt.new _ _ _⟩ ?_
 obtain ⟨B, hB⟩ : ∃ B, w.heap.size = B := ⟨_, rfl⟩
 rw [hB]
 rintro W1 ⟨x1, uB⟩
 have HX1 := lh x1
 have hlu := uB.lt
 have qB_0 : W1.cell? ⟨B, 0, none⟩ = some (.int .i64 s.site) := (uB.cell 0).trans (cf_g0 s)
 have qB_1 : W1.cell? ⟨B, 1, none⟩ = some (.int .i64 s.epoch) := (uB.cell 1).trans (cf_g1 s)
 have qB_18 : W1.cell? ⟨B, 18, none⟩ = some (.int .i64 s.lo) := (uB.cell 18).trans (cf_g18 s)
 have qB_19 : W1.cell? ⟨B, 19, none⟩ = some (.int .i64 s.hi) := (uB.cell 19).trans (cf_g19 s)
 have qB_20 : W1.cell? ⟨B, 20, none⟩ = some (.int .i64 s.serial) := (uB.cell 20).trans (cf_g20 s)
 have rdB_2 := lh (arr_reads ((uB.row 2 16).trans (by rw [if_neg (by omega), cf_s2_16])) H16.out hlu)
 clear x1 uB
 refine wp_region_soft 18 (softsL [.eq (.pointer (some ⟨B, 0, none⟩)), .eq (.int .i64 s.site), .eq (.pointer (some ⟨B, 1, none⟩)), .eq (.int .i64 s.epoch), .eq (.pointer (some ⟨B, 18, none⟩)), .eq (.pointer (some ⟨B, 18, none⟩)), .eq (.int .i64 s.lo), .eq (.pointer (some ⟨B, 18, none⟩)), .eq (.pointer (some ⟨B, 19, none⟩)), .eq (.int .i64 s.hi), .eq (.pointer (some ⟨B, 20, none⟩)), .eq (.int .i64 s.serial), readI ([s.site, s.epoch, s.lo, s.hi, s.serial]), readBy (encInts [s.site, s.epoch, s.lo, s.hi, s.serial]), .eq (.string (strOfNums (encInts [s.site, s.epoch, s.lo, s.hi, s.serial]))), .eq (.pointer (some ⟨B, 2, none⟩)), .eq (.slice (some ⟨B, 2, none⟩) 16 16), .eq (.string (strOfNums s.name))]) (by kernel_rfl) (by kernel_rfl) (lt_cons ?_ (lt_cons ?_ (lt_cons ?_ (lt_cons ?_ (lt_cons ?_ (lt_cons ?_ (lt_cons ?_ (lt_cons ?_ (lt_cons ?_ (lt_cons ?_ (lt_cons ?_ (lt_cons ?_ (lt_cons ?_ (lt_cons ?_ (lt_cons ?_ (lt_cons ?_ (lt_cons ?_ (lt_cons ?_ (lt_none))))))))))))))))))) ?_
 any_goals (refine sop rfl fun xs W HW hsW HD Q' HQ => ?_; simp only [fillAt, dstOf, lc0, lcs, obs, Act.put, lsa, lsz, lss, nz, Nat.reduceAdd] at HQ ⊢)
 ·
  go_wp2
  exact HQ.out _ _ (eR _) rfl
 ·
  have hd0 : xs 0 = .pointer (some ⟨B, 0, none⟩) := (HD.out 0 (dk (by kernel_rfl)))
  generalize xs 0 = x0 at hd0 HQ ⊢; subst hd0
  have hc : W.cell? ⟨B, 0, none⟩ = some (.int .i64 s.site) := (HW.out.cell (p := ⟨B, 0, none⟩) (by show B < _; omega)).trans qB_0
  go_wp2
  exact HQ.out _ _ (eR _) rfl
 ·
  go_wp2
  exact HQ.out _ _ (eR _) rfl
 ·
  have hd2 : xs 2 = .pointer (some ⟨B, 1, none⟩) := (HD.out 2 (dk (by kernel_rfl)))
  generalize xs 2 = x2 at hd2 HQ ⊢; subst hd2
  have hc : W.cell? ⟨B, 1, none⟩ = some (.int .i64 s.epoch) := (HW.out.cell (p := ⟨B, 1, none⟩) (by show B < _; omega)).trans qB_1
  go_wp2
  exact HQ.out _ _ (eR _) rfl
 ·
  go_wp2
  exact HQ.out _ _ (eR _) rfl
 ·
  have hd4 : xs 4 = .pointer (some ⟨B, 18, none⟩) := (HD.out 4 (dk (by kernel_rfl)))
  generalize xs 4 = x4 at hd4 HQ ⊢; subst hd4
  go_wp2
  exact HQ.out _ _ (eR _) rfl
 ·
  have hd5 : xs 5 = .pointer (some ⟨B, 18, none⟩) := (HD.out 5 (dk (by kernel_rfl)))
  generalize xs 5 = x5 at hd5 HQ ⊢; subst hd5
  have hc : W.cell? ⟨B, 18, none⟩ = some (.int .i64 s.lo) := (HW.out.cell (p := ⟨B, 18, none⟩) (by show B < _; omega)).trans qB_18
  go_wp2
  exact HQ.out _ _ (eR _) rfl
 ·
  go_wp2
  exact HQ.out _ _ (eR _) rfl
 ·
  have hd7 : xs 7 = .pointer (some ⟨B, 18, none⟩) := (HD.out 7 (dk (by kernel_rfl)))
  generalize xs 7 = x7 at hd7 HQ ⊢; subst hd7
  go_wp2
  exact HQ.out _ _ (eR _) rfl
 ·
  have hd8 : xs 8 = .pointer (some ⟨B, 19, none⟩) := (HD.out 8 (dk (by kernel_rfl)))
  generalize xs 8 = x8 at hd8 HQ ⊢; subst hd8
  have hc : W.cell? ⟨B, 19, none⟩ = some (.int .i64 s.hi) := (HW.out.cell (p := ⟨B, 19, none⟩) (by show B < _; omega)).trans qB_19
  go_wp2
  exact HQ.out _ _ (eR _) rfl
 ·
  go_wp2
  exact HQ.out _ _ (eR _) rfl
 ·
  have hd10 : xs 10 = .pointer (some ⟨B, 20, none⟩) := (HD.out 10 (dk (by kernel_rfl)))
  generalize xs 10 = x10 at hd10 HQ ⊢; subst hd10
  have hc : W.cell? ⟨B, 20, none⟩ = some (.int .i64 s.serial) := (HW.out.cell (p := ⟨B, 20, none⟩) (by show B < _; omega)).trans qB_20
  go_wp2
  exact HQ.out _ _ (eR _) rfl
 ·
  have hd1 : xs 1 = .int .i64 s.site := (HD.out 1 (dk (by kernel_rfl)))
  generalize xs 1 = x1 at hd1 HQ ⊢; subst hd1
  have hd3 : xs 3 = .int .i64 s.epoch := (HD.out 3 (dk (by kernel_rfl)))
  generalize xs 3 = x3 at hd3 HQ ⊢; subst hd3
  have hd6 : xs 6 = .int .i64 s.lo := (HD.out 6 (dk (by kernel_rfl)))
  generalize xs 6 = x6 at hd6 HQ ⊢; subst hd6
  have hd9 : xs 9 = .int .i64 s.hi := (HD.out 9 (dk (by kernel_rfl)))
  generalize xs 9 = x9 at hd9 HQ ⊢; subst hd9
  have hd11 : xs 11 = .int .i64 s.serial := (HD.out 11 (dk (by kernel_rfl)))
  generalize xs 11 = x11 at hd11 HQ ⊢; subst hd11
  go_wp2
  exact HQ.out _ _ ((eR _).alloc _) ⟨_, _, rfl, reads_fresh zE ([s.site, s.epoch, s.lo, s.hi, s.serial]) W _ _ rfl⟩
 ·
  obtain ⟨A12, c12, h12, hr12⟩ : (readI ([s.site, s.epoch, s.lo, s.hi, s.serial])).S (xs 12) W := (HD.out 12 (dk (by kernel_rfl)))
  generalize xs 12 = x12 at h12 HQ ⊢; subst h12
  go_wp2_with (go_at_call 88; refine (HI.out A12 c12 _ hr12).mono ?_; rintro e w1 ⟨A, c, rfl, ho, hx⟩)
  exact HQ.out _ _ hx ⟨A, c, rfl, ho.reads bE⟩
 ·
  obtain ⟨A13, c13, h13, hr13⟩ : (readBy (encInts [s.site, s.epoch, s.lo, s.hi, s.serial])).S (xs 13) W := (HD.out 13 (dk (by kernel_rfl)))
  generalize xs 13 = x13 at h13 HQ ⊢; subst h13
  have hcv := conv_bytes c13 hr13 (encInts_pos _)
  go_wp2
  exact HQ.out _ _ (eR _) rfl
 ·
  go_wp2
  exact HQ.out _ _ (eR _) rfl
 ·
  have hd15 : xs 15 = .pointer (some ⟨B, 2, none⟩) := (HD.out 15 (dk (by kernel_rfl)))
  generalize xs 15 = x15 at hd15 HQ ⊢; subst hd15
  go_wp2
  exact HQ.out _ _ (eR _) rfl
 ·
  have hd16 : xs 16 = .slice (some ⟨B, 2, none⟩) 16 16 := (HD.out 16 (dk (by kernel_rfl)))
  generalize xs 16 = x16 at hd16 HQ ⊢; subst hd16
  have hcv := conv_bytes 16 (rdB_2.out.on HW.out) (by rw [H16.out]; omega)
  rw [H16.out] at hcv
  go_wp2
  exact HQ.out _ _ (eR _) rfl
 intro xs W3 hW hS
 have h14 : xs 14 = .string (strOfNums (encInts [s.site, s.epoch, s.lo, s.hi, s.serial])) := hS 14 (by omega)
 have h17 : xs 17 = .string (strOfNums s.name) := hS 17 (by omega)
 simp only [fillAt, dstOf, lc0, lcs, obs, Act.put, lsa, lsz, lss, nz, Nat.reduceAdd, List.drop_succ_cons, List.drop_zero, List.drop_nil]
 generalize xs 14 = x14 at *; subst h14
 generalize xs 17 = x17 at *; subst h17
 have HW3 := lh (HX1.out.trans hW)
 have HWW3 := lh hW
 clear hS hW qB_0 qB_1 qB_18 qB_19 qB_20
 go_wp2
 go_ret
 exact ⟨_, _, rfl, reads_fresh sE (cfParts s) W3 _ _ rfl, fun h => (by cases h), (by (with_reducible repeat first|exact HW3.out|exact eR _|apply eD|apply eN|apply eA|apply eO|apply eS|apply eC);all_goals first|omega|simp <;> omega)⟩
theorem lparts_any (s : Le) (w : World) (hs : ∀ x ∈ leInts s, i64 x) :
  Calls Tryz.prog 126 #[.agg (leC s)] w fun e w' => ∃ A c, e = .returned (.slice A (leParts s).length c) ∧ ReadsStr w' w'.heap.size A (leParts s) ∧ (A = none → c = 0) ∧ Ext w w' := by
 have HI : Hid (∀ (b : Nat) (W : World) (t : TypeId), b = W.heap.size → Calls Tryz.prog 156 #[.slice (some ⟨b, 0, none⟩) 4 4] (W.alloc (.cells #[.int .i64 s.site, .int .i64 s.epoch, .int .i64 s.until_, .int .i64 s.serial] t)) fun e w' => e = .returned (.string (strOfNums (encInts (leInts s)))) ∧ Ext (W.alloc (.cells #[.int .i64 s.site, .int .i64 s.epoch, .int .i64 s.until_, .int .i64 s.serial] t)) w') := lh (fun b W t hb => by
  subst hb
  exact sints_ok _ 4 (leInts s) _ (by show 4 ≤ 100000; decide) (reads_fresh zE (leInts s) W _ t rfl) hs)
 have HL : Hid (leParts s = [strOfNums (encInts (leInts s))]) := lh rfl
 generalize hT : strOfNums (encInts (leInts s)) = T at *
 clear hs hT
 go_enter Tryz.func126, Tryz.ntmps126
 go_wp2_with (go_at_call 156; refine (HI.out _ _ _ (by simp)).mono ?_; rintro e w' ⟨rfl, hxl⟩; obtain ⟨xl, rfl⟩ := hxl.asLater; clear hxl)
 go_ret
 rw [HL.out]
 exact ⟨_, _, rfl, reads_freshB sE [T] _ _ _ rfl _ (by simp [later_size]), fun h => (by cases h), (by (with_reducible repeat first|exact eR _|apply eD|apply eN|apply eA|apply eO|apply eS|apply eC);all_goals first|omega|simp <;> omega)⟩
theorem rlparts_any (s : Le) (w : World) (hs : ∀ x ∈ leInts s, i64 x) :
  Calls Tryz.prog 89 #[.agg (leC s)] w fun e w' => ∃ A c, e = .returned (.slice A (leParts s).length c) ∧ ReadsStr w' w'.heap.size A (leParts s) ∧ (A = none → c = 0) ∧ Ext w w' := by
 have HI : Hid (∀ (b : Nat) (W : World) (t : TypeId), b = W.heap.size → Calls Tryz.prog 133 #[.slice (some ⟨b, 0, none⟩) 4 4] (W.alloc (.cells #[.int .i64 s.site, .int .i64 s.epoch, .int .i64 s.until_, .int .i64 s.serial] t)) fun e w' => e = .returned (.string (strOfNums (encInts (leInts s)))) ∧ Ext (W.alloc (.cells #[.int .i64 s.site, .int .i64 s.epoch, .int .i64 s.until_, .int .i64 s.serial] t)) w') := lh (fun b W t hb => by
  subst hb
  exact rsints_ok _ 4 (leInts s) _ (by show 4 ≤ 100000; decide) (reads_fresh zE (leInts s) W _ t rfl) hs)
 have HL : Hid (leParts s = [strOfNums (encInts (leInts s))]) := lh rfl
 generalize hT : strOfNums (encInts (leInts s)) = T at *
 clear hs hT
 go_enter Tryz.func89, Tryz.ntmps89
 go_wp2_with (go_at_call 133; refine (HI.out _ _ _ (by simp)).mono ?_; rintro e w' ⟨rfl, hxl⟩; obtain ⟨xl, rfl⟩ := hxl.asLater; clear hxl)
 go_ret
 rw [HL.out]
 exact ⟨_, _, rfl, reads_freshB sE [T] _ _ _ rfl _ (by simp [later_size]), fun h => (by cases h), (by (with_reducible repeat first|exact eR _|apply eD|apply eN|apply eA|apply eO|apply eS|apply eC);all_goals first|omega|simp <;> omega)⟩
def ringAt (l : List Ky) (i : Nat) : Bool := okKy (l.getD i noKy) && (decide (i = 0) || befK (l.getD (i - 1) noKy) (l.getD i noKy))
def ringB (l : List Ky) : Bool := (List.range l.length).all (ringAt l) && decide ((l.length : Int) ≤ 1000)
theorem ringB_is {l : List Ky} (h : ringB l = true) : RingOk l := by
 simp only [ringB, Bool.and_eq_true, List.all_eq_true, List.mem_range, decide_eq_true_eq] at h
 obtain ⟨h1, h2⟩ := h
 refine ⟨fun k hk => ?_, fun i hi => ?_, by omega⟩
 ·obtain ⟨i, hi, rfl⟩ := List.getElem_of_mem hk
  have := h1 i hi
  simp only [ringAt, Bool.and_eq_true, List.getD_eq_getElem?_getD, List.getElem?_eq_getElem hi, Option.getD_some] at this
  exact this.1
 ·have := h1 (i + 1) hi
  simp only [ringAt, Bool.and_eq_true, Bool.or_eq_true, decide_eq_true_eq, List.getD_eq_getElem?_getD, List.getElem?_eq_getElem hi, Option.getD_some, Nat.add_sub_cancel, List.getElem?_eq_getElem (show i < l.length by omega)] at this
  rcases this.2 with h | h
  ·omega
  ·exact h
theorem range_snoc (p : Nat → Bool) (k : Nat) (h : (List.range k).all p = true) (hk : p k = true) : (List.range (k + 1)).all p = true := by
 rw [List.range_succ, List.all_append, h]
 simpa using hk
theorem range_no (p : Nat → Bool) (k n : Nat) (hkn : k < n) (hk : p k = false) : (List.range n).all p = false := by
 rw [List.all_eq_false]
 exact ⟨k, by simpa using hkn, by simpa using hk⟩
theorem fnd_ty : RowTy Tryz.prog 162 6 := ⟨by kernel_rfl, by kernel_rfl⟩
theorem fnd_ld (w : World) (b o : Nat) : (rowLoad 162 6 (.pointer (some ⟨b, o, none⟩))).run Tryz.prog w = rowLoadR Tryz.prog w 162 6 b o (rowOf w b o 6) := run_rowLoad fnd_ty w b o
theorem fnd_st (w : World) (b o : Nat) (cells : Array Value) : (rowStore 162 6 (.pointer (some ⟨b, o, none⟩)) (.agg cells)).run Tryz.prog w = rowStoreR Tryz.prog w 162 6 b o cells (roomOf w b o 6 && fitsRow 6 cells) := run_rowStore fnd_ty w b o cells
theorem fnd_xl (ρ : Operand → Value) (dst : Option Tmp) (x : Operand) (t : TypeId) (pos : String) (after : Array Edge) (guard : Option (Nat × Bool)) : execOp ρ { dst, op := .load 162 x, type := t, pos, after, guard } = rowLoad 162 6 (ρ x) := rfl
theorem fnd_xs (ρ : Operand → Value) (dst : Option Tmp) (x y : Operand) (t : TypeId) (pos : String) (after : Array Edge) (guard : Option (Nat × Bool)) : execOp ρ { dst, op := .store 162 x y, type := t, pos, after, guard } = rowStore 162 6 (ρ x) (ρ y) := rfl
theorem fnd_xa (ρ : Operand → Value) (dst : Option Tmp) (t : TypeId) (pos : String) (after : Array Edge) (guard : Option (Nat × Bool)) : execOp ρ { dst, op := .alloc 162, type := t, pos, after, guard } = rowAlloc 162 := rfl
attribute [go_sem ↓] fnd_xl fnd_xs fnd_xa
attribute [go_sem] fnd_ld fnd_st
def fndB1 (x : Value) : Sem Next := do pure (.value (← Instr.build 162 #[(1, x)]))
theorem fndB1_x (ρ : Operand → Value) (dst : Option Tmp) (x : Operand) (t : TypeId) (pos : String) (after : Array Edge) (guard : Option (Nat × Bool)) : execOp ρ { dst, op := .build 162 #[(1, x)], type := t, pos, after, guard } = fndB1 (ρ x) := by kernel_rfl
def fndB0 (x : Value) : Sem Next := do pure (.value (← Instr.build 162 #[(0, x)]))
theorem fndB0_x (ρ : Operand → Value) (dst : Option Tmp) (x : Operand) (t : TypeId) (pos : String) (after : Array Edge) (guard : Option (Nat × Bool)) : execOp ρ { dst, op := .build 162 #[(0, x)], type := t, pos, after, guard } = fndB0 (ρ x) := by kernel_rfl
attribute [go_sem ↓] fndB1_x fndB0_x
noncomputable def checkR (l : List Ky) (p s tag : Int) (parts : List ByteArray) (sel : List Int) (lo hi : Int) : Int := checkOut (keyF l p s) (keyE l p s) tag parts sel lo hi
theorem keyF_secret {l : List Ky} (h : RingOk l) {p s : Int} (h0 : keyE l p s = 0) : (keyF l p s).secret.size ≤ 64 := by
 unfold keyE at h0
 unfold keyF
 cases hk : keyN l p s with
 | none => rw [hk] at h0; simp at h0
 | some k => exact (okKy_lims (h.ok k (keyN_zero hk).1)).2.2.2.2.2.1
theorem lens_key {k : Ky} {parts : List ByteArray} (hs : k.secret.size ≤ 64) (hl : lens parts ≤ 1000000000000) : lens ([k.secret] ++ parts ++ [k.secret]) < 8796093022208 := by
 rw [lens_append, lens_append, lens_one]
 omega
theorem scheck_ring (Ar : Option Addr) (cr : Nat) (l : List Ky) (p s tag : Int) (A : Option Addr) (c : Nat) (parts : List ByteArray) (sel : List Int) (lo hi : Int) (w : World) (hg : RingOk l) (hrk : ReadsKy w w.heap.size Ar l) (hp : small40 p) (hs : i64 s) (hd : DgOk sel) (hr : ReadsStr w w.heap.size A parts) (hz : A = none → c = 0) (hl : lens parts ≤ 1000000000000) (hk : Konst 1 w) :
  Calls Tryz.prog 65 #[.slice Ar l.length cr, .int .i64 p, .int .i64 s, .int .i64 tag, .slice A parts.length c, .agg (dgC sel), .agg #[.int .i64 lo, .int .i64 hi]] w fun e w' => e = .returned (.int .i64 (checkR l p s tag parts sel lo hi)) ∧ Ext w w' :=
 scheck_any Ar l.length cr p s tag A c parts sel lo hi (keyF l p s) (keyE l p s) w hd.len hd.byt hr hz (fun h0 => lens_key (keyF_secret hg h0) hl) hk (fun W hx => kfind_ring Ar cr l p s W hg (hrk.on hx) hp hs)
theorem asite_any (n : Int) (w : World) : Calls Tryz.prog 56 #[.int .i64 n] w fun e w' => e = .returned (.bool (siteB n)) ∧ Ext w w' := by
 have HF : Hid (siteB n = (decide (0 ≤ n) && decide (n < 64))) := lh rfl
 generalize siteB n = R at HF ⊢
 go_enter Tryz.func56, Tryz.ntmps56
 go_wp2
 all_goals
  go_ret
  exact ⟨ret_bool (by have h := HF.out; clear HF; subst h; first | rfl | (simp [*]; done) | (simp [*]; omega) | omega), (by (with_reducible repeat first|exact eR _|apply eD|apply eN|apply eA|apply eO|apply eS|apply eC);all_goals first|omega|simp <;> omega)⟩
theorem ssite_any (n : Int) (w : World) : Calls Tryz.prog 129 #[.int .i64 n] w fun e w' => e = .returned (.bool (siteB n)) ∧ Ext w w' := by
 have HF : Hid (siteB n = (decide (0 ≤ n) && decide (n < 64))) := lh rfl
 generalize siteB n = R at HF ⊢
 go_enter Tryz.func129, Tryz.ntmps129
 go_wp2
 all_goals
  go_ret
  exact ⟨ret_bool (by have h := HF.out; clear HF; subst h; first | rfl | (simp [*]; done) | (simp [*]; omega) | omega), (by (with_reducible repeat first|exact eR _|apply eD|apply eN|apply eA|apply eO|apply eS|apply eC);all_goals first|omega|simp <;> omega)⟩
theorem lsite_any (n : Int) (w : World) : Calls Tryz.prog 125 #[.int .i64 n] w fun e w' => e = .returned (.bool (siteB n)) ∧ Ext w w' := by
 have HF : Hid (siteB n = (decide (0 ≤ n) && decide (n < 64))) := lh rfl
 generalize siteB n = R at HF ⊢
 go_enter Tryz.func125, Tryz.ntmps125
 go_wp2
 all_goals
  go_ret
  exact ⟨ret_bool (by have h := HF.out; clear HF; subst h; first | rfl | (simp [*]; done) | (simp [*]; omega) | omega), (by (with_reducible repeat first|exact eR _|apply eD|apply eN|apply eA|apply eO|apply eS|apply eC);all_goals first|omega|simp <;> omega)⟩
theorem r30site_any (n : Int) (w : World) : Calls Tryz.prog 127 #[.int .i64 n] w fun e w' => e = .returned (.bool (siteB n)) ∧ Ext w w' := by
 have HF : Hid (siteB n = (decide (0 ≤ n) && decide (n < 64))) := lh rfl
 generalize siteB n = R at HF ⊢
 go_enter Tryz.func127, Tryz.ntmps127
 go_wp2
 all_goals
  go_ret
  exact ⟨ret_bool (by have h := HF.out; clear HF; subst h; first | rfl | (simp [*]; done) | (simp [*]; omega) | omega), (by (with_reducible repeat first|exact eR _|apply eD|apply eN|apply eA|apply eO|apply eS|apply eC);all_goals first|omega|simp <;> omega)⟩
noncomputable def checkCf (l : List Ky) (s : Cf) : Int := if siteB s.site = true then checkR l (1000 + s.site) s.serial 320 (cfParts s) s.sl s.lo s.hi else 1
abbrev KonstP (w : World) : Prop := Konst 1 w
theorem acheckCf_any (Ar : Option Addr) (cr : Nat) (l : List Ky) (s : Cf) (w : World) (hg : RingOk l) (hrk : ReadsKy w w.heap.size Ar l) (hs : CfOk s) (hk : KonstP w) :
  Calls Tryz.prog 19 #[.slice Ar l.length cr, .agg (cfC s)] w fun e w' => e = .returned (.int .i64 (checkCf l s)) ∧ Ext w w' := by
 have HP := lh (fun W => cparts_any s W hs)
 have HS := lh (fun W => asite_any s.site W)
 have hpl := cfParts_lens hs
 have hser : i64 s.serial := hs.ints _ (by simp [cfInts])
 have HC := lh (fun (hb : 0 ≤ s.site ∧ s.site < 64) (A : Option Addr) (c : Nat) (W : World) (h1 : ReadsStr W W.heap.size A (cfParts s)) (h2 : A = none → c = 0) (hx : Ext w W) => scheck_ring Ar cr l (1000 + s.site) s.serial 320 A c (cfParts s) s.sl s.lo s.hi W hg (hrk.on hx) (by unfold small40; omega) hser hs.sl h1 h2 (by omega) (RowAt.ext hk hx))
 have HO : Hid (checkCf l s = if siteB s.site = true then checkR l (1000 + s.site) s.serial 320 (cfParts s) s.sl s.lo s.hi else 1) := lh rfl
 have hft := cf_fits s
 generalize checkCf l s = O at *
 generalize checkR l (1000 + s.site) s.serial 320 (cfParts s) s.sl s.lo s.hi = R at *
 clear hg hrk hs hk hpl hser
 cases hb : siteB s.site with
 | false =>
  rw [hb] at HS HO
  have HO' : Hid (O = 1) := lh (by rw [HO.out]; simp)
  clear HO hb
  go_enter Tryz.func19, Tryz.ntmps19
  go_wp2_with (go_at_call 56; refine (HS.out _).mono ?_; rintro e w' ⟨rfl, hxl⟩; obtain ⟨xl, rfl⟩ := hxl.asLater; clear hxl)
  go_ret
  exact ⟨ret_int HO'.out.symm, (by (with_reducible repeat first|exact eR _|apply eD|apply eN|apply eA|apply eO|apply eS|apply eC);all_goals first|omega|simp <;> omega)⟩
 | true =>
  rw [hb] at HS HO
  obtain ⟨b0, b1⟩ := siteB_is.1 hb
  have HO' : Hid (O = R) := lh (by rw [HO.out]; simp)
  have HC' := lh (HC.out ⟨b0, b1⟩)
  clear HO hb HC
  go_enter Tryz.func19, Tryz.ntmps19
  go_wp2_with (go_at_call 56; refine (HS.out _).mono ?_; rintro e w' ⟨rfl, hxl⟩; obtain ⟨xl, rfl⟩ := hxl.asLater; clear hxl)
  refine wp_world (fun W => Ext w W ∧ RowAt W w.heap.size (cfC s)) ⟨(by (with_reducible repeat first|exact eR _|apply eD|apply eN|apply eA|apply eO|apply eS|apply eC);all_goals first|omega|simp <;> omega), (RowAt.new _ _ _).later _⟩ ?_
  obtain ⟨B, hB⟩ : ∃ B, w.heap.size = B := ⟨_, rfl⟩
  rw [hB]
  rintro W1 ⟨x1, uB⟩
  have HX1 := lh x1
  have hlu := uB.lt
  have qB_0 : W1.cell? ⟨B, 0, none⟩ = some (.int .i64 s.site) := (uB.cell 0).trans (cf_g0 s)
  have qB_20 : W1.cell? ⟨B, 20, none⟩ = some (.int .i64 s.serial) := (uB.cell 20).trans (cf_g20 s)
  have kB_0_37 : rowOf W1 B 0 37 = some (cfC s) := uB.all rfl (by omega)
  have kB_21_16 : rowOf W1 B 21 16 = some (dgC s.sl) := by rw [uB.row, if_neg (by omega), cf_s21_16]
  have qB_18 : W1.cell? ⟨B, 18, none⟩ = some (.int .i64 s.lo) := (uB.cell 18).trans (cf_g18 s)
  have qB_19 : W1.cell? ⟨B, 19, none⟩ = some (.int .i64 s.hi) := (uB.cell 19).trans (cf_g19 s)
  clear x1 uB
  refine wp_region_soft 13 (softsL [.eq (.slice Ar l.length cr), .eq (.pointer (some ⟨B, 0, none⟩)), .eq (.int .i64 s.site), .eq (.int .i64 (1000 + s.site)), .eq (.pointer (some ⟨B, 20, none⟩)), .eq (.int .i64 s.serial), .eq (.agg (cfC s)), readS (cfParts s), .eq (.pointer (some ⟨B, 21, none⟩)), .eq (.agg (dgC s.sl)), .eq (.pointer (some ⟨B, 18, none⟩)), .eq (.agg #[.int .i64 s.lo, .int .i64 s.hi]), .eq (.int .i64 R)]) (by kernel_rfl) (by kernel_rfl) (lt_cons ?_ (lt_cons ?_ (lt_cons ?_ (lt_cons ?_ (lt_cons ?_ (lt_cons ?_ (lt_cons ?_ (lt_cons ?_ (lt_cons ?_ (lt_cons ?_ (lt_cons ?_ (lt_cons ?_ (lt_cons ?_ (lt_none)))))))))))))) ?_
  any_goals (refine sop rfl fun xs W HW hsW HD Q' HQ => ?_; simp only [fillAt, dstOf, lc0, lcs, obs, Act.put, lsa, lsz, lss, nz, Nat.reduceAdd] at HQ ⊢)
  ·
   go_wp2
   exact HQ.out _ _ (eR _) rfl
  ·
   go_wp2
   exact HQ.out _ _ (eR _) rfl
  ·
   have hd1 : xs 1 = .pointer (some ⟨B, 0, none⟩) := (HD.out 1 (dk (by kernel_rfl)))
   generalize xs 1 = x1 at hd1 HQ ⊢; subst hd1
   have hc : W.cell? ⟨B, 0, none⟩ = some (.int .i64 s.site) := (HW.out.cell (p := ⟨B, 0, none⟩) (by show B < _; omega)).trans qB_0
   go_wp2
   exact HQ.out _ _ (eR _) rfl
  ·
   have hd2 : xs 2 = .int .i64 s.site := (HD.out 2 (dk (by kernel_rfl)))
   generalize xs 2 = x2 at hd2 HQ ⊢; subst hd2
   go_wp2
   exact HQ.out _ _ (eR _) rfl
  ·
   go_wp2
   exact HQ.out _ _ (eR _) rfl
  ·
   have hd4 : xs 4 = .pointer (some ⟨B, 20, none⟩) := (HD.out 4 (dk (by kernel_rfl)))
   generalize xs 4 = x4 at hd4 HQ ⊢; subst hd4
   have hc : W.cell? ⟨B, 20, none⟩ = some (.int .i64 s.serial) := (HW.out.cell (p := ⟨B, 20, none⟩) (by show B < _; omega)).trans qB_20
   go_wp2
   exact HQ.out _ _ (eR _) rfl
  ·
   have hc := (row_extW HW.out (b := B) (by omega) 0 37).trans kB_0_37
   go_wp2
   exact HQ.out _ _ (eR _) rfl
  ·
   have hd6 : xs 6 = .agg (cfC s) := (HD.out 6 (dk (by kernel_rfl)))
   generalize xs 6 = x6 at hd6 HQ ⊢; subst hd6
   go_wp2_with (go_at_call 60; refine (HP.out _).mono ?_; rintro e w1 ⟨A, c, rfl, h1, h2, hx⟩)
   exact HQ.out _ _ hx ⟨A, c, rfl, h1, h2⟩
  ·
   go_wp2
   exact HQ.out _ _ (eR _) rfl
  ·
   have hd8 : xs 8 = .pointer (some ⟨B, 21, none⟩) := (HD.out 8 (dk (by kernel_rfl)))
   generalize xs 8 = x8 at hd8 HQ ⊢; subst hd8
   have hc := (row_extW HW.out (b := B) (by omega) 21 16).trans kB_21_16
   go_wp2
   exact HQ.out _ _ (eR _) rfl
  ·
   go_wp2
   exact HQ.out _ _ (eR _) rfl
  ·
   have hd10 : xs 10 = .pointer (some ⟨B, 18, none⟩) := (HD.out 10 (dk (by kernel_rfl)))
   generalize xs 10 = x10 at hd10 HQ ⊢; subst hd10
   have hc := (HW.out.cell (p := ⟨B, 18, none⟩) (by show B < _; omega)).trans qB_18
   have hc2 := (HW.out.cell (p := ⟨B, 19, none⟩) (by show B < _; omega)).trans qB_19
   go_wp2
   exact HQ.out _ _ (eR _) rfl
  ·
   have hd0 : xs 0 = .slice Ar l.length cr := (HD.out 0 (dk (by kernel_rfl)))
   generalize xs 0 = x0 at hd0 HQ ⊢; subst hd0
   have hd3 : xs 3 = .int .i64 (1000 + s.site) := (HD.out 3 (dk (by kernel_rfl)))
   generalize xs 3 = x3 at hd3 HQ ⊢; subst hd3
   have hd5 : xs 5 = .int .i64 s.serial := (HD.out 5 (dk (by kernel_rfl)))
   generalize xs 5 = x5 at hd5 HQ ⊢; subst hd5
   obtain ⟨A7, c7, h7, hr7, hz7⟩ : (readS (cfParts s)).S (xs 7) W := (HD.out 7 (dk (by kernel_rfl)))
   generalize xs 7 = x7 at h7 HQ ⊢; subst h7
   have hd9 : xs 9 = .agg (dgC s.sl) := (HD.out 9 (dk (by kernel_rfl)))
   generalize xs 9 = x9 at hd9 HQ ⊢; subst hd9
   have hd11 : xs 11 = .agg #[.int .i64 s.lo, .int .i64 s.hi] := (HD.out 11 (dk (by kernel_rfl)))
   generalize xs 11 = x11 at hd11 HQ ⊢; subst hd11
   go_wp2_with (go_at_call 65; refine (HC'.out A7 c7 _ hr7 hz7 (HX1.out.trans HW.out)).mono ?_; rintro e w1 ⟨rfl, hx⟩)
   exact HQ.out _ _ hx rfl
  intro xs W3 hW hS
  have h12 : xs 12 = .int .i64 R := hS 12 (by omega)
  simp only [fillAt, dstOf, lc0, lcs, obs, Act.put, lsa, lsz, lss, nz, Nat.reduceAdd, List.drop_succ_cons, List.drop_zero, List.drop_nil]
  generalize xs 12 = x12 at *; subst h12
  have HW3 := lh (HX1.out.trans hW)
  have HWW3 := lh hW
  clear hS hW qB_0 qB_20 kB_0_37 kB_21_16 qB_18 qB_19
  go_wp2
  go_ret
  exact ⟨ret_int HO'.out.symm, (by (with_reducible repeat first|exact HW3.out|exact eR _|apply eD|apply eN|apply eA|apply eO|apply eS|apply eC);all_goals first|omega|simp <;> omega)⟩
def leLo (s : Le) : Int := if 1 ≤ s.until_ then s.until_ - 1 else -1
def leHi (s : Le) : Int := if 1 ≤ s.until_ then s.until_ - 1 else 0
noncomputable def checkLe (l : List Ky) (s : Le) : Int := if siteB s.site = true then checkR l 1 s.serial 43 (leParts s) s.sl (leLo s) (leHi s) else 1
theorem scheckLe_any (Ar : Option Addr) (cr : Nat) (l : List Ky) (s : Le) (w : World) (hg : RingOk l) (hrk : ReadsKy w w.heap.size Ar l) (hs : LeOk s) (hk : KonstP w) :
  Calls Tryz.prog 83 #[.slice Ar l.length cr, .agg (leC s)] w fun e w' => e = .returned (.int .i64 (checkLe l s)) ∧ Ext w w' := by
 have HP := lh (fun W => lparts_any s W hs.ints)
 have HS := lh (fun W => ssite_any s.site W)
 have hpl := leParts_lens s
 have hser : i64 s.serial := hs.ints _ (by simp [leInts])
 obtain ⟨hu0, hu1⟩ : i64 s.until_ := hs.ints _ (by simp [leInts])
 have HC := lh (fun (lo hi : Int) (A : Option Addr) (c : Nat) (W : World) (h1 : ReadsStr W W.heap.size A (leParts s)) (h2 : A = none → c = 0) (hx : Ext w W) => scheck_ring Ar cr l 1 s.serial 43 A c (leParts s) s.sl lo hi W hg (hrk.on hx) (by unfold small40; omega) hser hs.sl h1 h2 (by omega) (RowAt.ext hk hx))
 have HO : Hid (checkLe l s = if siteB s.site = true then checkR l 1 s.serial 43 (leParts s) s.sl (leLo s) (leHi s) else 1) := lh rfl
 have HLo : Hid (leLo s = if 1 ≤ s.until_ then s.until_ - 1 else -1) := lh rfl
 have HHi : Hid (leHi s = if 1 ≤ s.until_ then s.until_ - 1 else 0) := lh rfl
 have hft := le_fits s
 generalize checkLe l s = O at *
 clear hg hrk hs hk hpl hser
 cases hb : siteB s.site with
 | false =>
  rw [hb] at HS HO
  have HO' : Hid (O = 1) := lh (by rw [HO.out]; simp)
  clear HO hb
  go_enter Tryz.func83, Tryz.ntmps83
  go_wp2_with (go_at_call 129; refine (HS.out _).mono ?_; rintro e w' ⟨rfl, hxl⟩; obtain ⟨xl, rfl⟩ := hxl.asLater; clear hxl)
  go_ret
  exact ⟨ret_int HO'.out.symm, (by (with_reducible repeat first|exact eR _|apply eD|apply eN|apply eA|apply eO|apply eS|apply eC);all_goals first|omega|simp <;> omega)⟩
 | true =>
  rw [hb] at HS HO
  have HO' : Hid (O = checkR l 1 s.serial 43 (leParts s) s.sl (leLo s) (leHi s)) := lh (by rw [HO.out]; simp)
  clear HO hb
  by_cases h1 : 1 ≤ s.until_
  ·have HLo' : Hid (leLo s = s.until_ - 1) := lh (by rw [HLo.out, if_pos h1])
   have HHi' : Hid (leHi s = s.until_ - 1) := lh (by rw [HHi.out, if_pos h1])
   rw [HLo'.out, HHi'.out] at HO'
   have HC' := lh (HC.out (s.until_ - 1) (s.until_ - 1))
   generalize checkR l 1 s.serial 43 (leParts s) s.sl (s.until_ - 1) (s.until_ - 1) = R at *
   clear HLo HHi HLo' HHi' HC
   go_enter Tryz.func83, Tryz.ntmps83
   go_upto_region 6 with (go_at_call 129; refine (HS.out _).mono ?_; rintro e w' ⟨rfl, hxl⟩; obtain ⟨xl, rfl⟩ := hxl.asLater; clear hxl)
   refine wp_world (fun W => Ext w W ∧ RowAt W w.heap.size (leC s) ∧ RowAt W (w.heap.size + 1 + xl.n) #[(.int .i64 (s.until_ - 1)), (.int .i64 (s.until_ - 1))]) ⟨(by (with_reducible repeat first|exact eR _|apply eD|apply eN|apply eA|apply eO|apply eS|apply eC);all_goals first|omega|simp <;> omega), ((RowAt.new _ _ _).later _).alloc _, RowAt.newAt (by simp [later_size])⟩ ?_
   obtain ⟨B, hB⟩ : ∃ B, w.heap.size = B := ⟨_, rfl⟩
   obtain ⟨g, hg⟩ : ∃ g, w.heap.size + 1 + xl.n = g := ⟨_, rfl⟩
   rw [hg, hB]
   clear hg
   rintro W1 ⟨x1, uB, ug⟩
   have HX1 := lh x1
   have hlu := uB.lt
   have hlg := ug.lt
   have qB_3 : W1.cell? ⟨B, 3, none⟩ = some (.int .i64 s.serial) := (uB.cell 3).trans (le_g3 s)
   have kB_0_20 : rowOf W1 B 0 20 = some (leC s) := uB.all rfl (by omega)
   have kB_4_16 : rowOf W1 B 4 16 = some (dgC s.sl) := by rw [uB.row, if_neg (by omega), le_s4_16]
   have g0 : W1.cell? ⟨g, 0, none⟩ = some (.int .i64 (s.until_ - 1)) := ug.cell 0
   have g1 : W1.cell? ⟨g, 1, none⟩ = some (.int .i64 (s.until_ - 1)) := ug.cell 1
   clear x1 uB ug
   refine wp_region_soft 9 (softsL [.eq (.slice Ar l.length cr), .eq (.pointer (some ⟨B, 3, none⟩)), .eq (.int .i64 s.serial), .eq (.agg (leC s)), readS (leParts s), .eq (.pointer (some ⟨B, 4, none⟩)), .eq (.agg (dgC s.sl)), .eq (.agg #[(.int .i64 (s.until_ - 1)), (.int .i64 (s.until_ - 1))]), .eq (.int .i64 R)]) (by kernel_rfl) (by kernel_rfl) (lt_cons ?_ (lt_cons ?_ (lt_cons ?_ (lt_cons ?_ (lt_cons ?_ (lt_cons ?_ (lt_cons ?_ (lt_cons ?_ (lt_cons ?_ (lt_none)))))))))) ?_
   any_goals (refine sop rfl fun xs W HW hsW HD Q' HQ => ?_; simp only [fillAt, dstOf, lc0, lcs, obs, Act.put, lsa, lsz, lss, nz, Nat.reduceAdd] at HQ ⊢)
   ·
    go_wp2
    exact HQ.out _ _ (eR _) rfl
   ·
    go_wp2
    exact HQ.out _ _ (eR _) rfl
   ·
    have hd1 : xs 1 = .pointer (some ⟨B, 3, none⟩) := (HD.out 1 (dk (by kernel_rfl)))
    generalize xs 1 = x1 at hd1 HQ ⊢; subst hd1
    have hc : W.cell? ⟨B, 3, none⟩ = some (.int .i64 s.serial) := (HW.out.cell (p := ⟨B, 3, none⟩) (by show B < _; omega)).trans qB_3
    go_wp2
    exact HQ.out _ _ (eR _) rfl
   ·
    have hc := (row_extW HW.out (b := B) (by omega) 0 20).trans kB_0_20
    go_wp2
    exact HQ.out _ _ (eR _) rfl
   ·
    have hd3 : xs 3 = .agg (leC s) := (HD.out 3 (dk (by kernel_rfl)))
    generalize xs 3 = x3 at hd3 HQ ⊢; subst hd3
    go_wp2_with (go_at_call 126; refine (HP.out _).mono ?_; rintro e w1 ⟨A, c, rfl, h1, h2, hx⟩)
    exact HQ.out _ _ hx ⟨A, c, rfl, h1, h2⟩
   ·
    go_wp2
    exact HQ.out _ _ (eR _) rfl
   ·
    have hd5 : xs 5 = .pointer (some ⟨B, 4, none⟩) := (HD.out 5 (dk (by kernel_rfl)))
    generalize xs 5 = x5 at hd5 HQ ⊢; subst hd5
    have hc := (row_extW HW.out (b := B) (by omega) 4 16).trans kB_4_16
    go_wp2
    exact HQ.out _ _ (eR _) rfl
   ·
    have hc := (HW.out.cell (p := ⟨g, 0, none⟩) (by show g < _; omega)).trans g0
    have hc2 := (HW.out.cell (p := ⟨g, 1, none⟩) (by show g < _; omega)).trans g1
    go_wp2
    exact HQ.out _ _ (eR _) rfl
   ·
    have hd0 : xs 0 = .slice Ar l.length cr := (HD.out 0 (dk (by kernel_rfl)))
    generalize xs 0 = x0 at hd0 HQ ⊢; subst hd0
    have hd2 : xs 2 = .int .i64 s.serial := (HD.out 2 (dk (by kernel_rfl)))
    generalize xs 2 = x2 at hd2 HQ ⊢; subst hd2
    obtain ⟨A4, c4, h4, hr4, hz4⟩ : (readS (leParts s)).S (xs 4) W := (HD.out 4 (dk (by kernel_rfl)))
    generalize xs 4 = x4 at h4 HQ ⊢; subst h4
    have hd6 : xs 6 = .agg (dgC s.sl) := (HD.out 6 (dk (by kernel_rfl)))
    generalize xs 6 = x6 at hd6 HQ ⊢; subst hd6
    have hd7 : xs 7 = .agg #[(.int .i64 (s.until_ - 1)), (.int .i64 (s.until_ - 1))] := (HD.out 7 (dk (by kernel_rfl)))
    generalize xs 7 = x7 at hd7 HQ ⊢; subst hd7
    go_wp2_with (go_at_call 65; refine (HC'.out A4 c4 _ hr4 hz4 (HX1.out.trans HW.out)).mono ?_; rintro e w1 ⟨rfl, hx⟩)
    exact HQ.out _ _ hx rfl
   intro xs W3 hW hS
   have h8 : xs 8 = .int .i64 R := hS 8 (by omega)
   simp only [fillAt, dstOf, lc0, lcs, obs, Act.put, lsa, lsz, lss, nz, Nat.reduceAdd, List.drop_succ_cons, List.drop_zero, List.drop_nil]
   generalize xs 8 = x8 at *; subst h8
   have HW3 := lh (HX1.out.trans hW)
   have HWW3 := lh hW
   clear hS hW qB_3 kB_0_20 kB_4_16 g0 g1
   go_wp2
   go_ret
   exact ⟨ret_int HO'.out.symm, (by (with_reducible repeat first|exact HW3.out|exact eR _|apply eD|apply eN|apply eA|apply eO|apply eS|apply eC);all_goals first|omega|simp <;> omega)⟩
  ·have HLo' : Hid (leLo s = -1) := lh (by rw [HLo.out, if_neg h1])
   have HHi' : Hid (leHi s = 0) := lh (by rw [HHi.out, if_neg h1])
   rw [HLo'.out, HHi'.out] at HO'
   have HC' := lh (HC.out (-1) 0)
   generalize checkR l 1 s.serial 43 (leParts s) s.sl (-1) 0 = R at *
   clear HLo HHi HLo' HHi' HC
   go_enter Tryz.func83, Tryz.ntmps83
   go_upto_region 6 with (go_at_call 129; refine (HS.out _).mono ?_; rintro e w' ⟨rfl, hxl⟩; obtain ⟨xl, rfl⟩ := hxl.asLater; clear hxl)
   refine wp_world (fun W => Ext w W ∧ RowAt W w.heap.size (leC s) ∧ RowAt W (w.heap.size + 1 + xl.n) #[(.int .i64 (-1)), (.int .i64 0)]) ⟨(by (with_reducible repeat first|exact eR _|apply eD|apply eN|apply eA|apply eO|apply eS|apply eC);all_goals first|omega|simp <;> omega), ((RowAt.new _ _ _).later _).alloc _, RowAt.newAt (by simp [later_size])⟩ ?_
   obtain ⟨B, hB⟩ : ∃ B, w.heap.size = B := ⟨_, rfl⟩
   obtain ⟨g, hg⟩ : ∃ g, w.heap.size + 1 + xl.n = g := ⟨_, rfl⟩
   rw [hg, hB]
   clear hg
   rintro W1 ⟨x1, uB, ug⟩
   have HX1 := lh x1
   have hlu := uB.lt
   have hlg := ug.lt
   have qB_3 : W1.cell? ⟨B, 3, none⟩ = some (.int .i64 s.serial) := (uB.cell 3).trans (le_g3 s)
   have kB_0_20 : rowOf W1 B 0 20 = some (leC s) := uB.all rfl (by omega)
   have kB_4_16 : rowOf W1 B 4 16 = some (dgC s.sl) := by rw [uB.row, if_neg (by omega), le_s4_16]
   have g0 : W1.cell? ⟨g, 0, none⟩ = some (.int .i64 (-1)) := ug.cell 0
   have g1 : W1.cell? ⟨g, 1, none⟩ = some (.int .i64 0) := ug.cell 1
   clear x1 uB ug
   refine wp_region_soft 9 (softsL [.eq (.slice Ar l.length cr), .eq (.pointer (some ⟨B, 3, none⟩)), .eq (.int .i64 s.serial), .eq (.agg (leC s)), readS (leParts s), .eq (.pointer (some ⟨B, 4, none⟩)), .eq (.agg (dgC s.sl)), .eq (.agg #[(.int .i64 (-1)), (.int .i64 0)]), .eq (.int .i64 R)]) (by kernel_rfl) (by kernel_rfl) (lt_cons ?_ (lt_cons ?_ (lt_cons ?_ (lt_cons ?_ (lt_cons ?_ (lt_cons ?_ (lt_cons ?_ (lt_cons ?_ (lt_cons ?_ (lt_none)))))))))) ?_
   any_goals (refine sop rfl fun xs W HW hsW HD Q' HQ => ?_; simp only [fillAt, dstOf, lc0, lcs, obs, Act.put, lsa, lsz, lss, nz, Nat.reduceAdd] at HQ ⊢)
   ·
    go_wp2
    exact HQ.out _ _ (eR _) rfl
   ·
    go_wp2
    exact HQ.out _ _ (eR _) rfl
   ·
    have hd1 : xs 1 = .pointer (some ⟨B, 3, none⟩) := (HD.out 1 (dk (by kernel_rfl)))
    generalize xs 1 = x1 at hd1 HQ ⊢; subst hd1
    have hc : W.cell? ⟨B, 3, none⟩ = some (.int .i64 s.serial) := (HW.out.cell (p := ⟨B, 3, none⟩) (by show B < _; omega)).trans qB_3
    go_wp2
    exact HQ.out _ _ (eR _) rfl
   ·
    have hc := (row_extW HW.out (b := B) (by omega) 0 20).trans kB_0_20
    go_wp2
    exact HQ.out _ _ (eR _) rfl
   ·
    have hd3 : xs 3 = .agg (leC s) := (HD.out 3 (dk (by kernel_rfl)))
    generalize xs 3 = x3 at hd3 HQ ⊢; subst hd3
    go_wp2_with (go_at_call 126; refine (HP.out _).mono ?_; rintro e w1 ⟨A, c, rfl, h1, h2, hx⟩)
    exact HQ.out _ _ hx ⟨A, c, rfl, h1, h2⟩
   ·
    go_wp2
    exact HQ.out _ _ (eR _) rfl
   ·
    have hd5 : xs 5 = .pointer (some ⟨B, 4, none⟩) := (HD.out 5 (dk (by kernel_rfl)))
    generalize xs 5 = x5 at hd5 HQ ⊢; subst hd5
    have hc := (row_extW HW.out (b := B) (by omega) 4 16).trans kB_4_16
    go_wp2
    exact HQ.out _ _ (eR _) rfl
   ·
    have hc := (HW.out.cell (p := ⟨g, 0, none⟩) (by show g < _; omega)).trans g0
    have hc2 := (HW.out.cell (p := ⟨g, 1, none⟩) (by show g < _; omega)).trans g1
    go_wp2
    exact HQ.out _ _ (eR _) rfl
   ·
    have hd0 : xs 0 = .slice Ar l.length cr := (HD.out 0 (dk (by kernel_rfl)))
    generalize xs 0 = x0 at hd0 HQ ⊢; subst hd0
    have hd2 : xs 2 = .int .i64 s.serial := (HD.out 2 (dk (by kernel_rfl)))
    generalize xs 2 = x2 at hd2 HQ ⊢; subst hd2
    obtain ⟨A4, c4, h4, hr4, hz4⟩ : (readS (leParts s)).S (xs 4) W := (HD.out 4 (dk (by kernel_rfl)))
    generalize xs 4 = x4 at h4 HQ ⊢; subst h4
    have hd6 : xs 6 = .agg (dgC s.sl) := (HD.out 6 (dk (by kernel_rfl)))
    generalize xs 6 = x6 at hd6 HQ ⊢; subst hd6
    have hd7 : xs 7 = .agg #[(.int .i64 (-1)), (.int .i64 0)] := (HD.out 7 (dk (by kernel_rfl)))
    generalize xs 7 = x7 at hd7 HQ ⊢; subst hd7
    go_wp2_with (go_at_call 65; refine (HC'.out A4 c4 _ hr4 hz4 (HX1.out.trans HW.out)).mono ?_; rintro e w1 ⟨rfl, hx⟩)
    exact HQ.out _ _ hx rfl
   intro xs W3 hW hS
   have h8 : xs 8 = .int .i64 R := hS 8 (by omega)
   simp only [fillAt, dstOf, lc0, lcs, obs, Act.put, lsa, lsz, lss, nz, Nat.reduceAdd, List.drop_succ_cons, List.drop_zero, List.drop_nil]
   generalize xs 8 = x8 at *; subst h8
   have HW3 := lh (HX1.out.trans hW)
   have HWW3 := lh hW
   clear hS hW qB_3 kB_0_20 kB_4_16 g0 g1
   go_wp2
   go_ret
   exact ⟨ret_int HO'.out.symm, (by (with_reducible repeat first|exact HW3.out|exact eR _|apply eD|apply eN|apply eA|apply eO|apply eS|apply eC);all_goals first|omega|simp <;> omega)⟩
end Go.Proofs.YtpfhmcdcmepfdaaGreatDoor