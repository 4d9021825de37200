
import Derived.WalkKit
import Derived.WalkSpells
import Derived.WalkLawsBesides
import Derived.Deep.QuietTactic
import Derived.BigQuiet
import Derived.Test.YtpfhmcdcmepfdaaGreatDoorQOz
set_option maxRecDepth 100000
set_option maxHeartbeats 64000000
set_option linter.unusedVariables false
set_option linter.unusedSimpArgs false
namespace Go.Proofs.YtpfhmcdcmepfdaaGreatDoor
open Go.RowKit Go.Shelf
open Go.Proofs
def readBy (ls : List Int) : Soft := ⟨fun v w => ∃ A c, v = .slice A ls.length c ∧ ReadsB w w.heap.size A ls, fun v w w' ⟨A, c, h1, h2⟩ hx => ⟨A, c, h1, h2.on hx⟩⟩
theorem arr_reads {w : World} {b o : Nat} {l : List Int} (h : rowOf w b o 16 = some (dgC l)) (h16 : l.length = 16) (hb : b < w.heap.size) : ReadsB w w.heap.size (some ⟨b, o, none⟩) l := by
 intro _
 refine ⟨b, o, rfl, hb, fun i hi j v hv => ?_⟩
 have hj : j = 0 := by
  have := (List.getElem?_eq_some_iff.1 hv).1
  simp [encB] at this
  omega
 subst hj
 simp only [encB, List.getElem?_cons_zero, Option.some.injEq] at hv
 subst hv
 rw [dgC_cells h16] at h
 have hc := rowOf_cell h (i := i) (by omega)
 rw [cells8_get, h16, if_pos (by omega)] at hc
 rw [Nat.mul_one, Nat.add_zero, hc]
 simp [hi]
theorem reads_freshB {α : Type} {size : Nat} {enc : α → List Value} (E : EncTy enc size) (l : List α) (W : World) (cs : Array Value) (t : TypeId) (h : cs.toList = l.flatMap enc) (b : Nat) (hb : b = W.heap.size) : Reads size enc (W.alloc (.cells cs t)) (W.alloc (.cells cs t)).heap.size (some ⟨b, 0, none⟩) l := by
 subst hb
 exact reads_fresh E l W cs t h
theorem cparts_any (s : Cf) (w : World) (hs : CfOk s) :
  Calls Tryz.prog 60 #[.agg (cfC s)] w fun e w' => ∃ A c, e = .returned (.slice A (cfParts s).length c) ∧ ReadsStr w' w'.heap.size A (cfParts s) ∧ (A = none → c = 0) ∧ Ext w w' := by
 have HI := lh (fun (A : Option Addr) (c : Nat) (W : World) (hr : ReadsInt W W.heap.size A [s.site, s.epoch, s.lo, s.hi, s.serial]) => wints_ok A c [s.site, s.epoch, s.lo, s.hi, s.serial] W (by show 5 ≤ 100000; decide) hr hs.ints)
 have H16 := lh hs.name.len
 clear hs
 go_enter Tryz.func60, Tryz.ntmps60
 go_wp2
 refine wp_world (fun W => Ext w W ∧ RowAt W w.heap.size (cfC s)) ⟨(by (with_reducible repeat first|exact eR _|apply eD|apply eN|apply eA|apply eO|apply eS|apply eC);all_goals first|omega|simp <;> omega), RowAt.new _ _ _⟩ ?_
 obtain ⟨B, hB⟩ : ∃ B, w.heap.size = B := ⟨_, rfl⟩
 rw [hB]
 rintro W1 ⟨x1, uB⟩
 have HX1 := lh x1
 have hlu := uB.lt
 have qB_0 : W1.cell? ⟨B, 0, none⟩ = some (.int .i64 s.site) := (uB.cell 0).trans (cf_g0 s)
 have qB_1 : W1.cell? ⟨B, 1, none⟩ = some (.int .i64 s.epoch) := (uB.cell 1).trans (cf_g1 s)
 have qB_18 : W1.cell? ⟨B, 18, none⟩ = some (.int .i64 s.lo) := (uB.cell 18).trans (cf_g18 s)
 have qB_19 : W1.cell? ⟨B, 19, none⟩ = some (.int .i64 s.hi) := (uB.cell 19).trans (cf_g19 s)
 have qB_20 : W1.cell? ⟨B, 20, none⟩ = some (.int .i64 s.serial) := (uB.cell 20).trans (cf_g20 s)
 have rdB_2 := lh (arr_reads ((uB.row 2 16).trans (by rw [if_neg (by omega), cf_s2_16])) H16.out hlu)
 clear x1 uB
 refine wp_region_soft 18 (softsL [.eq (.pointer (some ⟨B, 0, none⟩)), .eq (.int .i64 s.site), .eq (.pointer (some ⟨B, 1, none⟩)), .eq (.int .i64 s.epoch), .eq (.pointer (some ⟨B, 18, none⟩)), .eq (.pointer (some ⟨B, 18, none⟩)), .eq (.int .i64 s.lo), .eq (.pointer (some ⟨B, 18, none⟩)), .eq (.pointer (some ⟨B, 19, none⟩)), .eq (.int .i64 s.hi), .eq (.pointer (some ⟨B, 20, none⟩)), .eq (.int .i64 s.serial), readI ([s.site, s.epoch, s.lo, s.hi, s.serial]), readBy (encInts [s.site, s.epoch, s.lo, s.hi, s.serial]), .eq (.string (strOfNums (encInts [s.site, s.epoch, s.lo, s.hi, s.serial]))), .eq (.pointer (some ⟨B, 2, none⟩)), .eq (.slice (some ⟨B, 2, none⟩) 16 16), .eq (.string (strOfNums s.name))]) (by kernel_rfl) (by kernel_rfl) (lt_cons ?_ (lt_cons ?_ (lt_cons ?_ (lt_cons ?_ (lt_cons ?_ (lt_cons ?_ (lt_cons ?_ (lt_cons ?_ (lt_cons ?_ (lt_cons ?_ (lt_cons ?_ (lt_cons ?_ (lt_cons ?_ (lt_cons ?_ (lt_cons ?_ (lt_cons ?_ (lt_cons ?_ (lt_cons ?_ (lt_none))))))))))))))))))) ?_
 any_goals (refine sop rfl fun xs W HW hsW HD Q' HQ => ?_; simp only [fillAt, dstOf, lc0, lcs, obs, Act.put, lsa, lsz, lss, nz, Nat.reduceAdd] at HQ ⊢)
 ·
  go_wp2
  exact HQ.out _ _ (eR _) rfl
 ·
  have hd0 : xs 0 = .pointer (some ⟨B, 0, none⟩) := (HD.out 0 (dk (by kernel_rfl)))
  generalize xs 0 = x0 at hd0 HQ ⊢; subst hd0
  have hc : W.cell? ⟨B, 0, none⟩ = some (.int .i64 s.site) := (HW.out.cell (p := ⟨B, 0, none⟩) (by show B < _; omega)).trans qB_0
  go_wp2
  exact HQ.out _ _ (eR _) rfl
 ·
  go_wp2
  exact HQ.out _ _ (eR _) rfl
 ·
  have hd2 : xs 2 = .pointer (some ⟨B, 1, none⟩) := (HD.out 2 (dk (by kernel_rfl)))
  generalize xs 2 = x2 at hd2 HQ ⊢; subst hd2
  have hc : W.cell? ⟨B, 1, none⟩ = some (.int .i64 s.epoch) := (HW.out.cell (p := ⟨B, 1, none⟩) (by show B < _; omega)).trans qB_1
  go_wp2
  exact HQ.out _ _ (eR _) rfl
 ·
  go_wp2
  exact HQ.out _ _ (eR _) rfl
 ·
  have hd4 : xs 4 = .pointer (some ⟨B, 18, none⟩) := (HD.out 4 (dk (by kernel_rfl)))
  generalize xs 4 = x4 at hd4 HQ ⊢; subst hd4
  go_wp2
  exact HQ.out _ _ (eR _) rfl
 ·
  have hd5 : xs 5 = .pointer (some ⟨B, 18, none⟩) := (HD.out 5 (dk (by kernel_rfl)))
  generalize xs 5 = x5 at hd5 HQ ⊢; subst hd5
  have hc : W.cell? ⟨B, 18, none⟩ = some (.int .i64 s.lo) := (HW.out.cell (p := ⟨B, 18, none⟩) (by show B < _; omega)).trans qB_18
  go_wp2
  exact HQ.out _ _ (eR _) rfl
 ·
  go_wp2
  exact HQ.out _ _ (eR _) rfl
 ·
  have hd7 : xs 7 = .pointer (some ⟨B, 18, none⟩) := (HD.out 7 (dk (by kernel_rfl)))
  generalize xs 7 = x7 at hd7 HQ ⊢; subst hd7
  go_wp2
  exact HQ.out _ _ (eR _) rfl
 ·
  have hd8 : xs 8 = .pointer (some ⟨B, 19, none⟩) := (HD.out 8 (dk (by kernel_rfl)))
  generalize xs 8 = x8 at hd8 HQ ⊢; subst hd8
  have hc : W.cell? ⟨B, 19, none⟩ = some (.int .i64 s.hi) := (HW.out.cell (p := ⟨B, 19, none⟩) (by show B < _; omega)).trans qB_19
  go_wp2
  exact HQ.out _ _ (eR _) rfl
 ·
  go_wp2
  exact HQ.out _ _ (eR _) rfl
 ·
  have hd10 : xs 10 = .pointer (some ⟨B, 20, none⟩) := (HD.out 10 (dk (by kernel_rfl)))
  generalize xs 10 = x10 at hd10 HQ ⊢; subst hd10
  have hc : W.cell? ⟨B, 20, none⟩ = some (.int .i64 s.serial) := (HW.out.cell (p := ⟨B, 20, none⟩) (by show B < _; omega)).trans qB_20
  go_wp2
  exact HQ.out _ _ (eR _) rfl
 ·
  have hd1 : xs 1 = .int .i64 s.site := (HD.out 1 (dk (by kernel_rfl)))
  generalize xs 1 = x1 at hd1 HQ ⊢; subst hd1
  have hd3 : xs 3 = .int .i64 s.epoch := (HD.out 3 (dk (by kernel_rfl)))
  generalize xs 3 = x3 at hd3 HQ ⊢; subst hd3
  have hd6 : xs 6 = .int .i64 s.lo := (HD.out 6 (dk (by kernel_rfl)))
  generalize xs 6 = x6 at hd6 HQ ⊢; subst hd6
  have hd9 : xs 9 = .int .i64 s.hi := (HD.out 9 (dk (by kernel_rfl)))
  generalize xs 9 = x9 at hd9 HQ ⊢; subst hd9
  have hd11 : xs 11 = .int .i64 s.serial := (HD.out 11 (dk (by kernel_rfl)))
  generalize xs 11 = x11 at hd11 HQ ⊢; subst hd11
  go_wp2
  exact HQ.out _ _ ((eR _).alloc _) ⟨_, _, rfl, reads_fresh zE ([s.site, s.epoch, s.lo, s.hi, s.serial]) W _ _ rfl⟩
 ·
  obtain ⟨A12, c12, h12, hr12⟩ : (readI ([s.site, s.epoch, s.lo, s.hi, s.serial])).S (xs 12) W := (HD.out 12 (dk (by kernel_rfl)))
  generalize xs 12 = x12 at h12 HQ ⊢; subst h12
  go_wp2_with (go_at_call 119; refine (HI.out A12 c12 _ hr12).mono ?_; rintro e w1 ⟨A, c, rfl, ho, hx⟩)
  exact HQ.out _ _ hx ⟨A, c, rfl, ho.reads bE⟩
 ·
  obtain ⟨A13, c13, h13, hr13⟩ : (readBy (encInts [s.site, s.epoch, s.lo, s.hi, s.serial])).S (xs 13) W := (HD.out 13 (dk (by kernel_rfl)))
  generalize xs 13 = x13 at h13 HQ ⊢; subst h13
  have hcv := conv_bytes c13 hr13 (encInts_pos _)
  go_wp2
  exact HQ.out _ _ (eR _) rfl
 ·
  go_wp2
  exact HQ.out _ _ (eR _) rfl
 ·
  have hd15 : xs 15 = .pointer (some ⟨B, 2, none⟩) := (HD.out 15 (dk (by kernel_rfl)))
  generalize xs 15 = x15 at hd15 HQ ⊢; subst hd15
  go_wp2
  exact HQ.out _ _ (eR _) rfl
 ·
  have hd16 : xs 16 = .slice (some ⟨B, 2, none⟩) 16 16 := (HD.out 16 (dk (by kernel_rfl)))
  generalize xs 16 = x16 at hd16 HQ ⊢; subst hd16
  have hcv := conv_bytes 16 (rdB_2.out.on HW.out) (by rw [H16.out]; omega)
  rw [H16.out] at hcv
  go_wp2
  exact HQ.out _ _ (eR _) rfl
 intro xs W3 hW hS
 have h14 : xs 14 = .string (strOfNums (encInts [s.site, s.epoch, s.lo, s.hi, s.serial])) := hS 14 (by omega)
 have h17 : xs 17 = .string (strOfNums s.name) := hS 17 (by omega)
 simp only [fillAt, dstOf, lc0, lcs, obs, Act.put, lsa, lsz, lss, nz, Nat.reduceAdd, List.drop_succ_cons, List.drop_zero, List.drop_nil]
 generalize xs 14 = x14 at *; subst h14
 generalize xs 17 = x17 at *; subst h17
 have HW3 := lh (HX1.out.trans hW)
 have HWW3 := lh hW
 clear hS hW qB_0 qB_1 qB_18 qB_19 qB_20
 go_wp2
 go_ret
 exact ⟨_, _, rfl, reads_fresh sE (cfParts s) W3 _ _ rfl, fun h => (by cases h), (by (with_reducible repeat first|exact HW3.out|exact eR _|apply eD|apply eN|apply eA|apply eO|apply eS|apply eC);all_goals first|omega|simp <;> omega)⟩
theorem lparts_any (s : Le) (w : World) (hs : ∀ x ∈ leInts s, i64 x) :
  Calls Tryz.prog 126 #[.agg (leC s)] w fun e w' => ∃ A c, e = .returned (.slice A (leParts s).length c) ∧ ReadsStr w' w'.heap.size A (leParts s) ∧ (A = none → c = 0) ∧ Ext w w' := by
 have HI : Hid (∀ (b : Nat) (W : World) (t : TypeId), b = W.heap.size → Calls Tryz.prog 156 #[.slice (some ⟨b, 0, none⟩) 4 4] (W.alloc (.cells #[.int .i64 s.site, .int .i64 s.epoch, .int .i64 s.until_, .int .i64 s.serial] t)) fun e w' => e = .returned (.string (strOfNums (encInts (leInts s)))) ∧ Ext (W.alloc (.cells #[.int .i64 s.site, .int .i64 s.epoch, .int .i64 s.until_, .int .i64 s.serial] t)) w') := lh (fun b W t hb => by
  subst hb
  exact sints_ok _ 4 (leInts s) _ (by show 4 ≤ 100000; decide) (reads_fresh zE (leInts s) W _ t rfl) hs)
 have HL : Hid (leParts s = [strOfNums (encInts (leInts s))]) := lh rfl
 generalize hT : strOfNums (encInts (leInts s)) = T at *
 clear hs hT
 go_enter Tryz.func126, Tryz.ntmps126
 go_wp2_with (go_at_call 156; refine (HI.out _ _ _ (by simp)).mono ?_; rintro e w' ⟨rfl, hxl⟩; obtain ⟨xl, rfl⟩ := hxl.asLater; clear hxl)
 go_ret
 rw [HL.out]
 exact ⟨_, _, rfl, reads_freshB sE [T] _ _ _ rfl _ (by simp [later_size]), fun h => (by cases h), (by (with_reducible repeat first|exact eR _|apply eD|apply eN|apply eA|apply eO|apply eS|apply eC);all_goals first|omega|simp <;> omega)⟩
theorem rlparts_any (s : Le) (w : World) (hs : ∀ x ∈ leInts s, i64 x) :
  Calls Tryz.prog 89 #[.agg (leC s)] w fun e w' => ∃ A c, e = .returned (.slice A (leParts s).length c) ∧ ReadsStr w' w'.heap.size A (leParts s) ∧ (A = none → c = 0) ∧ Ext w w' := by
 have HI : Hid (∀ (b : Nat) (W : World) (t : TypeId), b = W.heap.size → Calls Tryz.prog 133 #[.slice (some ⟨b, 0, none⟩) 4 4] (W.alloc (.cells #[.int .i64 s.site, .int .i64 s.epoch, .int .i64 s.until_, .int .i64 s.serial] t)) fun e w' => e = .returned (.string (strOfNums (encInts (leInts s)))) ∧ Ext (W.alloc (.cells #[.int .i64 s.site, .int .i64 s.epoch, .int .i64 s.until_, .int .i64 s.serial] t)) w') := lh (fun b W t hb => by
  subst hb
  exact rsints_ok _ 4 (leInts s) _ (by show 4 ≤ 100000; decide) (reads_fresh zE (leInts s) W _ t rfl) hs)
 have HL : Hid (leParts s = [strOfNums (encInts (leInts s))]) := lh rfl
 generalize hT : strOfNums (encInts (leInts s)) = T at *
 clear hs hT
 go_enter Tryz.func89, Tryz.ntmps89
 go_wp2_with (go_at_call 133; refine (HI.out _ _ _ (by simp)).mono ?_; rintro e w' ⟨rfl, hxl⟩; obtain ⟨xl, rfl⟩ := hxl.asLater; clear hxl)
 go_ret
 rw [HL.out]
 exact ⟨_, _, rfl, reads_freshB sE [T] _ _ _ rfl _ (by simp [later_size]), fun h => (by cases h), (by (with_reducible repeat first|exact eR _|apply eD|apply eN|apply eA|apply eO|apply eS|apply eC);all_goals first|omega|simp <;> omega)⟩
def ringAt (l : List Ky) (i : Nat) : Bool := okKy (l.getD i noKy) && (decide (i = 0) || befK (l.getD (i - 1) noKy) (l.getD i noKy))
def ringB (l : List Ky) : Bool := (List.range l.length).all (ringAt l) && decide ((l.length : Int) ≤ 1000)
theorem ringB_is {l : List Ky} (h : ringB l = true) : RingOk l := by
 simp only [ringB, Bool.and_eq_true, List.all_eq_true, List.mem_range, decide_eq_true_eq] at h
 obtain ⟨h1, h2⟩ := h
 refine ⟨fun k hk => ?_, fun i hi => ?_, by omega⟩
 ·obtain ⟨i, hi, rfl⟩ := List.getElem_of_mem hk
  have := h1 i hi
  simp only [ringAt, Bool.and_eq_true, List.getD_eq_getElem?_getD, List.getElem?_eq_getElem hi, Option.getD_some] at this
  exact this.1
 ·have := h1 (i + 1) hi
  simp only [ringAt, Bool.and_eq_true, Bool.or_eq_true, decide_eq_true_eq, List.getD_eq_getElem?_getD, List.getElem?_eq_getElem hi, Option.getD_some, Nat.add_sub_cancel, List.getElem?_eq_getElem (show i < l.length by omega)] at this
  rcases this.2 with h | h
  ·omega
  ·exact h
theorem rbefore_any (a b : Ky) (w : World) : Calls Tryz.prog 113 #[.agg (kyC a), .agg (kyC b)] w fun e w' => e = .returned (.bool (befK a b)) ∧ Ext w w' := by
 have HF : Hid (befK a b = (decide (a.party < b.party) || (decide (a.party = b.party) && decide (a.serial < b.serial)))) := lh rfl
 have hfa := ky_fits a
 have hfb := ky_fits b
 generalize befK a b = R at HF ⊢
 go_enter Tryz.func113, Tryz.ntmps113
 go_wp2
 all_goals
  go_ret
  exact ⟨ret_bool (by have h := HF.out; clear HF; subst h; first | rfl | (simp [*]; done) | (simp [*]; omega) | omega), (by (with_reducible repeat first|exact eR _|apply eD|apply eN|apply eA|apply eO|apply eS|apply eC);all_goals first|omega|simp <;> omega)⟩
theorem range_snoc (p : Nat → Bool) (k : Nat) (h : (List.range k).all p = true) (hk : p k = true) : (List.range (k + 1)).all p = true := by
 rw [List.range_succ, List.all_append, h]
 simpa using hk
theorem range_no (p : Nat → Bool) (k n : Nat) (hkn : k < n) (hk : p k = false) : (List.range n).all p = false := by
 rw [List.all_eq_false]
 exact ⟨k, by simpa using hkn, by simpa using hk⟩
theorem rring_any (A : Option Addr) (c : Nat) (l : List Ky) (w : World) (hl : l.length ≤ 9223372036854775807) (hr : ReadsKy w w.heap.size A l) (hs : ∀ k ∈ l, k.secret.size < 9223372036854775808) :
  Calls Tryz.prog 54 #[.slice A l.length c] w fun e w' => e = .returned (.bool (ringB l)) ∧ Ext w w' := by
 have HR := lh hr
 have HV := lh (fun (k : Nat) (h : k < l.length) (W : World) => rkvalid_any l[k] W (hs _ (List.getElem_mem h)))
 have HB := lh rbefore_any
 clear hr hs
 go_enter Tryz.func54, Tryz.ntmps54
 go_wp2
 go_loopw [3] (fun i wr => ∃ k : Nat, k ≤ l.length ∧ i = .int .i64 k ∧ Hid ((List.range k).all (ringAt l) = true) ∧ Hid (Ext w wr)) (fun i _ => l.length - (intOf i).toNat)
 case atStart => exact ⟨0, Nat.zero_le _, rfl, lh rfl, lh (eR _)⟩
 case round =>
  obtain ⟨k, hk, rfl, HK, HX⟩ := hrel
  have hsz := HX.out.size
  by_cases hlt : k < l.length
  ·obtain ⟨b, off, rfl, hb, hrow⟩ := ReadsKy.row (HR.out.ext HX.out (Nat.le_refl _)) k hlt
   have hb2 : b < wr.heap.size := by omega
   have HV1 := lh (HV.out k hlt)
   have hg : l.getD k noKy = l[k] := by rw [List.getD_eq_getElem?_getD, List.getElem?_eq_getElem hlt]; rfl
   have hft := ky_fits l[k]
   by_cases k0 : 0 < k
   ·obtain ⟨b', off', e1, _, hrp⟩ := ReadsKy.row (HR.out.ext HX.out (Nat.le_refl _)) (k - 1) (by omega)
    injection e1 with e1
    injection e1 with e1 e2
    subst e1 e2
    have hgp : l.getD (k - 1) noKy = l[k - 1]'(by omega) := by rw [List.getD_eq_getElem?_getD, List.getElem?_eq_getElem (show k - 1 < l.length by omega)]; rfl
    have HP : Hid (ringAt l k = (okKy l[k] && befK (l[k - 1]'(by omega)) l[k])) := lh (by rw [ringAt, hg, hgp, decide_eq_false (by omega), Bool.false_or])
    have HB1 := lh (fun W => HB.out (l[k - 1]'(by omega)) l[k] W)
    have hftp := ky_fits (l[k - 1]'(by omega))
    have d0 : decide (0 < k) = true := by simp; omega
    have d1 : decide (0 < (k : Int)) = true := by simp; omega
    clear hg hgp
    generalize l[k - 1]'(by omega) = kp at *
    generalize l[k] = kk at *
    generalize okKy kk = v at *
    generalize befK kp kk = f at *
    cases v with
    | true =>
     cases f with
     | true =>
      have HN := lh (range_snoc _ k HK.out (by rw [HP.out]; rfl))
      clear HP
      go_wp2_with (go_at_call 62; refine (HV1.out _).mono ?_; rintro e w' ⟨rfl, hxl⟩; obtain ⟨xl, rfl⟩ := hxl.asLater; clear hxl)
      refine wp_region_later (by kernel_rfl) (by kernel_rfl) ?_
      repeat (first | go_big_quiet_step ((go_at_call 113; exact quietE (HB1.out _))) | quiet_step ((go_at_call 113; exact quietE (HB1.out _))))
      refine wpQuiet_nil ?_
      rintro _ ⟨xq, rfl⟩
      go_wp2
      go_roundw
      case rel => exact ⟨k + 1, by omega, by go_num, HN, lh (by (with_reducible repeat first|exact HX.out|exact eR _|apply eD|apply eN|apply eA|apply eO|apply eS|apply eC);all_goals first|omega|simp <;> omega)⟩
      case measure => simp [intOf]; omega
     | false =>
      have HN := lh (range_no (ringAt l) k l.length hlt (by rw [HP.out]; rfl))
      clear HP
      go_wp2_with (go_at_call 62; refine (HV1.out _).mono ?_; rintro e w' ⟨rfl, hxl⟩; obtain ⟨xl, rfl⟩ := hxl.asLater; clear hxl)
      refine wp_region_later (by kernel_rfl) (by kernel_rfl) ?_
      repeat (first | go_big_quiet_step ((go_at_call 113; exact quietE (HB1.out _))) | quiet_step ((go_at_call 113; exact quietE (HB1.out _))))
      refine wpQuiet_nil ?_
      rintro _ ⟨xq, rfl⟩
      go_wp2
      go_ret
      exact ⟨ret_bool (by rw [ringB, HN.out]; rfl), (by (with_reducible repeat first|exact HX.out|exact eR _|apply eD|apply eN|apply eA|apply eO|apply eS|apply eC);all_goals first|omega|simp <;> omega)⟩
    | false =>
     have HN := lh (range_no (ringAt l) k l.length hlt (by rw [HP.out]; rfl))
     clear HP
     go_wp2_with (go_at_call 62; refine (HV1.out _).mono ?_; rintro e w' ⟨rfl, hxl⟩; obtain ⟨xl, rfl⟩ := hxl.asLater; clear hxl)
     refine wp_region_later (by kernel_rfl) (by kernel_rfl) ?_
     repeat (first | go_big_quiet_step (fail) | quiet_step (fail))
     refine wpQuiet_nil ?_
     rintro _ ⟨xq, rfl⟩
     go_wp2
     go_ret
     exact ⟨ret_bool (by rw [ringB, HN.out]; rfl), (by (with_reducible repeat first|exact HX.out|exact eR _|apply eD|apply eN|apply eA|apply eO|apply eS|apply eC);all_goals first|omega|simp <;> omega)⟩
   ·have hk0 : k = 0 := by omega
    subst hk0
    rw [Nat.zero_mul, Nat.add_zero] at hrow
    have HP : Hid (ringAt l 0 = okKy l[0]) := lh (by rw [ringAt, hg, decide_eq_true rfl, Bool.true_or, Bool.and_true])
    clear hg
    generalize l[0] = kk at *
    generalize okKy kk = v at *
    cases v with
    | true =>
     have HN := lh (range_snoc _ 0 HK.out HP.out)
     clear HP
     go_wp2_with (go_at_call 62; refine (HV1.out _).mono ?_; rintro e w' ⟨rfl, hxl⟩; obtain ⟨xl, rfl⟩ := hxl.asLater; clear hxl)
     refine wp_region_later (by kernel_rfl) (by kernel_rfl) ?_
     repeat (first | go_big_quiet_step (fail) | quiet_step (fail))
     refine wpQuiet_nil ?_
     rintro _ ⟨xq, rfl⟩
     go_wp2
     go_roundw
     case rel => exact ⟨0 + 1, by omega, by go_num, HN, lh (by (with_reducible repeat first|exact HX.out|exact eR _|apply eD|apply eN|apply eA|apply eO|apply eS|apply eC);all_goals first|omega|simp <;> omega)⟩
     case measure => simp [intOf]; omega
    | false =>
     have HN := lh (range_no (ringAt l) 0 l.length hlt HP.out)
     clear HP
     go_wp2_with (go_at_call 62; refine (HV1.out _).mono ?_; rintro e w' ⟨rfl, hxl⟩; obtain ⟨xl, rfl⟩ := hxl.asLater; clear hxl)
     refine wp_region_later (by kernel_rfl) (by kernel_rfl) ?_
     repeat (first | go_big_quiet_step (fail) | quiet_step (fail))
     refine wpQuiet_nil ?_
     rintro _ ⟨xq, rfl⟩
     go_wp2
     go_ret
     exact ⟨ret_bool (by rw [ringB, HN.out]; rfl), (by (with_reducible repeat first|exact HX.out|exact eR _|apply eD|apply eN|apply eA|apply eO|apply eS|apply eC);all_goals first|omega|simp <;> omega)⟩
  ·have e : k = l.length := by omega
   subst e
   have HN : Hid (ringB l = decide ((l.length : Int) ≤ 1000)) := lh (by rw [ringB, HK.out, Bool.true_and])
   clear HK
   go_wp2
   go_ret
   exact ⟨ret_bool (by rw [HN.out]), HX.out⟩
def fndL (k : Ky) (e : Int) : List Value := kyL k ++ [.int .i64 e]
def fndC (k : Ky) (e : Int) : Array Value := (fndL k e).toArray
theorem fnd_ty : RowTy Tryz.prog 162 6 := ⟨by kernel_rfl, by kernel_rfl⟩
theorem fnd_ld (w : World) (b o : Nat) : (rowLoad 162 6 (.pointer (some ⟨b, o, none⟩))).run Tryz.prog w = rowLoadR Tryz.prog w 162 6 b o (rowOf w b o 6) := run_rowLoad fnd_ty w b o
theorem fnd_st (w : World) (b o : Nat) (cells : Array Value) : (rowStore 162 6 (.pointer (some ⟨b, o, none⟩)) (.agg cells)).run Tryz.prog w = rowStoreR Tryz.prog w 162 6 b o cells (roomOf w b o 6 && fitsRow 6 cells) := run_rowStore fnd_ty w b o cells
theorem fnd_al (w : World) : (rowAlloc 162).run Tryz.prog w = .ok (.value (.pointer (some ⟨w.heap.size, 0, none⟩))) (w.alloc (.cells (fndC noKy 0) 162)) := run_rowAlloc (by kernel_rfl) w
theorem fnd_xl (ρ : Operand → Value) (dst : Option Tmp) (x : Operand) (t : TypeId) (pos : String) (after : Array Edge) (guard : Option (Nat × Bool)) : execOp ρ { dst, op := .load 162 x, type := t, pos, after, guard } = rowLoad 162 6 (ρ x) := rfl
theorem fnd_xs (ρ : Operand → Value) (dst : Option Tmp) (x y : Operand) (t : TypeId) (pos : String) (after : Array Edge) (guard : Option (Nat × Bool)) : execOp ρ { dst, op := .store 162 x y, type := t, pos, after, guard } = rowStore 162 6 (ρ x) (ρ y) := rfl
theorem fnd_xa (ρ : Operand → Value) (dst : Option Tmp) (t : TypeId) (pos : String) (after : Array Edge) (guard : Option (Nat × Bool)) : execOp ρ { dst, op := .alloc 162, type := t, pos, after, guard } = rowAlloc 162 := rfl
attribute [go_sem ↓] fnd_xl fnd_xs fnd_xa
attribute [go_sem] fnd_ld fnd_st fnd_al
theorem fnd_size (k : Ky) (e : Int) : (fndC k e).size = 6 := rfl
theorem fnd_all (k : Ky) (e : Int) : rowSub (fndC k e) 0 6 = some (fndC k e) := rowSub_all _ _ rfl
theorem fnd_fits (k : Ky) (e : Int) : fitsRow 6 (fndC k e) = true := by kernel_rfl
theorem fnd_ky (k : Ky) (e : Int) : rowSub (fndC k e) 0 5 = some (kyC k) := by kernel_rfl
theorem fnd_g5 (k : Ky) (e : Int) : (fndC k e)[5]? = some (.int .i64 e) := by kernel_rfl
attribute [go_sem] fnd_size fnd_all fnd_fits fnd_ky fnd_g5
def fndB1 (x : Value) : Sem Next := do pure (.value (← Instr.build 162 #[(1, x)]))
theorem fndB1_x (ρ : Operand → Value) (dst : Option Tmp) (x : Operand) (t : TypeId) (pos : String) (after : Array Edge) (guard : Option (Nat × Bool)) : execOp ρ { dst, op := .build 162 #[(1, x)], type := t, pos, after, guard } = fndB1 (ρ x) := by kernel_rfl
theorem fndB1_run (e : Int) (W : World) : (fndB1 (.int .i64 e)).run Tryz.prog W = .ok (.value (.agg (fndC noKy e))) W := by kernel_rfl
def fndB0 (x : Value) : Sem Next := do pure (.value (← Instr.build 162 #[(0, x)]))
theorem fndB0_x (ρ : Operand → Value) (dst : Option Tmp) (x : Operand) (t : TypeId) (pos : String) (after : Array Edge) (guard : Option (Nat × Bool)) : execOp ρ { dst, op := .build 162 #[(0, x)], type := t, pos, after, guard } = fndB0 (ρ x) := by kernel_rfl
theorem fndB0_run (k : Ky) (W : World) : (fndB0 (.agg (kyC k))).run Tryz.prog W = .ok (.value (.agg (fndC k 0))) W := by kernel_rfl
attribute [go_sem ↓] fndB1_x fndB0_x
attribute [go_sem] fndB1_run fndB0_run
theorem find_snoc {l : List Ky} {p s : Int} {k : Nat} (h : k < l.length) (h0 : (l.take k).find? (fun x => cmpK p s x == 0) = none) (h1 : cmpK p s l[k] ≠ 0) : (l.take (k + 1)).find? (fun x => cmpK p s x == 0) = none := by
 rw [List.take_succ_eq_append_getElem h, List.find?_append, h0]
 simp [h1]
theorem find_hit {l : List Ky} {p s : Int} {k : Nat} (h : k < l.length) (h0 : (l.take k).find? (fun x => cmpK p s x == 0) = none) (h1 : cmpK p s l[k] = 0) : keyN l p s = some l[k] := by
 unfold keyN
 have e : l = l.take k ++ l[k] :: l.drop (k + 1) := by rw [← List.drop_eq_getElem_cons h, List.take_append_drop]
 have h2 : ∀ (x : Ky) (a b : List Ky), a.find? (fun x => cmpK p s x == 0) = none → cmpK p s x = 0 → (a ++ x :: b).find? (fun x => cmpK p s x == 0) = some x := fun x a b ha hx => by
  rw [List.find?_append, ha, List.find?_cons]
  simp [hx]
 have h3 := h2 l[k] (l.take k) (l.drop (k + 1)) h0 h1
 rw [← e] at h3
 exact h3
theorem rfind_any (A : Option Addr) (c : Nat) (l : List Ky) (p s : Int) (w : World) (hl : l.length ≤ 9223372036854775807) (hr : ReadsKy w w.heap.size A l) :
  Calls Tryz.prog 92 #[.slice A l.length c, .int .i64 p, .int .i64 s] w fun e w' => e = .returned (.agg (fndC (keyF l p s) (keyE l p s))) ∧ Ext w w' := by
 have HR := lh hr
 clear hr
 go_enter Tryz.func92, Tryz.ntmps92
 go_wp2
 refine wp_world (fun W => Ext w W ∧ RowAt W w.heap.size (fndC noKy 0) ∧ W.heap.size = w.heap.size + 1) ⟨(by (with_reducible repeat first|exact eR _|apply eD|apply eN|apply eA|apply eO|apply eS|apply eC);all_goals first|omega|simp <;> omega), RowAt.new _ _ _, by simp⟩ ?_
 obtain ⟨B, hB⟩ : ∃ B, w.heap.size = B := ⟨_, rfl⟩
 rw [hB]
 rintro W1 ⟨x1, u0, hs1⟩
 have HX1 := lh x1
 have HU0 := lh u0
 clear x1 u0
 go_loopw [7] (fun i wr => ∃ k : Nat, k ≤ l.length ∧ i = .int .i64 k ∧ Hid ((l.take k).find? (fun x => cmpK p s x == 0) = none) ∧ Hid (Ext W1 wr)) (fun i _ => l.length - (intOf i).toNat)
 case atStart => exact ⟨0, Nat.zero_le _, rfl, lh rfl, lh (eR _)⟩
 case round =>
  obtain ⟨k, hk, rfl, HK, HX⟩ := hrel
  have hsz := HX.out.size
  have HU := lh (HU0.out.ext HX.out)
  have hm : roomOf wr B 0 6 = true := by rw [HU.out.room]; rfl
  by_cases hlt : k < l.length
  ·obtain ⟨b, off, rfl, hb, hrow⟩ := ReadsKy.row (HR.out.ext (HX1.out.trans HX.out) (Nat.le_refl _)) k hlt
   have hb2 : b < wr.heap.size := by omega
   have hp : wr.cell? ⟨b, off + k * 5, none⟩ = some (.int .i64 l[k].party) := (rowOf_cell hrow (i := 0) (by omega)).trans (ky_g0 _)
   have hs : wr.cell? ⟨b, off + k * 5 + 1, none⟩ = some (.int .i64 l[k].serial) := (rowOf_cell hrow (i := 1) (by omega)).trans (ky_g1 _)
   have HS := lh (find_snoc (p := p) (s := s) hlt HK.out)
   have HF := lh (find_hit (p := p) (s := s) hlt HK.out)
   have hft := ky_fits l[k]
   generalize l[k] = kk at *
   by_cases b0 : kk.party = p
   ·have e0 : (kk.party == p) = true := by simpa using b0
    by_cases b1 : kk.serial = s
    ·have e1 : (kk.serial == s) = true := by simpa using b1
     have HF1 := lh (HF.out (by unfold cmpK; rw [if_pos b0]; omega))
     have hft2 := fnd_fits kk 0
     clear HS HF b0 b1
     go_wp2
     exact post_row fnd_ty Tryz.results92 rfl rfl (RowAt.stored (n := 6) (ds := fndC kk 0) HU.out rfl rfl (by omega)) ⟨by rw [keyF, keyE, HF1.out]; rfl, (by (with_reducible repeat first|exact HX1.out.trans HX.out|exact eR _|apply eD|apply eN|apply eA|apply eO|apply eS|apply eC);all_goals first|omega|simp <;> omega)⟩
    ·have e1 : (kk.serial == s) = false := by simpa using b1
     have HS1 := lh (HS.out (by unfold cmpK; rw [if_pos b0]; omega))
     clear HS HF b0 b1
     go_wp2
     go_roundw
     case rel => exact ⟨k + 1, by omega, by go_num, HS1, lh (by (with_reducible repeat first|exact HX.out|exact eR _|apply eD|apply eN|apply eA|apply eO|apply eS|apply eC);all_goals first|omega|simp <;> omega)⟩
     case measure => simp [intOf]; omega
   ·have e0 : (kk.party == p) = false := by simpa using b0
    have HS1 := lh (HS.out (by unfold cmpK; rw [if_neg b0]; omega))
    clear HS HF b0
    go_wp2
    go_roundw
    case rel => exact ⟨k + 1, by omega, by go_num, HS1, lh (by (with_reducible repeat first|exact HX.out|exact eR _|apply eD|apply eN|apply eA|apply eO|apply eS|apply eC);all_goals first|omega|simp <;> omega)⟩
    case measure => simp [intOf]; omega
  ·have e : k = l.length := by omega
   subst e
   have HN : Hid (keyN l p s = none) := lh (by have h := HK.out; rwa [List.take_of_length_le (Nat.le_refl _)] at h)
   have hft2 := fnd_fits noKy 5
   clear HK
   go_wp2
   exact post_row fnd_ty Tryz.results92 rfl rfl (RowAt.stored (n := 6) (ds := fndC noKy 5) HU.out rfl rfl (by omega)) ⟨by rw [keyF, keyE, HN.out]; rfl, (by (with_reducible repeat first|exact HX1.out.trans HX.out|exact eR _|apply eD|apply eN|apply eA|apply eO|apply eS|apply eC);all_goals first|omega|simp <;> omega)⟩
noncomputable def checkR (l : List Ky) (p s tag : Int) (parts : List ByteArray) (sel : List Int) (lo hi : Int) : Int := checkOut (keyF l p s) (keyE l p s) tag parts sel lo hi
theorem keyF_secret {l : List Ky} (h : RingOk l) {p s : Int} (h0 : keyE l p s = 0) : (keyF l p s).secret.size ≤ 64 := by
 unfold keyE at h0
 unfold keyF
 cases hk : keyN l p s with
 | none => rw [hk] at h0; simp at h0
 | some k => exact (okKy_lims (h.ok k (keyN_zero hk).1)).2.2.2.2.2.1
theorem lens_key {k : Ky} {parts : List ByteArray} (hs : k.secret.size ≤ 64) (hl : lens parts ≤ 1000000000000) : lens ([k.secret] ++ parts ++ [k.secret]) < 8796093022208 := by
 rw [lens_append, lens_append, lens_one]
 omega
theorem scheck_ring (Ar : Option Addr) (cr : Nat) (l : List Ky) (p s tag : Int) (A : Option Addr) (c : Nat) (parts : List ByteArray) (sel : List Int) (lo hi : Int) (w : World) (hg : RingOk l) (hrk : ReadsKy w w.heap.size Ar l) (hp : small40 p) (hs : i64 s) (hd : DgOk sel) (hr : ReadsStr w w.heap.size A parts) (hz : A = none → c = 0) (hl : lens parts ≤ 1000000000000) (hk : Konst 1 w) :
  Calls Tryz.prog 65 #[.slice Ar l.length cr, .int .i64 p, .int .i64 s, .int .i64 tag, .slice A parts.length c, .agg (dgC sel), .agg #[.int .i64 lo, .int .i64 hi]] w fun e w' => e = .returned (.int .i64 (checkR l p s tag parts sel lo hi)) ∧ Ext w w' :=
 scheck_any Ar l.length cr p s tag A c parts sel lo hi (keyF l p s) (keyE l p s) w hd.len hd.byt hr hz (fun h0 => lens_key (keyF_secret hg h0) hl) hk (fun W hx => kfind_ring Ar cr l p s W hg (hrk.on hx) hp hs)
theorem rcheck_ring (Ar : Option Addr) (cr : Nat) (l : List Ky) (p s tag : Int) (A : Option Addr) (c : Nat) (parts : List ByteArray) (sel : List Int) (lo hi : Int) (w : World) (hg : RingOk l) (hrk : ReadsKy w w.heap.size Ar l) (hd : DgOk sel) (hr : ReadsStr w w.heap.size A parts) (hz : A = none → c = 0) (hl : lens parts ≤ 1000000000000) (hk : RKonst w) :
  Calls Tryz.prog 66 #[.slice Ar l.length cr, .int .i64 p, .int .i64 s, .int .i64 tag, .slice A parts.length c, .agg (dgC sel), .agg #[.int .i64 lo, .int .i64 hi]] w fun e w' => e = .returned (.int .i64 (checkR l p s tag parts sel lo hi)) ∧ Ext w w' := by
 have HF := lh (fun (W : World) (hx : Ext w W) => rfind_any Ar cr l p s W (by have := hg.len; omega) (hrk.on hx))
 have hkl : keyE l p s = 0 → lens ([(keyF l p s).secret] ++ parts ++ [(keyF l p s).secret]) < 8796093022208 := fun h0 => lens_key (keyF_secret hg h0) hl
 have hO : checkR l p s tag parts sel lo hi = checkOut (keyF l p s) (keyE l p s) tag parts sel lo hi := rfl
 generalize checkR l p s tag parts sel lo hi = O at *
 generalize keyF l p s = kf at *
 generalize keyE l p s = ef at *
 have HC := lh (fun W => rcounts_any kf lo hi W)
 have HM := lh (fun (W : World) (hx : Ext w W) (h0 : ef = 0) => rmake_any kf tag A c parts W (hr.on hx) hz (hkl h0) (RowAt.ext hk hx))
 obtain ⟨D, hD⟩ : ∃ D, makeN kf tag parts = D := ⟨_, rfl⟩
 have h16 : D.length = 16 := by rw [← hD]; exact makeN_len _ _ _
 have hneq := neq_sel (a := D) (b := sel) h16 hd.len (by rw [← hD]; exact makeN_byt _ _ _) hd.byt
 have HO : Hid (O = if ef = 0 then if countB kf lo hi = true then if D = sel then 0 else 8 else 9 else ef) := lh (by rw [hO, ← hD]; rfl)
 rw [hD] at HM
 have hft := fnd_fits kf ef
 have hfk := ky_fits kf
 have hfs : fitsRow 16 (dgC sel) = true := by simp [fitsRow, dgC, Value.oneCell']
 clear hD h16 hd hr hz hl hk hrk hg hkl hO
 go_enter Tryz.func66, Tryz.ntmps66
 go_upto_region 2 with (go_at_call 92; refine (HF.out _ (by (with_reducible repeat first|exact eR _|apply eD|apply eN|apply eA|apply eO|apply eS|apply eC);all_goals first|omega|simp <;> omega)).mono ?_; rintro e w' ⟨rfl, hxl⟩; obtain ⟨xl, rfl⟩ := hxl.asLater; clear hxl)
 refine wp_world (fun W => Ext w W ∧ RowAt W w.heap.size (dgC sel) ∧ RowAt W (w.heap.size + 1) #[.int .i64 lo, .int .i64 hi] ∧ RowAt W (w.heap.size + 1 + 1 + xl.n) (fndC kf ef)) ⟨Ext.setCells ((by (with_reducible repeat first|exact eR _|apply eD|apply eN|apply eA|apply eO|apply eS|apply eC);all_goals first|omega|simp <;> omega)) (by omega) _ _, ?_, ?_, ?_⟩ ?_
 ·exact RowAt.others ((((RowAt.new _ _ _).alloc _).later _).alloc _) (by omega) _ _
 ·exact RowAt.others (((RowAt.newAt (by simp)).later _).alloc _) (by omega) _ _
 ·exact RowAt.store (RowAt.newAt (by simp [later_size])) rfl
 obtain ⟨B, hB⟩ : ∃ B, w.heap.size = B := ⟨_, rfl⟩
 obtain ⟨g, hg⟩ : ∃ g, w.heap.size + 1 + 1 + xl.n = g := ⟨_, rfl⟩
 rw [hg, hB]
 rintro W1 ⟨x1, u0, u1, u2⟩
 have HX1 := lh x1
 have s0 : rowOf W1 B 0 16 = some (dgC sel) := u0.all rfl (by omega)
 have p0 : W1.cell? ⟨B + 1, 0, none⟩ = some (.int .i64 lo) := u1.cell 0
 have p1 : W1.cell? ⟨B + 1, 1, none⟩ = some (.int .i64 hi) := u1.cell 1
 have k0 : rowOf W1 g 0 5 = some (kyC kf) := by rw [u2.row, if_neg (by omega), fnd_ky]
 have k5 : W1.cell? ⟨g, 5, none⟩ = some (.int .i64 ef) := (u2.cell 5).trans (fnd_g5 _ _)
 have hlu := u2.lt
 have hls := x1.size
 have hl0 := u1.lt
 clear x1 u0 u1 u2 hg HF
 by_cases b0 : ef = 0
 ·subst b0
  cases b1 : countB kf lo hi with
  | true =>
   rw [b1] at HC HO
   have HM' := lh (fun W hx => HM.out W hx rfl)
   by_cases b2 : D = sel
   ·have HO' : Hid (O = 0) := lh (by rw [HO.out, if_pos rfl, if_pos rfl, if_pos b2])
    have d2 : decide (D = sel) = true := by simpa using b2
    clear HO b1 b2 HM
    go_wp2_with (first | (go_at_call 124; refine (HC.out _).mono ?_; rintro e w' ⟨rfl, hxl⟩; obtain ⟨xl, rfl⟩ := hxl.asLater; clear hxl))
    refine wp_region_later (by kernel_rfl) (by kernel_rfl) ?_
    repeat (first | go_big_quiet_step ((go_at_call 31; exact quietE (HM'.out _ (by first | exact ((HX1.out.onto _).onto _) | exact HX1.out.onto _ | exact (by (with_reducible repeat first|exact HX1.out|exact eR _|apply eD|apply eN|apply eA|apply eO|apply eS|apply eC);all_goals first|omega|simp <;> omega))))) | quiet_step ((go_at_call 31; exact quietE (HM'.out _ (by first | exact ((HX1.out.onto _).onto _) | exact HX1.out.onto _ | exact (by (with_reducible repeat first|exact HX1.out|exact eR _|apply eD|apply eN|apply eA|apply eO|apply eS|apply eC);all_goals first|omega|simp <;> omega))))))
    refine wpQuiet_nil ?_
    rintro _ ⟨xq, rfl⟩
    go_wp2
    go_ret
    exact ⟨ret_int HO'.out.symm, (by (with_reducible repeat first|exact HX1.out|exact eR _|apply eD|apply eN|apply eA|apply eO|apply eS|apply eC);all_goals first|omega|simp <;> omega)⟩
   ·have HO' : Hid (O = 8) := lh (by rw [HO.out, if_pos rfl, if_pos rfl, if_neg b2])
    have d2 : decide (D = sel) = false := by simpa using b2
    clear HO b1 b2 HM
    go_wp2_with (first | (go_at_call 124; refine (HC.out _).mono ?_; rintro e w' ⟨rfl, hxl⟩; obtain ⟨xl, rfl⟩ := hxl.asLater; clear hxl))
    refine wp_region_later (by kernel_rfl) (by kernel_rfl) ?_
    repeat (first | go_big_quiet_step ((go_at_call 31; exact quietE (HM'.out _ (by first | exact ((HX1.out.onto _).onto _) | exact HX1.out.onto _ | exact (by (with_reducible repeat first|exact HX1.out|exact eR _|apply eD|apply eN|apply eA|apply eO|apply eS|apply eC);all_goals first|omega|simp <;> omega))))) | quiet_step ((go_at_call 31; exact quietE (HM'.out _ (by first | exact ((HX1.out.onto _).onto _) | exact HX1.out.onto _ | exact (by (with_reducible repeat first|exact HX1.out|exact eR _|apply eD|apply eN|apply eA|apply eO|apply eS|apply eC);all_goals first|omega|simp <;> omega))))))
    refine wpQuiet_nil ?_
    rintro _ ⟨xq, rfl⟩
    go_wp2
    go_ret
    exact ⟨ret_int HO'.out.symm, (by (with_reducible repeat first|exact HX1.out|exact eR _|apply eD|apply eN|apply eA|apply eO|apply eS|apply eC);all_goals first|omega|simp <;> omega)⟩
  | false =>
   rw [b1] at HC HO
   have HO' : Hid (O = 9) := lh (by rw [HO.out, if_pos rfl, if_neg (by simp)])
   clear HO b1 HM
   go_wp2_with (first | (go_at_call 124; refine (HC.out _).mono ?_; rintro e w' ⟨rfl, hxl⟩; obtain ⟨xl, rfl⟩ := hxl.asLater; clear hxl))
   go_ret
   exact ⟨ret_int HO'.out.symm, (by (with_reducible repeat first|exact HX1.out|exact eR _|apply eD|apply eN|apply eA|apply eO|apply eS|apply eC);all_goals first|omega|simp <;> omega)⟩
 ·have HO' : Hid (O = ef) := lh (by rw [HO.out, if_neg b0])
  have e0 : (ef != 0) = true := by simpa using b0
  clear HO HM HC b0
  go_wp2
  go_ret
  exact ⟨ret_int HO'.out.symm, (by (with_reducible repeat first|exact HX1.out|exact eR _|apply eD|apply eN|apply eA|apply eO|apply eS|apply eC);all_goals first|omega|simp <;> omega)⟩
theorem asite_any (n : Int) (w : World) : Calls Tryz.prog 56 #[.int .i64 n] w fun e w' => e = .returned (.bool (siteB n)) ∧ Ext w w' := by
 have HF : Hid (siteB n = (decide (0 ≤ n) && decide (n < 64))) := lh rfl
 generalize siteB n = R at HF ⊢
 go_enter Tryz.func56, Tryz.ntmps56
 go_wp2
 all_goals
  go_ret
  exact ⟨ret_bool (by have h := HF.out; clear HF; subst h; first | rfl | (simp [*]; done) | (simp [*]; omega) | omega), (by (with_reducible repeat first|exact eR _|apply eD|apply eN|apply eA|apply eO|apply eS|apply eC);all_goals first|omega|simp <;> omega)⟩
theorem ssite_any (n : Int) (w : World) : Calls Tryz.prog 129 #[.int .i64 n] w fun e w' => e = .returned (.bool (siteB n)) ∧ Ext w w' := by
 have HF : Hid (siteB n = (decide (0 ≤ n) && decide (n < 64))) := lh rfl
 generalize siteB n = R at HF ⊢
 go_enter Tryz.func129, Tryz.ntmps129
 go_wp2
 all_goals
  go_ret
  exact ⟨ret_bool (by have h := HF.out; clear HF; subst h; first | rfl | (simp [*]; done) | (simp [*]; omega) | omega), (by (with_reducible repeat first|exact eR _|apply eD|apply eN|apply eA|apply eO|apply eS|apply eC);all_goals first|omega|simp <;> omega)⟩
theorem r4site_any (n : Int) (w : World) : Calls Tryz.prog 61 #[.int .i64 n] w fun e w' => e = .returned (.bool (siteB n)) ∧ Ext w w' := by
 have HF : Hid (siteB n = (decide (0 ≤ n) && decide (n < 64))) := lh rfl
 generalize siteB n = R at HF ⊢
 go_enter Tryz.func61, Tryz.ntmps61
 go_wp2
 all_goals
  go_ret
  exact ⟨ret_bool (by have h := HF.out; clear HF; subst h; first | rfl | (simp [*]; done) | (simp [*]; omega) | omega), (by (with_reducible repeat first|exact eR _|apply eD|apply eN|apply eA|apply eO|apply eS|apply eC);all_goals first|omega|simp <;> omega)⟩
theorem lsite_any (n : Int) (w : World) : Calls Tryz.prog 125 #[.int .i64 n] w fun e w' => e = .returned (.bool (siteB n)) ∧ Ext w w' := by
 have HF : Hid (siteB n = (decide (0 ≤ n) && decide (n < 64))) := lh rfl
 generalize siteB n = R at HF ⊢
 go_enter Tryz.func125, Tryz.ntmps125
 go_wp2
 all_goals
  go_ret
  exact ⟨ret_bool (by have h := HF.out; clear HF; subst h; first | rfl | (simp [*]; done) | (simp [*]; omega) | omega), (by (with_reducible repeat first|exact eR _|apply eD|apply eN|apply eA|apply eO|apply eS|apply eC);all_goals first|omega|simp <;> omega)⟩
noncomputable def checkCf (l : List Ky) (s : Cf) : Int := if siteB s.site = true then checkR l (1000 + s.site) s.serial 320 (cfParts s) s.sl s.lo s.hi else 1
abbrev KonstP (w : World) : Prop := Konst 1 w
theorem acheckCf_any (Ar : Option Addr) (cr : Nat) (l : List Ky) (s : Cf) (w : World) (hg : RingOk l) (hrk : ReadsKy w w.heap.size Ar l) (hs : CfOk s) (hk : KonstP w) :
  Calls Tryz.prog 19 #[.slice Ar l.length cr, .agg (cfC s)] w fun e w' => e = .returned (.int .i64 (checkCf l s)) ∧ Ext w w' := by
 have HP := lh (fun W => cparts_any s W hs)
 have HS := lh (fun W => asite_any s.site W)
 have hpl := cfParts_lens hs
 have hser : i64 s.serial := hs.ints _ (by simp [cfInts])
 have HC := lh (fun (hb : 0 ≤ s.site ∧ s.site < 64) (A : Option Addr) (c : Nat) (W : World) (h1 : ReadsStr W W.heap.size A (cfParts s)) (h2 : A = none → c = 0) (hx : Ext w W) => scheck_ring Ar cr l (1000 + s.site) s.serial 320 A c (cfParts s) s.sl s.lo s.hi W hg (hrk.on hx) (by unfold small40; omega) hser hs.sl h1 h2 (by omega) (RowAt.ext hk hx))
 have HO : Hid (checkCf l s = if siteB s.site = true then checkR l (1000 + s.site) s.serial 320 (cfParts s) s.sl s.lo s.hi else 1) := lh rfl
 have hft := cf_fits s
 generalize checkCf l s = O at *
 generalize checkR l (1000 + s.site) s.serial 320 (cfParts s) s.sl s.lo s.hi = R at *
 clear hg hrk hs hk hpl hser
 cases hb : siteB s.site with
 | false =>
  rw [hb] at HS HO
  have HO' : Hid (O = 1) := lh (by rw [HO.out]; simp)
  clear HO hb
  go_enter Tryz.func19, Tryz.ntmps19
  go_wp2_with (go_at_call 56; refine (HS.out _).mono ?_; rintro e w' ⟨rfl, hxl⟩; obtain ⟨xl, rfl⟩ := hxl.asLater; clear hxl)
  go_ret
  exact ⟨ret_int HO'.out.symm, (by (with_reducible repeat first|exact eR _|apply eD|apply eN|apply eA|apply eO|apply eS|apply eC);all_goals first|omega|simp <;> omega)⟩
 | true =>
  rw [hb] at HS HO
  obtain ⟨b0, b1⟩ := siteB_is.1 hb
  have HO' : Hid (O = R) := lh (by rw [HO.out]; simp)
  have HC' := lh (HC.out ⟨b0, b1⟩)
  clear HO hb HC
  go_enter Tryz.func19, Tryz.ntmps19
  go_wp2_with (go_at_call 56; refine (HS.out _).mono ?_; rintro e w' ⟨rfl, hxl⟩; obtain ⟨xl, rfl⟩ := hxl.asLater; clear hxl)
  refine wp_world (fun W => Ext w W ∧ RowAt W w.heap.size (cfC s)) ⟨(by (with_reducible repeat first|exact eR _|apply eD|apply eN|apply eA|apply eO|apply eS|apply eC);all_goals first|omega|simp <;> omega), (RowAt.new _ _ _).later _⟩ ?_
  obtain ⟨B, hB⟩ : ∃ B, w.heap.size = B := ⟨_, rfl⟩
  rw [hB]
  rintro W1 ⟨x1, uB⟩
  have HX1 := lh x1
  have hlu := uB.lt
  have qB_0 : W1.cell? ⟨B, 0, none⟩ = some (.int .i64 s.site) := (uB.cell 0).trans (cf_g0 s)
  have qB_20 : W1.cell? ⟨B, 20, none⟩ = some (.int .i64 s.serial) := (uB.cell 20).trans (cf_g20 s)
  have kB_0_37 : rowOf W1 B 0 37 = some (cfC s) := uB.all rfl (by omega)
  have kB_21_16 : rowOf W1 B 21 16 = some (dgC s.sl) := by rw [uB.row, if_neg (by omega), cf_s21_16]
  have qB_18 : W1.cell? ⟨B, 18, none⟩ = some (.int .i64 s.lo) := (uB.cell 18).trans (cf_g18 s)
  have qB_19 : W1.cell? ⟨B, 19, none⟩ = some (.int .i64 s.hi) := (uB.cell 19).trans (cf_g19 s)
  clear x1 uB
  refine wp_region_soft 13 (softsL [.eq (.slice Ar l.length cr), .eq (.pointer (some ⟨B, 0, none⟩)), .eq (.int .i64 s.site), .eq (.int .i64 (1000 + s.site)), .eq (.pointer (some ⟨B, 20, none⟩)), .eq (.int .i64 s.serial), .eq (.agg (cfC s)), readS (cfParts s), .eq (.pointer (some ⟨B, 21, none⟩)), .eq (.agg (dgC s.sl)), .eq (.pointer (some ⟨B, 18, none⟩)), .eq (.agg #[.int .i64 s.lo, .int .i64 s.hi]), .eq (.int .i64 R)]) (by kernel_rfl) (by kernel_rfl) (lt_cons ?_ (lt_cons ?_ (lt_cons ?_ (lt_cons ?_ (lt_cons ?_ (lt_cons ?_ (lt_cons ?_ (lt_cons ?_ (lt_cons ?_ (lt_cons ?_ (lt_cons ?_ (lt_cons ?_ (lt_cons ?_ (lt_none)))))))))))))) ?_
  any_goals (refine sop rfl fun xs W HW hsW HD Q' HQ => ?_; simp only [fillAt, dstOf, lc0, lcs, obs, Act.put, lsa, lsz, lss, nz, Nat.reduceAdd] at HQ ⊢)
  ·
   go_wp2
   exact HQ.out _ _ (eR _) rfl
  ·
   go_wp2
   exact HQ.out _ _ (eR _) rfl
  ·
   have hd1 : xs 1 = .pointer (some ⟨B, 0, none⟩) := (HD.out 1 (dk (by kernel_rfl)))
   generalize xs 1 = x1 at hd1 HQ ⊢; subst hd1
   have hc : W.cell? ⟨B, 0, none⟩ = some (.int .i64 s.site) := (HW.out.cell (p := ⟨B, 0, none⟩) (by show B < _; omega)).trans qB_0
   go_wp2
   exact HQ.out _ _ (eR _) rfl
  ·
   have hd2 : xs 2 = .int .i64 s.site := (HD.out 2 (dk (by kernel_rfl)))
   generalize xs 2 = x2 at hd2 HQ ⊢; subst hd2
   go_wp2
   exact HQ.out _ _ (eR _) rfl
  ·
   go_wp2
   exact HQ.out _ _ (eR _) rfl
  ·
   have hd4 : xs 4 = .pointer (some ⟨B, 20, none⟩) := (HD.out 4 (dk (by kernel_rfl)))
   generalize xs 4 = x4 at hd4 HQ ⊢; subst hd4
   have hc : W.cell? ⟨B, 20, none⟩ = some (.int .i64 s.serial) := (HW.out.cell (p := ⟨B, 20, none⟩) (by show B < _; omega)).trans qB_20
   go_wp2
   exact HQ.out _ _ (eR _) rfl
  ·
   have hc := (row_extW HW.out (b := B) (by omega) 0 37).trans kB_0_37
   go_wp2
   exact HQ.out _ _ (eR _) rfl
  ·
   have hd6 : xs 6 = .agg (cfC s) := (HD.out 6 (dk (by kernel_rfl)))
   generalize xs 6 = x6 at hd6 HQ ⊢; subst hd6
   go_wp2_with (go_at_call 60; refine (HP.out _).mono ?_; rintro e w1 ⟨A, c, rfl, h1, h2, hx⟩)
   exact HQ.out _ _ hx ⟨A, c, rfl, h1, h2⟩
  ·
   go_wp2
   exact HQ.out _ _ (eR _) rfl
  ·
   have hd8 : xs 8 = .pointer (some ⟨B, 21, none⟩) := (HD.out 8 (dk (by kernel_rfl)))
   generalize xs 8 = x8 at hd8 HQ ⊢; subst hd8
   have hc := (row_extW HW.out (b := B) (by omega) 21 16).trans kB_21_16
   go_wp2
   exact HQ.out _ _ (eR _) rfl
  ·
   go_wp2
   exact HQ.out _ _ (eR _) rfl
  ·
   have hd10 : xs 10 = .pointer (some ⟨B, 18, none⟩) := (HD.out 10 (dk (by kernel_rfl)))
   generalize xs 10 = x10 at hd10 HQ ⊢; subst hd10
   have hc := (HW.out.cell (p := ⟨B, 18, none⟩) (by show B < _; omega)).trans qB_18
   have hc2 := (HW.out.cell (p := ⟨B, 19, none⟩) (by show B < _; omega)).trans qB_19
   go_wp2
   exact HQ.out _ _ (eR _) rfl
  ·
   have hd0 : xs 0 = .slice Ar l.length cr := (HD.out 0 (dk (by kernel_rfl)))
   generalize xs 0 = x0 at hd0 HQ ⊢; subst hd0
   have hd3 : xs 3 = .int .i64 (1000 + s.site) := (HD.out 3 (dk (by kernel_rfl)))
   generalize xs 3 = x3 at hd3 HQ ⊢; subst hd3
   have hd5 : xs 5 = .int .i64 s.serial := (HD.out 5 (dk (by kernel_rfl)))
   generalize xs 5 = x5 at hd5 HQ ⊢; subst hd5
   obtain ⟨A7, c7, h7, hr7, hz7⟩ : (readS (cfParts s)).S (xs 7) W := (HD.out 7 (dk (by kernel_rfl)))
   generalize xs 7 = x7 at h7 HQ ⊢; subst h7
   have hd9 : xs 9 = .agg (dgC s.sl) := (HD.out 9 (dk (by kernel_rfl)))
   generalize xs 9 = x9 at hd9 HQ ⊢; subst hd9
   have hd11 : xs 11 = .agg #[.int .i64 s.lo, .int .i64 s.hi] := (HD.out 11 (dk (by kernel_rfl)))
   generalize xs 11 = x11 at hd11 HQ ⊢; subst hd11
   go_wp2_with (go_at_call 65; refine (HC'.out A7 c7 _ hr7 hz7 (HX1.out.trans HW.out)).mono ?_; rintro e w1 ⟨rfl, hx⟩)
   exact HQ.out _ _ hx rfl
  intro xs W3 hW hS
  have h12 : xs 12 = .int .i64 R := hS 12 (by omega)
  simp only [fillAt, dstOf, lc0, lcs, obs, Act.put, lsa, lsz, lss, nz, Nat.reduceAdd, List.drop_succ_cons, List.drop_zero, List.drop_nil]
  generalize xs 12 = x12 at *; subst h12
  have HW3 := lh (HX1.out.trans hW)
  have HWW3 := lh hW
  clear hS hW qB_0 qB_20 kB_0_37 kB_21_16 qB_18 qB_19
  go_wp2
  go_ret
  exact ⟨ret_int HO'.out.symm, (by (with_reducible repeat first|exact HW3.out|exact eR _|apply eD|apply eN|apply eA|apply eO|apply eS|apply eC);all_goals first|omega|simp <;> omega)⟩
def leLo (s : Le) : Int := if 1 ≤ s.until_ then s.until_ - 1 else -1
def leHi (s : Le) : Int := if 1 ≤ s.until_ then s.until_ - 1 else 0
noncomputable def checkLe (l : List Ky) (s : Le) : Int := if siteB s.site = true then checkR l 1 s.serial 43 (leParts s) s.sl (leLo s) (leHi s) else 1
theorem chk_never {l : List Ky} (h : RingOk l) {p s tag : Int} {parts : List ByteArray} {sel : List Int} {lo hi : Int} (hh : lo < 0 ∨ 1099511627776 ≤ hi) : checkR l p s tag parts sel lo hi = if keyE l p s = 0 then 9 else keyE l p s := by
 unfold checkR checkOut
 by_cases h0 : keyE l p s = 0
 ·rw [if_pos h0, if_pos h0]
  have hc : countB (keyF l p s) lo hi = false := by
   cases hk : keyN l p s with
   | none => unfold keyE at h0; rw [hk] at h0; simp at h0
   | some k =>
    have hu := okKy_lims (h.ok k (keyN_zero hk).1)
    have e : keyF l p s = k := by unfold keyF; rw [hk]; rfl
    rw [e]
    cases hb : countB k lo hi with
    | false => rfl
    | true =>
     simp only [countB, Bool.and_eq_true, decide_eq_true_eq] at hb
     omega
  rw [hc, if_neg (by decide)]
 ·rw [if_neg h0, if_neg h0]
theorem scheckLe_any (Ar : Option Addr) (cr : Nat) (l : List Ky) (s : Le) (w : World) (hg : RingOk l) (hrk : ReadsKy w w.heap.size Ar l) (hs : LeOk s) (hk : KonstP w) :
  Calls Tryz.prog 83 #[.slice Ar l.length cr, .agg (leC s)] w fun e w' => e = .returned (.int .i64 (checkLe l s)) ∧ Ext w w' := by
 have HP := lh (fun W => lparts_any s W hs.ints)
 have HS := lh (fun W => ssite_any s.site W)
 have hpl := leParts_lens s
 have hser : i64 s.serial := hs.ints _ (by simp [leInts])
 obtain ⟨hu0, hu1⟩ : i64 s.until_ := hs.ints _ (by simp [leInts])
 have HC := lh (fun (lo hi : Int) (A : Option Addr) (c : Nat) (W : World) (h1 : ReadsStr W W.heap.size A (leParts s)) (h2 : A = none → c = 0) (hx : Ext w W) => scheck_ring Ar cr l 1 s.serial 43 A c (leParts s) s.sl lo hi W hg (hrk.on hx) (by unfold small40; omega) hser hs.sl h1 h2 (by omega) (RowAt.ext hk hx))
 have HO : Hid (checkLe l s = if siteB s.site = true then checkR l 1 s.serial 43 (leParts s) s.sl (leLo s) (leHi s) else 1) := lh rfl
 have HLo : Hid (leLo s = if 1 ≤ s.until_ then s.until_ - 1 else -1) := lh rfl
 have HHi : Hid (leHi s = if 1 ≤ s.until_ then s.until_ - 1 else 0) := lh rfl
 have hft := le_fits s
 generalize checkLe l s = O at *
 clear hg hrk hs hk hpl hser
 cases hb : siteB s.site with
 | false =>
  rw [hb] at HS HO
  have HO' : Hid (O = 1) := lh (by rw [HO.out]; simp)
  clear HO hb
  go_enter Tryz.func83, Tryz.ntmps83
  go_wp2_with (go_at_call 129; refine (HS.out _).mono ?_; rintro e w' ⟨rfl, hxl⟩; obtain ⟨xl, rfl⟩ := hxl.asLater; clear hxl)
  go_ret
  exact ⟨ret_int HO'.out.symm, (by (with_reducible repeat first|exact eR _|apply eD|apply eN|apply eA|apply eO|apply eS|apply eC);all_goals first|omega|simp <;> omega)⟩
 | true =>
  rw [hb] at HS HO
  have HO' : Hid (O = checkR l 1 s.serial 43 (leParts s) s.sl (leLo s) (leHi s)) := lh (by rw [HO.out]; simp)
  clear HO hb
  by_cases h1 : 1 ≤ s.until_
  ·have HLo' : Hid (leLo s = s.until_ - 1) := lh (by rw [HLo.out, if_pos h1])
   have HHi' : Hid (leHi s = s.until_ - 1) := lh (by rw [HHi.out, if_pos h1])
   rw [HLo'.out, HHi'.out] at HO'
   have HC' := lh (HC.out (s.until_ - 1) (s.until_ - 1))
   generalize checkR l 1 s.serial 43 (leParts s) s.sl (s.until_ - 1) (s.until_ - 1) = R at *
   clear HLo HHi HLo' HHi' HC
   go_enter Tryz.func83, Tryz.ntmps83
   go_upto_region 6 with (go_at_call 129; refine (HS.out _).mono ?_; rintro e w' ⟨rfl, hxl⟩; obtain ⟨xl, rfl⟩ := hxl.asLater; clear hxl)
   refine wp_world (fun W => Ext w W ∧ RowAt W w.heap.size (leC s) ∧ RowAt W (w.heap.size + 1 + xl.n) #[(.int .i64 (s.until_ - 1)), (.int .i64 (s.until_ - 1))]) ⟨(by (with_reducible repeat first|exact eR _|apply eD|apply eN|apply eA|apply eO|apply eS|apply eC);all_goals first|omega|simp <;> omega), ((RowAt.new _ _ _).later _).alloc _, RowAt.newAt (by simp [later_size])⟩ ?_
   obtain ⟨B, hB⟩ : ∃ B, w.heap.size = B := ⟨_, rfl⟩
   obtain ⟨g, hg⟩ : ∃ g, w.heap.size + 1 + xl.n = g := ⟨_, rfl⟩
   rw [hg, hB]
   clear hg
   rintro W1 ⟨x1, uB, ug⟩
   have HX1 := lh x1
   have hlu := uB.lt
   have hlg := ug.lt
   have qB_3 : W1.cell? ⟨B, 3, none⟩ = some (.int .i64 s.serial) := (uB.cell 3).trans (le_g3 s)
   have kB_0_20 : rowOf W1 B 0 20 = some (leC s) := uB.all rfl (by omega)
   have kB_4_16 : rowOf W1 B 4 16 = some (dgC s.sl) := by rw [uB.row, if_neg (by omega), le_s4_16]
   have g0 : W1.cell? ⟨g, 0, none⟩ = some (.int .i64 (s.until_ - 1)) := ug.cell 0
   have g1 : W1.cell? ⟨g, 1, none⟩ = some (.int .i64 (s.until_ - 1)) := ug.cell 1
   clear x1 uB ug
   refine wp_region_soft 9 (softsL [.eq (.slice Ar l.length cr), .eq (.pointer (some ⟨B, 3, none⟩)), .eq (.int .i64 s.serial), .eq (.agg (leC s)), readS (leParts s), .eq (.pointer (some ⟨B, 4, none⟩)), .eq (.agg (dgC s.sl)), .eq (.agg #[(.int .i64 (s.until_ - 1)), (.int .i64 (s.until_ - 1))]), .eq (.int .i64 R)]) (by kernel_rfl) (by kernel_rfl) (lt_cons ?_ (lt_cons ?_ (lt_cons ?_ (lt_cons ?_ (lt_cons ?_ (lt_cons ?_ (lt_cons ?_ (lt_cons ?_ (lt_cons ?_ (lt_none)))))))))) ?_
   any_goals (refine sop rfl fun xs W HW hsW HD Q' HQ => ?_; simp only [fillAt, dstOf, lc0, lcs, obs, Act.put, lsa, lsz, lss, nz, Nat.reduceAdd] at HQ ⊢)
   ·
    go_wp2
    exact HQ.out _ _ (eR _) rfl
   ·
    go_wp2
    exact HQ.out _ _ (eR _) rfl
   ·
    have hd1 : xs 1 = .pointer (some ⟨B, 3, none⟩) := (HD.out 1 (dk (by kernel_rfl)))
    generalize xs 1 = x1 at hd1 HQ ⊢; subst hd1
    have hc : W.cell? ⟨B, 3, none⟩ = some (.int .i64 s.serial) := (HW.out.cell (p := ⟨B, 3, none⟩) (by show B < _; omega)).trans qB_3
    go_wp2
    exact HQ.out _ _ (eR _) rfl
   ·
    have hc := (row_extW HW.out (b := B) (by omega) 0 20).trans kB_0_20
    go_wp2
    exact HQ.out _ _ (eR _) rfl
   ·
    have hd3 : xs 3 = .agg (leC s) := (HD.out 3 (dk (by kernel_rfl)))
    generalize xs 3 = x3 at hd3 HQ ⊢; subst hd3
    go_wp2_with (go_at_call 126; refine (HP.out _).mono ?_; rintro e w1 ⟨A, c, rfl, h1, h2, hx⟩)
    exact HQ.out _ _ hx ⟨A, c, rfl, h1, h2⟩
   ·
    go_wp2
    exact HQ.out _ _ (eR _) rfl
   ·
    have hd5 : xs 5 = .pointer (some ⟨B, 4, none⟩) := (HD.out 5 (dk (by kernel_rfl)))
    generalize xs 5 = x5 at hd5 HQ ⊢; subst hd5
    have hc := (row_extW HW.out (b := B) (by omega) 4 16).trans kB_4_16
    go_wp2
    exact HQ.out _ _ (eR _) rfl
   ·
    have hc := (HW.out.cell (p := ⟨g, 0, none⟩) (by show g < _; omega)).trans g0
    have hc2 := (HW.out.cell (p := ⟨g, 1, none⟩) (by show g < _; omega)).trans g1
    go_wp2
    exact HQ.out _ _ (eR _) rfl
   ·
    have hd0 : xs 0 = .slice Ar l.length cr := (HD.out 0 (dk (by kernel_rfl)))
    generalize xs 0 = x0 at hd0 HQ ⊢; subst hd0
    have hd2 : xs 2 = .int .i64 s.serial := (HD.out 2 (dk (by kernel_rfl)))
    generalize xs 2 = x2 at hd2 HQ ⊢; subst hd2
    obtain ⟨A4, c4, h4, hr4, hz4⟩ : (readS (leParts s)).S (xs 4) W := (HD.out 4 (dk (by kernel_rfl)))
    generalize xs 4 = x4 at h4 HQ ⊢; subst h4
    have hd6 : xs 6 = .agg (dgC s.sl) := (HD.out 6 (dk (by kernel_rfl)))
    generalize xs 6 = x6 at hd6 HQ ⊢; subst hd6
    have hd7 : xs 7 = .agg #[(.int .i64 (s.until_ - 1)), (.int .i64 (s.until_ - 1))] := (HD.out 7 (dk (by kernel_rfl)))
    generalize xs 7 = x7 at hd7 HQ ⊢; subst hd7
    go_wp2_with (go_at_call 65; refine (HC'.out A4 c4 _ hr4 hz4 (HX1.out.trans HW.out)).mono ?_; rintro e w1 ⟨rfl, hx⟩)
    exact HQ.out _ _ hx rfl
   intro xs W3 hW hS
   have h8 : xs 8 = .int .i64 R := hS 8 (by omega)
   simp only [fillAt, dstOf, lc0, lcs, obs, Act.put, lsa, lsz, lss, nz, Nat.reduceAdd, List.drop_succ_cons, List.drop_zero, List.drop_nil]
   generalize xs 8 = x8 at *; subst h8
   have HW3 := lh (HX1.out.trans hW)
   have HWW3 := lh hW
   clear hS hW qB_3 kB_0_20 kB_4_16 g0 g1
   go_wp2
   go_ret
   exact ⟨ret_int HO'.out.symm, (by (with_reducible repeat first|exact HW3.out|exact eR _|apply eD|apply eN|apply eA|apply eO|apply eS|apply eC);all_goals first|omega|simp <;> omega)⟩
  ·have HLo' : Hid (leLo s = -1) := lh (by rw [HLo.out, if_neg h1])
   have HHi' : Hid (leHi s = 0) := lh (by rw [HHi.out, if_neg h1])
   rw [HLo'.out, HHi'.out] at HO'
   have HC' := lh (HC.out (-1) 0)
   generalize checkR l 1 s.serial 43 (leParts s) s.sl (-1) 0 = R at *
   clear HLo HHi HLo' HHi' HC
   go_enter Tryz.func83, Tryz.ntmps83
   go_upto_region 6 with (go_at_call 129; refine (HS.out _).mono ?_; rintro e w' ⟨rfl, hxl⟩; obtain ⟨xl, rfl⟩ := hxl.asLater; clear hxl)
   refine wp_world (fun W => Ext w W ∧ RowAt W w.heap.size (leC s) ∧ RowAt W (w.heap.size + 1 + xl.n) #[(.int .i64 (-1)), (.int .i64 0)]) ⟨(by (with_reducible repeat first|exact eR _|apply eD|apply eN|apply eA|apply eO|apply eS|apply eC);all_goals first|omega|simp <;> omega), ((RowAt.new _ _ _).later _).alloc _, RowAt.newAt (by simp [later_size])⟩ ?_
   obtain ⟨B, hB⟩ : ∃ B, w.heap.size = B := ⟨_, rfl⟩
   obtain ⟨g, hg⟩ : ∃ g, w.heap.size + 1 + xl.n = g := ⟨_, rfl⟩
   rw [hg, hB]
   clear hg
   rintro W1 ⟨x1, uB, ug⟩
   have HX1 := lh x1
   have hlu := uB.lt
   have hlg := ug.lt
   have qB_3 : W1.cell? ⟨B, 3, none⟩ = some (.int .i64 s.serial) := (uB.cell 3).trans (le_g3 s)
   have kB_0_20 : rowOf W1 B 0 20 = some (leC s) := uB.all rfl (by omega)
   have kB_4_16 : rowOf W1 B 4 16 = some (dgC s.sl) := by rw [uB.row, if_neg (by omega), le_s4_16]
   have g0 : W1.cell? ⟨g, 0, none⟩ = some (.int .i64 (-1)) := ug.cell 0
   have g1 : W1.cell? ⟨g, 1, none⟩ = some (.int .i64 0) := ug.cell 1
   clear x1 uB ug
   refine wp_region_soft 9 (softsL [.eq (.slice Ar l.length cr), .eq (.pointer (some ⟨B, 3, none⟩)), .eq (.int .i64 s.serial), .eq (.agg (leC s)), readS (leParts s), .eq (.pointer (some ⟨B, 4, none⟩)), .eq (.agg (dgC s.sl)), .eq (.agg #[(.int .i64 (-1)), (.int .i64 0)]), .eq (.int .i64 R)]) (by kernel_rfl) (by kernel_rfl) (lt_cons ?_ (lt_cons ?_ (lt_cons ?_ (lt_cons ?_ (lt_cons ?_ (lt_cons ?_ (lt_cons ?_ (lt_cons ?_ (lt_cons ?_ (lt_none)))))))))) ?_
   any_goals (refine sop rfl fun xs W HW hsW HD Q' HQ => ?_; simp only [fillAt, dstOf, lc0, lcs, obs, Act.put, lsa, lsz, lss, nz, Nat.reduceAdd] at HQ ⊢)
   ·
    go_wp2
    exact HQ.out _ _ (eR _) rfl
   ·
    go_wp2
    exact HQ.out _ _ (eR _) rfl
   ·
    have hd1 : xs 1 = .pointer (some ⟨B, 3, none⟩) := (HD.out 1 (dk (by kernel_rfl)))
    generalize xs 1 = x1 at hd1 HQ ⊢; subst hd1
    have hc : W.cell? ⟨B, 3, none⟩ = some (.int .i64 s.serial) := (HW.out.cell (p := ⟨B, 3, none⟩) (by show B < _; omega)).trans qB_3
    go_wp2
    exact HQ.out _ _ (eR _) rfl
   ·
    have hc := (row_extW HW.out (b := B) (by omega) 0 20).trans kB_0_20
    go_wp2
    exact HQ.out _ _ (eR _) rfl
   ·
    have hd3 : xs 3 = .agg (leC s) := (HD.out 3 (dk (by kernel_rfl)))
    generalize xs 3 = x3 at hd3 HQ ⊢; subst hd3
    go_wp2_with (go_at_call 126; refine (HP.out _).mono ?_; rintro e w1 ⟨A, c, rfl, h1, h2, hx⟩)
    exact HQ.out _ _ hx ⟨A, c, rfl, h1, h2⟩
   ·
    go_wp2
    exact HQ.out _ _ (eR _) rfl
   ·
    have hd5 : xs 5 = .pointer (some ⟨B, 4, none⟩) := (HD.out 5 (dk (by kernel_rfl)))
    generalize xs 5 = x5 at hd5 HQ ⊢; subst hd5
    have hc := (row_extW HW.out (b := B) (by omega) 4 16).trans kB_4_16
    go_wp2
    exact HQ.out _ _ (eR _) rfl
   ·
    have hc := (HW.out.cell (p := ⟨g, 0, none⟩) (by show g < _; omega)).trans g0
    have hc2 := (HW.out.cell (p := ⟨g, 1, none⟩) (by show g < _; omega)).trans g1
    go_wp2
    exact HQ.out _ _ (eR _) rfl
   ·
    have hd0 : xs 0 = .slice Ar l.length cr := (HD.out 0 (dk (by kernel_rfl)))
    generalize xs 0 = x0 at hd0 HQ ⊢; subst hd0
    have hd2 : xs 2 = .int .i64 s.serial := (HD.out 2 (dk (by kernel_rfl)))
    generalize xs 2 = x2 at hd2 HQ ⊢; subst hd2
    obtain ⟨A4, c4, h4, hr4, hz4⟩ : (readS (leParts s)).S (xs 4) W := (HD.out 4 (dk (by kernel_rfl)))
    generalize xs 4 = x4 at h4 HQ ⊢; subst h4
    have hd6 : xs 6 = .agg (dgC s.sl) := (HD.out 6 (dk (by kernel_rfl)))
    generalize xs 6 = x6 at hd6 HQ ⊢; subst hd6
    have hd7 : xs 7 = .agg #[(.int .i64 (-1)), (.int .i64 0)] := (HD.out 7 (dk (by kernel_rfl)))
    generalize xs 7 = x7 at hd7 HQ ⊢; subst hd7
    go_wp2_with (go_at_call 65; refine (HC'.out A4 c4 _ hr4 hz4 (HX1.out.trans HW.out)).mono ?_; rintro e w1 ⟨rfl, hx⟩)
    exact HQ.out _ _ hx rfl
   intro xs W3 hW hS
   have h8 : xs 8 = .int .i64 R := hS 8 (by omega)
   simp only [fillAt, dstOf, lc0, lcs, obs, Act.put, lsa, lsz, lss, nz, Nat.reduceAdd, List.drop_succ_cons, List.drop_zero, List.drop_nil]
   generalize xs 8 = x8 at *; subst h8
   have HW3 := lh (HX1.out.trans hW)
   have HWW3 := lh hW
   clear hS hW qB_3 kB_0_20 kB_4_16 g0 g1
   go_wp2
   go_ret
   exact ⟨ret_int HO'.out.symm, (by (with_reducible repeat first|exact HW3.out|exact eR _|apply eD|apply eN|apply eA|apply eO|apply eS|apply eC);all_goals first|omega|simp <;> omega)⟩
theorem rcheckLe_any (Ar : Option Addr) (cr : Nat) (l : List Ky) (s : Le) (w : World) (hg : RingOk l) (hrk : ReadsKy w w.heap.size Ar l) (hs : LeOk s) (hk : RKonst w) :
  Calls Tryz.prog 36 #[.slice Ar l.length cr, .agg (leC s)] w fun e w' => e = .returned (.int .i64 (checkLe l s)) ∧ Ext w w' := by
 have HP := lh (fun W => rlparts_any s W hs.ints)
 have HS := lh (fun W => r4site_any s.site W)
 have hpl := leParts_lens s
 obtain ⟨hu0, hu1⟩ : i64 s.until_ := hs.ints _ (by simp [leInts])
 have HF := lh (fun (W : World) (hx : Ext w W) => rfind_any Ar cr l 1 s.serial W (by have := hg.len; omega) (hrk.on hx))
 have HC := lh (fun (lo hi : Int) (A : Option Addr) (c : Nat) (W : World) (h1 : ReadsStr W W.heap.size A (leParts s)) (h2 : A = none → c = 0) (hx : Ext w W) => rcheck_ring Ar cr l 1 s.serial 43 A c (leParts s) s.sl lo hi W hg (hrk.on hx) hs.sl h1 h2 (by omega) (RowAt.ext hk hx))
 have HO : Hid (checkLe l s = if siteB s.site = true then checkR l 1 s.serial 43 (leParts s) s.sl (leLo s) (leHi s) else 1) := lh rfl
 have HLo : Hid (leLo s = if 1 ≤ s.until_ then s.until_ - 1 else -1) := lh rfl
 have HHi : Hid (leHi s = if 1 ≤ s.until_ then s.until_ - 1 else 0) := lh rfl
 have HNv := lh (fun (h : leLo s < 0 ∨ 1099511627776 ≤ leHi s) => chk_never (p := 1) (s := s.serial) (tag := 43) (parts := leParts s) (sel := s.sl) hg h)
 have hft := le_fits s
 have hff := fnd_fits (keyF l 1 s.serial) (keyE l 1 s.serial)
 generalize checkLe l s = O at *
 clear hg hrk hs hk hpl
 cases hb : siteB s.site with
 | false =>
  rw [hb] at HS HO
  have HO' : Hid (O = 1) := lh (by rw [HO.out]; simp)
  clear HO hb
  go_enter Tryz.func36, Tryz.ntmps36
  go_wp2_with (go_at_call 61; refine (HS.out _).mono ?_; rintro e w' ⟨rfl, hxl⟩; obtain ⟨xl, rfl⟩ := hxl.asLater; clear hxl)
  go_ret
  exact ⟨ret_int HO'.out.symm, (by (with_reducible repeat first|exact eR _|apply eD|apply eN|apply eA|apply eO|apply eS|apply eC);all_goals first|omega|simp <;> omega)⟩
 | true =>
  rw [hb] at HS HO
  have HO' : Hid (O = checkR l 1 s.serial 43 (leParts s) s.sl (leLo s) (leHi s)) := lh (by rw [HO.out]; simp)
  clear HO hb
  by_cases h1 : 1 ≤ s.until_ ∧ s.until_ ≤ 1099511627776
  ·obtain ⟨h1, h2⟩ := h1
   have HLo' : Hid (leLo s = s.until_ - 1) := lh (by rw [HLo.out, if_pos h1])
   have HHi' : Hid (leHi s = s.until_ - 1) := lh (by rw [HHi.out, if_pos h1])
   rw [HLo'.out, HHi'.out] at HO'
   have HC' := lh (HC.out (s.until_ - 1) (s.until_ - 1))
   generalize checkR l 1 s.serial 43 (leParts s) s.sl (s.until_ - 1) (s.until_ - 1) = R at *
   clear HLo HHi HLo' HHi' HC HNv HF hff
   go_enter Tryz.func36, Tryz.ntmps36
   go_upto_region 9 with (go_at_call 61; refine (HS.out _).mono ?_; rintro e w' ⟨rfl, hxl⟩; obtain ⟨xl, rfl⟩ := hxl.asLater; clear hxl)
   refine wp_world (fun W => Ext w W ∧ RowAt W w.heap.size (leC s)) ⟨(by (with_reducible repeat first|exact eR _|apply eD|apply eN|apply eA|apply eO|apply eS|apply eC);all_goals first|omega|simp <;> omega), (RowAt.new _ _ _).later _⟩ ?_
   obtain ⟨B, hB⟩ : ∃ B, w.heap.size = B := ⟨_, rfl⟩
   rw [hB]
   rintro W1 ⟨x1, uB⟩
   have HX1 := lh x1
   have hlu := uB.lt
   have qB_2 : W1.cell? ⟨B, 2, none⟩ = some (.int .i64 s.until_) := (uB.cell 2).trans (le_g2 s)
   have qB_3 : W1.cell? ⟨B, 3, none⟩ = some (.int .i64 s.serial) := (uB.cell 3).trans (le_g3 s)
   have kB_0_20 : rowOf W1 B 0 20 = some (leC s) := uB.all rfl (by omega)
   have kB_4_16 : rowOf W1 B 4 16 = some (dgC s.sl) := by rw [uB.row, if_neg (by omega), le_s4_16]
   clear x1 uB
   refine wp_region_soft 15 (softsL [.eq (.slice Ar l.length cr), .eq (.pointer (some ⟨B, 3, none⟩)), .eq (.int .i64 s.serial), .eq (.agg (leC s)), readS (leParts s), .eq (.pointer (some ⟨B, 4, none⟩)), .eq (.agg (dgC s.sl)), .eq (.pointer (some ⟨B, 2, none⟩)), .eq (.int .i64 s.until_), .eq (.int .i64 (s.until_ - 1)), .eq (.pointer (some ⟨B, 2, none⟩)), .eq (.int .i64 s.until_), .eq (.int .i64 (s.until_ - 1)), .eq (.agg #[.int .i64 (s.until_ - 1), .int .i64 (s.until_ - 1)]), .eq (.int .i64 R)]) (by kernel_rfl) (by kernel_rfl) (lt_cons ?_ (lt_cons ?_ (lt_cons ?_ (lt_cons ?_ (lt_cons ?_ (lt_cons ?_ (lt_cons ?_ (lt_cons ?_ (lt_cons ?_ (lt_cons ?_ (lt_cons ?_ (lt_cons ?_ (lt_cons ?_ (lt_cons ?_ (lt_cons ?_ (lt_none)))))))))))))))) ?_
   any_goals (refine sop rfl fun xs W HW hsW HD Q' HQ => ?_; simp only [fillAt, dstOf, lc0, lcs, obs, Act.put, lsa, lsz, lss, nz, Nat.reduceAdd] at HQ ⊢)
   ·
    go_wp2
    exact HQ.out _ _ (eR _) rfl
   ·
    go_wp2
    exact HQ.out _ _ (eR _) rfl
   ·
    have hd1 : xs 1 = .pointer (some ⟨B, 3, none⟩) := (HD.out 1 (dk (by kernel_rfl)))
    generalize xs 1 = x1 at hd1 HQ ⊢; subst hd1
    have hc : W.cell? ⟨B, 3, none⟩ = some (.int .i64 s.serial) := (HW.out.cell (p := ⟨B, 3, none⟩) (by show B < _; omega)).trans qB_3
    go_wp2
    exact HQ.out _ _ (eR _) rfl
   ·
    have hc := (row_extW HW.out (b := B) (by omega) 0 20).trans kB_0_20
    go_wp2
    exact HQ.out _ _ (eR _) rfl
   ·
    have hd3 : xs 3 = .agg (leC s) := (HD.out 3 (dk (by kernel_rfl)))
    generalize xs 3 = x3 at hd3 HQ ⊢; subst hd3
    go_wp2_with (go_at_call 89; refine (HP.out _).mono ?_; rintro e w1 ⟨A, c, rfl, h1, h2, hx⟩)
    exact HQ.out _ _ hx ⟨A, c, rfl, h1, h2⟩
   ·
    go_wp2
    exact HQ.out _ _ (eR _) rfl
   ·
    have hd5 : xs 5 = .pointer (some ⟨B, 4, none⟩) := (HD.out 5 (dk (by kernel_rfl)))
    generalize xs 5 = x5 at hd5 HQ ⊢; subst hd5
    have hc := (row_extW HW.out (b := B) (by omega) 4 16).trans kB_4_16
    go_wp2
    exact HQ.out _ _ (eR _) rfl
   ·
    go_wp2
    exact HQ.out _ _ (eR _) rfl
   ·
    have hd7 : xs 7 = .pointer (some ⟨B, 2, none⟩) := (HD.out 7 (dk (by kernel_rfl)))
    generalize xs 7 = x7 at hd7 HQ ⊢; subst hd7
    have hc : W.cell? ⟨B, 2, none⟩ = some (.int .i64 s.until_) := (HW.out.cell (p := ⟨B, 2, none⟩) (by show B < _; omega)).trans qB_2
    go_wp2
    exact HQ.out _ _ (eR _) rfl
   ·
    have hd8 : xs 8 = .int .i64 s.until_ := (HD.out 8 (dk (by kernel_rfl)))
    generalize xs 8 = x8 at hd8 HQ ⊢; subst hd8
    go_wp2
    exact HQ.out _ _ (eR _) rfl
   ·
    go_wp2
    exact HQ.out _ _ (eR _) rfl
   ·
    have hd10 : xs 10 = .pointer (some ⟨B, 2, none⟩) := (HD.out 10 (dk (by kernel_rfl)))
    generalize xs 10 = x10 at hd10 HQ ⊢; subst hd10
    have hc : W.cell? ⟨B, 2, none⟩ = some (.int .i64 s.until_) := (HW.out.cell (p := ⟨B, 2, none⟩) (by show B < _; omega)).trans qB_2
    go_wp2
    exact HQ.out _ _ (eR _) rfl
   ·
    have hd11 : xs 11 = .int .i64 s.until_ := (HD.out 11 (dk (by kernel_rfl)))
    generalize xs 11 = x11 at hd11 HQ ⊢; subst hd11
    go_wp2
    exact HQ.out _ _ (eR _) rfl
   ·
    have hd9 : xs 9 = .int .i64 (s.until_ - 1) := (HD.out 9 (dk (by kernel_rfl)))
    generalize xs 9 = x9 at hd9 HQ ⊢; subst hd9
    have hd12 : xs 12 = .int .i64 (s.until_ - 1) := (HD.out 12 (dk (by kernel_rfl)))
    generalize xs 12 = x12 at hd12 HQ ⊢; subst hd12
    go_wp2
    exact HQ.out _ _ (eR _) rfl
   ·
    have hd0 : xs 0 = .slice Ar l.length cr := (HD.out 0 (dk (by kernel_rfl)))
    generalize xs 0 = x0 at hd0 HQ ⊢; subst hd0
    have hd2 : xs 2 = .int .i64 s.serial := (HD.out 2 (dk (by kernel_rfl)))
    generalize xs 2 = x2 at hd2 HQ ⊢; subst hd2
    obtain ⟨A4, c4, h4, hr4, hz4⟩ : (readS (leParts s)).S (xs 4) W := (HD.out 4 (dk (by kernel_rfl)))
    generalize xs 4 = x4 at h4 HQ ⊢; subst h4
    have hd6 : xs 6 = .agg (dgC s.sl) := (HD.out 6 (dk (by kernel_rfl)))
    generalize xs 6 = x6 at hd6 HQ ⊢; subst hd6
    have hd13 : xs 13 = .agg #[.int .i64 (s.until_ - 1), .int .i64 (s.until_ - 1)] := (HD.out 13 (dk (by kernel_rfl)))
    generalize xs 13 = x13 at hd13 HQ ⊢; subst hd13
    go_wp2_with (go_at_call 66; refine (HC'.out A4 c4 _ hr4 hz4 (HX1.out.trans HW.out)).mono ?_; rintro e w1 ⟨rfl, hx⟩)
    exact HQ.out _ _ hx rfl
   intro xs W3 hW hS
   have h14 : xs 14 = .int .i64 R := hS 14 (by omega)
   simp only [fillAt, dstOf, lc0, lcs, obs, Act.put, lsa, lsz, lss, nz, Nat.reduceAdd, List.drop_succ_cons, List.drop_zero, List.drop_nil]
   generalize xs 14 = x14 at *; subst h14
   have HW3 := lh (HX1.out.trans hW)
   have HWW3 := lh hW
   clear hS hW qB_2 qB_3 kB_0_20 kB_4_16
   go_wp2
   go_ret
   exact ⟨ret_int HO'.out.symm, (by (with_reducible repeat first|exact HW3.out|exact eR _|apply eD|apply eN|apply eA|apply eO|apply eS|apply eC);all_goals first|omega|simp <;> omega)⟩
  ·have HNv' := lh (HNv.out (by rw [HLo.out, HHi.out]; by_cases h : 1 ≤ s.until_ <;> simp only [h, if_true, if_false] <;> omega))
   have HO2 : Hid (O = if keyE l 1 s.serial = 0 then 9 else keyE l 1 s.serial) := lh (HO'.out.trans HNv'.out)
   clear HLo HHi HC HNv HNv' HO' HP
   generalize keyF l 1 s.serial = kf at *
   generalize keyE l 1 s.serial = ef at *
   by_cases h2 : s.until_ < 1
   ·by_cases b0 : ef = 0
    ·subst b0
     have HO3 : Hid (O = 9) := lh (by rw [HO2.out, if_pos rfl])
     clear HO2
     go_enter Tryz.func36, Tryz.ntmps36
     go_wp2_with (first
      | (go_at_call 61; refine (HS.out _).mono ?_; rintro e w' ⟨rfl, hxl⟩; obtain ⟨xl, rfl⟩ := hxl.asLater; clear hxl)
      | (go_at_call 92; refine (HF.out _ (by (with_reducible repeat first|exact eR _|apply eD|apply eN|apply eA|apply eO|apply eS|apply eC);all_goals first|omega|simp <;> omega)).mono ?_; rintro e w' ⟨rfl, hxl⟩; obtain ⟨xm, rfl⟩ := hxl.asLater; clear hxl))
     go_ret
     exact ⟨ret_int HO3.out.symm, (by (with_reducible repeat first|exact eR _|apply eD|apply eN|apply eA|apply eO|apply eS|apply eC);all_goals first|omega|simp <;> omega)⟩
    ·have HO3 : Hid (O = ef) := lh (by rw [HO2.out, if_neg b0])
     have e0 : (ef != 0) = true := by simpa using b0
     clear HO2 b0
     go_enter Tryz.func36, Tryz.ntmps36
     go_wp2_with (first
      | (go_at_call 61; refine (HS.out _).mono ?_; rintro e w' ⟨rfl, hxl⟩; obtain ⟨xl, rfl⟩ := hxl.asLater; clear hxl)
      | (go_at_call 92; refine (HF.out _ (by (with_reducible repeat first|exact eR _|apply eD|apply eN|apply eA|apply eO|apply eS|apply eC);all_goals first|omega|simp <;> omega)).mono ?_; rintro e w' ⟨rfl, hxl⟩; obtain ⟨xm, rfl⟩ := hxl.asLater; clear hxl))
     go_ret
     exact ⟨ret_int HO3.out.symm, (by (with_reducible repeat first|exact eR _|apply eD|apply eN|apply eA|apply eO|apply eS|apply eC);all_goals first|omega|simp <;> omega)⟩
   ·have h3 : 1099511627776 < s.until_ := by omega
    by_cases b0 : ef = 0
    ·subst b0
     have HO3 : Hid (O = 9) := lh (by rw [HO2.out, if_pos rfl])
     clear HO2
     go_enter Tryz.func36, Tryz.ntmps36
     go_wp2_with (first
      | (go_at_call 61; refine (HS.out _).mono ?_; rintro e w' ⟨rfl, hxl⟩; obtain ⟨xl, rfl⟩ := hxl.asLater; clear hxl)
      | (go_at_call 92; refine (HF.out _ (by (with_reducible repeat first|exact eR _|apply eD|apply eN|apply eA|apply eO|apply eS|apply eC);all_goals first|omega|simp <;> omega)).mono ?_; rintro e w' ⟨rfl, hxl⟩; obtain ⟨xm, rfl⟩ := hxl.asLater; clear hxl))
     go_ret
     exact ⟨ret_int HO3.out.symm, (by (with_reducible repeat first|exact eR _|apply eD|apply eN|apply eA|apply eO|apply eS|apply eC);all_goals first|omega|simp <;> omega)⟩
    ·have HO3 : Hid (O = ef) := lh (by rw [HO2.out, if_neg b0])
     have e0 : (ef != 0) = true := by simpa using b0
     clear HO2 b0
     go_enter Tryz.func36, Tryz.ntmps36
     go_wp2_with (first
      | (go_at_call 61; refine (HS.out _).mono ?_; rintro e w' ⟨rfl, hxl⟩; obtain ⟨xl, rfl⟩ := hxl.asLater; clear hxl)
      | (go_at_call 92; refine (HF.out _ (by (with_reducible repeat first|exact eR _|apply eD|apply eN|apply eA|apply eO|apply eS|apply eC);all_goals first|omega|simp <;> omega)).mono ?_; rintro e w' ⟨rfl, hxl⟩; obtain ⟨xm, rfl⟩ := hxl.asLater; clear hxl))
     go_ret
     exact ⟨ret_int HO3.out.symm, (by (with_reducible repeat first|exact eR _|apply eD|apply eN|apply eA|apply eO|apply eS|apply eC);all_goals first|omega|simp <;> omega)⟩
end Go.Proofs.YtpfhmcdcmepfdaaGreatDoor