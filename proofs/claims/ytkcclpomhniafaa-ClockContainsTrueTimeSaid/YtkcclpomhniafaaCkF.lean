/- Walks of the clock: the iterator over the paces. -/
import Derived.Test.YtkcclpomhniafaaRows
import Derived.Test.YtkcclpomhniafaaExt
import Derived.WalkKit
import Derived.WalkSpells
import Derived.WalkLawsBesides
import Derived.Deep.QuietTactic
import Derived.BigQuiet
import Derived.RangeFuncNested
import Derived.RangeFuncBound
import Derived.RangeFuncCalls
import Derived.RangeFuncLeaves
import Derived.Shelf.Abstract
import Derived.Shelf.RegionOpen
import Derived.OwnWalkIn
import Derived.TacticsInMore
import Derived.LoopNIn
import Derived.LoopIn
import Derived.Test.YtkcclpomhniafaaRf
import Derived.Test.YtkcclpomhniafaaCkE
set_option linter.unusedVariables false
set_option linter.unusedSimpArgs false
namespace Go.Proofs.Ytkcclpomhniafaa
open Go.RowKit Go.Shelf
attribute [local go_sem] Oper.semAt_some

def shStep (s : Int × Int) (p : Int × Int) : Int × Int := (s.1 + min p.1 s.2 * (1000000 + p.2), s.2 - min p.1 s.2)
def shFold (ps : List (Int × Int)) (t : Int) : Int × Int := ps.foldl shStep (0, t)
theorem shFold_snoc (ps : List (Int × Int)) (t : Int) (k : Nat) (h : k < ps.length) : shFold (ps.take (k + 1)) t = shStep (shFold (ps.take k) t) ps[k] := by
  unfold shFold
  rw [List.take_succ_eq_append_getElem h, List.foldl_append]; rfl

theorem shFold_bd (ps : List (Int × Int)) (t : Int) (ht : 0 ≤ t) (k : Nat) (hok : ps.all (okPace 100000) = true) :
    0 ≤ (shFold (ps.take k) t).2 ∧ (shFold (ps.take k) t).2 ≤ t ∧ 0 ≤ (shFold (ps.take k) t).1 ∧ (shFold (ps.take k) t).1 ≤ (t - (shFold (ps.take k) t).2) * 1100000 := by
  induction k with
  | zero => simp [shFold]; omega
  | succ k ih =>
    by_cases hlt : k < ps.length
    · rw [shFold_snoc ps t k hlt]
      have hokk : okPace 100000 ps[k] = true := List.all_eq_true.1 hok _ (List.getElem_mem hlt)
      rw [okPace_iff] at hokk
      generalize shFold (ps.take k) t = s at *
      generalize ps[k] = x at *
      obtain ⟨s1, s2⟩ := s
      obtain ⟨x1, x2⟩ := x
      simp only [shStep] at *
      have h0 : 0 ≤ min x1 s2 := by omega
      have h1 : 0 ≤ min x1 s2 * (1000000 + x2) := Int.mul_nonneg h0 (by omega)
      have h2 : min x1 s2 * (1000000 + x2) ≤ min x1 s2 * 1100000 := Int.mul_le_mul_of_nonneg_left (by omega) h0
      refine ⟨by omega, by omega, by omega, ?_⟩
      omega
    · rw [List.take_of_length_le (by omega)]
      rw [List.take_of_length_le (by omega)] at ih
      exact ih

set_option maxRecDepth 100000 in
set_option maxHeartbeats 1000000 in
theorem parts1_in (F : Fence) (n : Nat) (hF : F.fn 47) (hro : F.round = none) (hn : 1 ≤ n) (l bl bt bp n0 : Nat) (A : Option Addr) (c : Nat) (ps : List (Int × Int)) (t p0 : Int) (W : World)
    (hlen : ps.length ≤ 100) (ht : 0 ≤ t) (ht1 : t ≤ 1099511627776) (hok : ps.all (okPace 100000) = true)
    (h1 : n0 ≤ bt) (h2 : n0 ≤ bp) (h3 : n0 ≤ bl) (h4 : n0 ≤ l) (h5 : bt ≠ bp) (h6 : bl ≠ bp) (h7 : bl ≠ bt) (h8 : l ≠ bp) (h9 : l ≠ bt)
    (hl : Boxed W bl 46 (.slice A ps.length c)) (hbt : Boxed W bt 3 (.int .i64 t)) (hbp : Boxed W bp 3 (.int .i64 0)) (hr : PReads W n0 A ps)
    (hn0 : n0 ≤ W.heap.size) (rec : Loop) (hrec : W.heap[l]? = some (.loop rec))
    (hY : ∀ (x : Int × Int) (p : Int) (W1 : World), W1.heap[l]? = some (.loop rec) → Boxed W1 bp 3 (.int .i64 p) → 0 ≤ p → p ≤ 1209462790553600000 → 0 ≤ x.1 → x.1 ≤ 1099511627776 → x.2 ≤ 100000 → -100000 ≤ x.2 →
      YieldAt F (n - 1) Try.prog l #[.agg #[.int .i64 x.1, .int .i64 x.2]] W1 fun e W' => e = .returned (.bool true) ∧ ButS (· = bp) W1 W' ∧ Boxed W' bp 3 (.int .i64 (p + x.1 * (1000000 + x.2)))) :
    CallsIn F n Try.prog 47 #[.func (.yield l) #[] #[], .pointer (some ⟨bl, 0, none⟩), .pointer (some ⟨bt, 0, none⟩)] W fun e W' => (∃ v, e = .returned v) ∧
      ButS (fun k => k = bp ∨ k = bt) W W' ∧ Boxed W' bp 3 (.int .i64 ((shFold ps t).1 + (shFold ps t).2 * 1000000)) := by
  refine callsIn_of_wp Try.func47 rfl hF ?_ hro
  simp only [Try.ntmps47, List.size_toArray, List.length_cons, List.length_nil, Nat.reduceAdd, Nat.reduceSub, Array.replicate_succ, Array.replicate_zero, List.push_toArray, List.append_toArray, List.nil_append, List.cons_append]
  have hcl := hl.cell
  gi_wp2
  gi_loopw [8] (fun i wr => ∃ k : Nat, k ≤ ps.length ∧ i = .int .i64 k ∧ ButS (fun k => k = bp ∨ k = bt) W wr ∧ Boxed wr bp 3 (.int .i64 (shFold (ps.take k) t).1) ∧ Boxed wr bt 3 (.int .i64 (shFold (ps.take k) t).2))
    (fun i _ => ps.length - (intOf i).toNat)
  case atStart => exact ⟨0, Nat.zero_le _, rfl, ButS.refl _ _, hbp, hbt⟩
  case round =>
    obtain ⟨k, hk, rfl, hS, hp, ht'⟩ := hrel
    have HS := Lib.hid hS
    clear hS
    by_cases hlt : k < ps.length
    · obtain ⟨b, off, rfl, hb, hc⟩ := hr (by omega)
      have hc1 : wr.cell? ⟨b, off + k * 2, none⟩ = some (.int .i64 (ps.getD k (0, 0)).1) := (HS.out.cell (p := ⟨b, off + k * 2, none⟩) (by show b < _; omega) (by show ¬ (b = bp ∨ b = bt); omega)).trans (hc k hlt).1
      have hc2 : wr.cell? ⟨b, off + k * 2 + 1, none⟩ = some (.int .i64 (ps.getD k (0, 0)).2) := (HS.out.cell (p := ⟨b, off + k * 2 + 1, none⟩) (by show b < _; omega) (by show ¬ (b = bp ∨ b = bt); omega)).trans (hc k hlt).2
      have hg : ps.getD k (0, 0) = ps[k] := by simp [hlt]
      rw [hg] at hc1 hc2
      have hokk : okPace 100000 ps[k] = true := List.all_eq_true.1 hok _ (List.getElem_mem hlt)
      rw [okPace_iff] at hokk
      obtain ⟨e1, e2, e3, e4⟩ := hokk
      have HN := Lib.hid (shFold_snoc ps t k hlt)
      have hbd := shFold_bd ps t ht k hok
      obtain ⟨g1, g2, g3, g4⟩ := hbd
      generalize shFold (ps.take k) t = s at *
      generalize ps[k] = x at hc1 hc2 e1 e2 e3 e4 HN
      obtain ⟨s1, s2⟩ := s
      obtain ⟨x1, x2⟩ := x
      simp only [] at hc1 hc2 e1 e2 e3 e4 g1 g2 g3 g4 hp ht'
      have hct := ht'.cell
      have hft := ht'.frozen
      have hlt' := ht'.lt
      have HY := Lib.hid hY
      have HO := Lib.hid hok
      have HC := Lib.hid hc
      clear hg hc hY hok hcl
      by_cases hmin : s2 < x1
      · have hq : min x1 s2 = s2 := by omega
        have HQ := Lib.hid hq
        clear hq
        have hB2 : ButS (fun k => k = bp ∨ k = bt) W ((wr.setCell ⟨bt, 0, none⟩ (.int .i64 (0))).alloc (.cells #[.int .i64 s2, .int .i64 x2] 70)) := (HS.out.setCell (p := ⟨bt, 0, none⟩) (.inl (.inr rfl)) _).alloc _
        have hp2 : Boxed ((wr.setCell ⟨bt, 0, none⟩ (.int .i64 (0))).alloc (.cells #[.int .i64 s2, .int .i64 x2] 70)) bp 3 (.int .i64 s1) := (hp.other (Ne.symm h5) _).alloc _
        have ht2 : Boxed ((wr.setCell ⟨bt, 0, none⟩ (.int .i64 (0))).alloc (.cells #[.int .i64 s2, .int .i64 x2] 70)) bt 3 (.int .i64 (0)) := (ht'.set _).alloc _
        obtain ⟨fn, tmps, assign, body, hy, hR⟩ := HY.out (s2, x2) s1 _ ((hB2.block l (Array.getElem?_eq_some_iff.1 hrec).1 (by omega)).trans hrec) hp2 g3 (by omega) (by show 0 ≤ s2; omega) (by show s2 ≤ _; omega) e3 e4
        have HB2 := Lib.hid hB2
        have HP2 := Lib.hid hp2
        have HT2 := Lib.hid ht2
        clear hB2 hp2 ht2
        gi_wp2
        refine hR.mono ?_
        rintro e W' ⟨rfl, hB3, hp3⟩
        have HB3 := Lib.hid hB3
        have HP3 := Lib.hid hp3
        clear hB3 hp3 hy hR
        gi_wp2
        go_roundw
        case rel => exact ⟨k + 1, by omega, by go_num, HB2.out.trans (HB3.out.mono (fun _ _ e => .inl e)), by rw [HN.out]; simp only [shStep, HQ.out]; exact HP3.out, by rw [HN.out]; simp only [shStep, HQ.out]; exact HB3.out.boxed (by simpa using HT2.out) h5⟩
        case measure => simp [intOf]; omega
      · have hq : min x1 s2 = x1 := by omega
        have HQ := Lib.hid hq
        clear hq
        have hB2 : ButS (fun k => k = bp ∨ k = bt) W ((wr.setCell ⟨bt, 0, none⟩ (.int .i64 (s2 - x1))).alloc (.cells #[.int .i64 x1, .int .i64 x2] 70)) := (HS.out.setCell (p := ⟨bt, 0, none⟩) (.inl (.inr rfl)) _).alloc _
        have hp2 : Boxed ((wr.setCell ⟨bt, 0, none⟩ (.int .i64 (s2 - x1))).alloc (.cells #[.int .i64 x1, .int .i64 x2] 70)) bp 3 (.int .i64 s1) := (hp.other (Ne.symm h5) _).alloc _
        have ht2 : Boxed ((wr.setCell ⟨bt, 0, none⟩ (.int .i64 (s2 - x1))).alloc (.cells #[.int .i64 x1, .int .i64 x2] 70)) bt 3 (.int .i64 (s2 - x1)) := (ht'.set _).alloc _
        obtain ⟨fn, tmps, assign, body, hy, hR⟩ := HY.out (x1, x2) s1 _ ((hB2.block l (Array.getElem?_eq_some_iff.1 hrec).1 (by omega)).trans hrec) hp2 g3 (by omega) (by show 0 ≤ x1; omega) (by show x1 ≤ _; omega) e3 e4
        have HB2 := Lib.hid hB2
        have HP2 := Lib.hid hp2
        have HT2 := Lib.hid ht2
        clear hB2 hp2 ht2
        gi_wp2
        refine hR.mono ?_
        rintro e W' ⟨rfl, hB3, hp3⟩
        have HB3 := Lib.hid hB3
        have HP3 := Lib.hid hp3
        clear hB3 hp3 hy hR
        gi_wp2
        go_roundw
        case rel => exact ⟨k + 1, by omega, by go_num, HB2.out.trans (HB3.out.mono (fun _ _ e => .inl e)), by rw [HN.out]; simp only [shStep, HQ.out]; exact HP3.out, by rw [HN.out]; simp only [shStep, HQ.out]; exact HB3.out.boxed (by simpa using HT2.out) h5⟩
        case measure => simp [intOf]; omega
    · have : k = ps.length := by omega
      subst this
      rw [List.take_length] at hp ht'
      have hbd := shFold_bd ps t ht ps.length hok
      rw [List.take_length] at hbd
      obtain ⟨g1, g2, g3, g4⟩ := hbd
      have HY := Lib.hid hY
      generalize hs : shFold ps t = s at *
      have HSE := Lib.hid hs
      clear hs
      obtain ⟨s1, s2⟩ := s
      simp only [] at g1 g2 g3 g4 hp ht'
      have hct := ht'.cell
      have HO := Lib.hid hok
      clear hY hok hcl
      gi_wp2
      obtain ⟨fn, tmps, assign, body, hy, hR⟩ := HY.out (s2, 0) s1 wr ((HS.out.block l (Array.getElem?_eq_some_iff.1 hrec).1 (by omega)).trans hrec) hp g3 (by omega) g1 (by omega) (by show (0 : Int) ≤ 100000; omega) (by show (-100000 : Int) ≤ 0; omega)
      rw [hy]
      gi_wp2
      refine hR.mono ?_
      rintro e W' ⟨rfl, hB3, hp3⟩
      gi_wp2
      go_end0
      refine ⟨⟨_, rfl⟩, HS.out.trans (hB3.mono (fun _ _ e => .inl e)), ?_⟩
      rw [HSE.out]
      simpa using hp3
end Go.Proofs.Ytkcclpomhniafaa
