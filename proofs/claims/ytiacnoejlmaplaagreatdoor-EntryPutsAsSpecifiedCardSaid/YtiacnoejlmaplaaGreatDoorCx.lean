/- ranges.cut: the iterator. -/
import Derived.Test.YtiacnoejlmaplaaGreatDoorProg
import Derived.Test.YtiacnoejlmaplaaGreatDoorExt
import Derived.WalkKit
import Derived.WalkSpells
import Derived.WalkLawsBesides
import Derived.Deep.QuietTactic
import Derived.BigQuiet
import Derived.RangeFuncNested
import Derived.RangeFuncBound
import Derived.RangeFuncCalls
import Derived.RangeFuncLeaves
import Derived.Shelf.Abstract
import Derived.Shelf.RegionOpen
import Derived.OwnWalkIn
import Derived.TacticsInMore
import Derived.LoopNIn
import Derived.LoopIn
import Derived.Test.YtiacnoejlmaplaaGreatDoorCw
import Derived.Test.YtiacnoejlmaplaaGreatDoorExi
set_option linter.unusedVariables false
set_option linter.unusedSimpArgs false
namespace Go.Proofs.YtiacnoejlmaplaaGreatDoor
open Go.RowKit Go.Shelf
open Go.Proofs
open Go.Proofs.Sp (Sp)
attribute [local go_sem] Oper.semAt_some

/-- The ends of the spans of two sets, in order, each once. -/
def endsOf (l1 l2 : List Sp) : List Int := Lib.compact (msort (Sp.ends (l1 ++ l2)))
theorem ends_length (l : List Sp) : (Sp.ends l).length = l.length * 2 := by
  induction l with
  | nil => rfl
  | cons s l ih => simp only [Sp.ends, List.flatMap_cons, List.length_append, List.length_cons, List.length_nil] at ih ⊢; omega
theorem ends_snoc (l : List Sp) (k : Nat) (h : k < l.length) : Sp.ends (l.take (k + 1)) = Sp.ends (l.take k) ++ [l[k].1, l[k].2] := by
  unfold Sp.ends
  rw [List.take_succ_eq_append_getElem h, List.flatMap_append]; rfl
theorem endsOf_length (l1 l2 : List Sp) : (endsOf l1 l2).length ≤ (l1.length + l2.length) * 2 := by
  have := Lib.compact_length_le (msort (Sp.ends (l1 ++ l2)))
  rw [msort_length, ends_length, List.length_append] at this
  exact this
theorem endsOf_sorted (l1 l2 : List Sp) : (endsOf l1 l2).Pairwise (· < ·) := (compact_spec _ (msort_sorted _)).1
theorem endsOf_mem (l1 l2 : List Sp) (x : Int) : x ∈ endsOf l1 l2 ↔ x ∈ Sp.ends (l1 ++ l2) := ((compact_spec _ (msort_sorted _)).2 x).trans (msort_mem _ x)
def CutS (bo B : Nat) (b : Nat) : Prop := b = bo ∨ B ≤ b
def PastTo (l : List Sp) (E : List Int) (n i : Nat) : Prop := ∀ q, ∀ h : q < l.length, q < i → ∀ hn : n - 1 < E.length, l[q].2 ≤ E[n - 1]
def CutRel (J : Nat → World → Prop) (bo : Nat) (l1 l2 : List Sp) (E : List Int) (W1 : World) (vi vj vn : Value) (wr : World) : Prop :=
  ∃ i j n : Nat, vi = .int .i64 i ∧ vj = .int .i64 j ∧ vn = .int .i64 n ∧ 1 ≤ n ∧ (n ≤ E.length ∨ n = 1) ∧ i ≤ l1.length ∧ j ≤ l2.length ∧ Hid (PastTo l1 E n i) ∧ Hid (PastTo l2 E n j) ∧ Hid (J (n - 1) wr) ∧ Hid (ButS (CutS bo W1.heap.size) W1 wr)
def atB (l : List Sp) (i : Nat) (p : Int) : Bool := decide (i < l.length) && decide ((l.getD i (0, 0)).1 ≤ p)

def InRel (wr : World) (p1 p2 : Int) (l : List Sp) (v : Value) (wx : World) : Prop := ∃ i : Nat, i ≤ l.length ∧ v = .int .i64 i ∧ Hid (∀ q, ∀ h : q < l.length, q < i → l[q].2 ≤ p1) ∧ Hid (Ext wr wx) ∧ wx.cell? ⟨wr.heap.size, 0, none⟩ = some (.int .i64 p1) ∧ wx.cell? ⟨wr.heap.size, 1, none⟩ = some (.int .i64 p2) ∧ wr.heap.size < wx.heap.size
def EndRel (W0 : World) (base : Nat) (lc : List Sp) (vi v : Value) (wr : World) : Prop := ∃ (k : Nat) (A' : Option Addr) (c' : Nat) (out : List Int), k ≤ lc.length ∧ vi = .int .i64 k ∧ v = .slice A' out.length c' ∧ Hid (out = Sp.ends (lc.take k)) ∧ out.length ≤ k * 2 ∧ Hid (OwnsI base wr A' c' out) ∧ Hid (Ext W0 wr)

theorem Owns.keep {α : Type} {e : TypeId} {size base : Nat} {enc : α → List Value} {w w' : World} {A : Option Addr} {c : Nat} {l : List α} (h : Owns e size enc base w A c l) (hb : ∀ g, base ≤ g → g < w.heap.size → w'.heap[g]? = w.heap[g]?) : Owns e size enc base w' A c l := by
  refine ⟨h.1, ?_⟩
  rcases h.2 with k | ⟨g, cap, cur, h1, h2, h3, h4⟩
  · exact .inl k
  · exact .inr ⟨g, cap, cur, h1, h2, (hb g h2 (Array.getElem?_eq_some_iff.1 h3).1).trans h3, h4⟩

set_option maxRecDepth 100000 in
set_option maxHeartbeats 4000000 in
theorem cut1_in (l ba bb bo n0 : Nat) (A1 : Option Addr) (c1 : Nat) (l1 : List Sp) (A2 : Option Addr) (c2 : Nat) (l2 : List Sp) (W : World)
    (hlen : (l1.length + l2.length) * 16 ≤ 140737488350000) (hba : Boxed W ba 29 (.slice A1 l1.length c1)) (hbb : Boxed W bb 29 (.slice A2 l2.length c2)) (hr1 : ReadsSp W n0 A1 l1) (hr2 : ReadsSp W n0 A2 l2)
    (z1 : A1 = none → c1 = 0) (z2 : A2 = none → c2 = 0) (hn0 : n0 ≤ bo) (hbo : bo < W.heap.size) (hao : ba ≠ bo) (hbo2 : bb ≠ bo)
    (J : Nat → Nat → World → Prop) (h0 : ∀ W1, Ext W W1 → J W1.heap.size 0 W1) (hJ : ∀ B k W1 W2, J B k W1 → Ext W1 W2 → J B k W2)
    (hY : ∀ B k (h : k < (Sp.pieces (endsOf l1 l2)).length) i j W1, Hid (Sp.past l1 (Sp.pieces (endsOf l1 l2))[k].1 i) → Hid (Sp.past l2 (Sp.pieces (endsOf l1 l2))[k].1 j) → J B k W1 → ButS (CutS bo B) W W1 → W.heap.size ≤ B → B ≤ W1.heap.size →
      YieldAt Fence.wide 1 Tryz.prog l #[.agg #[.int .i64 (Sp.pieces (endsOf l1 l2))[k].1, .int .i64 (Sp.pieces (endsOf l1 l2))[k].2], .agg #[.bool (atB l1 i (Sp.pieces (endsOf l1 l2))[k].1), .bool (atB l2 j (Sp.pieces (endsOf l1 l2))[k].1)]] W1 fun e W' => e = .returned (.bool true) ∧ J B (k + 1) W' ∧ ButS (CutS bo B) W1 W') :
    CallsIn Fence.wide 2 Tryz.prog 100 #[.func (.yield l) #[] #[], .pointer (some ⟨ba, 0, none⟩), .pointer (some ⟨bb, 0, none⟩)] W fun e W' => (∃ v, e = .returned v) ∧ ∃ B, W.heap.size ≤ B ∧ J B (Sp.pieces (endsOf l1 l2)).length W' ∧ ButS (CutS bo B) W W' := by
  refine callsIn_of_wp Tryz.func100 rfl trivial ?_ rfl
  simp only [Tryz.ntmps100, List.size_toArray, List.length_cons, List.length_nil, Nat.reduceAdd, Nat.reduceSub, Array.replicate_succ, Array.replicate_zero, List.push_toArray, List.append_toArray, List.nil_append, List.cons_append]
  have hca := hba.cell
  have hcb := hbb.cell
  have hla := hba.lt
  have hlb := hbb.lt
  have HBA := Lib.hid hba
  have HBB := Lib.hid hbb
  have HY := Lib.hid hY
  have HJ := Lib.hid hJ
  have H0 := Lib.hid h0
  have HR1 := Lib.hid hr1
  have HR2 := Lib.hid hr2
  have HZ1 := Lib.hid z1
  have HZ2 := Lib.hid z2
  clear hY hJ h0 hr1 hr2 z1 z2 hba hbb
  gi_wp2_with (refine ⟨trivial, ?_⟩; gi_at_call 101; refine (callsIn_wide.2 (concat_any W.heap.size A1 c1 l1 A2 c2 l2 _ (by simp) (by rw [alloc_cell_if, if_pos rfl]; rfl) (by rw [alloc_cell_if, if_pos rfl]; rfl) ((HR1.out.up (by omega)).on ((Ext.refl _).alloc _)) ((HR2.out.up (by omega)).on ((Ext.refl _).alloc _)) HZ1.out HZ2.out (by omega))).mono ?_; rintro e w1 ⟨A3, c3, lc, rfl, HLC, ho3, hx3⟩; have HO3 := Lib.hid (ho3.reads spE); have HX3 : Hid (Ext W w1) := Lib.hid (((Ext.refl W).alloc _).trans hx3); have hlc : lc.length ≤ l1.length + l2.length := (by rw [HLC.out, List.length_append]; omega); have hsz3 := HX3.out.size; clear ho3 hx3)
  gi_loopw [16, 4] (EndRel w1 w1.heap.size lc) (fun i _ _ => lc.length - (intOf i).toNat)
  case atStart => exact ⟨0, none, 0, [], Nat.zero_le _, rfl, rfl, Lib.hid rfl, Nat.le_refl _, Lib.hid (Owns.nil _ _ _ _ _), Lib.hid (Ext.refl _)⟩
  case round =>
    obtain ⟨k, A', c', out, hk, rfl, rfl, HE, hol, HOw, HX⟩ := hrel
    have hszr := HX.out.size
    by_cases hlt : k < lc.length
    · obtain ⟨b, off, rfl, hb, d1, d2⟩ := ReadsSp.cell (HO3.out.ext HX.out (Nat.le_refl _)) k hlt
      have HS := Lib.hid (ends_snoc lc k hlt)
      rw [← HE.out] at HS
      generalize lc[k] = s at *
      obtain ⟨s1, s2⟩ := s
      simp only [] at d1 d2
      gi_wp2_with (gi_at_builtin; refine app_fromIn iT iE rfl _ _ rfl w1.heap.size _ _ out rfl ((HOw.out.alloc _).alloc _) _ 2 _ [s1, s2] rfl rfl (new_cellsAt (by simp) _ _) (by omega) (by omega) (by simp <;> omega) ?_; intro A5 c5 l5 w5 HL5 HO5 hB5 hl1 hl2 _; have HO5' := Lib.hid HO5; have HB5 := Lib.hid hB5; clear HO5 hB5)
      go_roundw
      case rel => exact ⟨k + 1, A5, c5, l5, by omega, by go_num, rfl, Lib.hid (by rw [HL5.out, HS.out]), by omega, HO5', Lib.hid (((HX.out.alloc _).alloc _).grown HB5.out (Nat.le_refl _))⟩
      case measure => simp [intOf]; omega
    · have e : k = lc.length := by omega
      subst e
      have HE2 : Hid (out = Sp.ends (l1 ++ l2)) := Lib.hid (by rw [HE.out, List.take_length, HLC.out])
      gi_wp2_with (first
        | (refine ⟨trivial, ?_⟩; gi_at_call 102; refine (callsIn_wide.2 (sortI_any w1.heap.size A' c' out _ (by omega) HOw.out)).mono ?_; rintro e w6 ⟨rfl, ho6, hb6⟩; have HO6 := Lib.hid ho6; have HB6 := Lib.hid hb6; have hms := msort_length out; clear ho6 hb6)
        | (refine ⟨trivial, ?_⟩; gi_at_call 103; rw [← hms]; refine (callsIn_wide.2 (compactI_any w1.heap.size A' c' (msort out) _ (by omega) HO6.out)).mono ?_; rintro e w7 ⟨rfl, ho7, hb7⟩; have HO7 := Lib.hid ho7; have HB7 := Lib.hid hb7; clear ho7 hb7))
      have hEW : Ext W w7 := ((HX3.out.trans HX.out).grown HB6.out (by omega)).grown HB7.out (by omega)
      have HEW := Lib.hid hEW
      have hq : endsOf l1 l2 = Lib.compact (msort out) := by rw [endsOf, ← HE2.out]
      rw [hq] at HY
      have HQ := Lib.hid hq
      have HSt := Lib.hid (hq ▸ endsOf_sorted l1 l2)
      have hEl := endsOf_length l1 l2
      rw [hq] at hEl
      have hsz6 := HB6.out.size
      have hsz7 := HB7.out.size
      clear hq hEW hca hcb
      generalize Lib.compact (msort out) = E at HO7 HY HQ HSt hEl ⊢
      gi_loopw [7, 8, 9] (CutRel (J w7.heap.size) bo l1 l2 E w7) (fun _ _ v _ => E.length - (intOf v).toNat)
      case atStart => exact ⟨0, 0, 1, rfl, rfl, rfl, Nat.le_refl _, .inr rfl, Nat.zero_le _, Nat.zero_le _, Lib.hid (fun q _ h => absurd h (Nat.not_lt_zero _)), Lib.hid (fun q _ h => absurd h (Nat.not_lt_zero _)), Lib.hid (H0.out w7 HEW.out), Lib.hid (ButS.refl _ _)⟩
      case round =>
        obtain ⟨i, j, n, rfl, rfl, rfl, hn1, hn2, hi, hj, HP1, HP2, HJn, HB⟩ := hrel
        generalize wr = wo at *
        have hszB := HB.out.size
        have hszW := HEW.out.size
        have hca : wo.cell? ⟨ba, 0, none⟩ = some (.slice A1 l1.length c1) := (HB.out.boxed (Boxed.ext HBA.out HEW.out) (by unfold CutS; omega)).cell
        have hcb : wo.cell? ⟨bb, 0, none⟩ = some (.slice A2 l2.length c2) := (HB.out.boxed (Boxed.ext HBB.out HEW.out) (by unfold CutS; omega)).cell
        have HO8 : Hid (OwnsI w1.heap.size wo A' c' E) := Lib.hid (HO7.out.keep (fun g h1 h2 => HB.out.block g h2 (by unfold CutS; omega)))
        have HR1o : Hid (ReadsSp wo n0 A1 l1) := Lib.hid ((HR1.out.ext HEW.out (by omega)).butS HB.out (by omega) (fun k hk => by unfold CutS; omega))
        have HR2o : Hid (ReadsSp wo n0 A2 l2) := Lib.hid ((HR2.out.ext HEW.out (by omega)).butS HB.out (by omega) (fun k hk => by unfold CutS; omega))
        by_cases hlt : n < E.length
        · obtain ⟨be, offe, rfl, hbe, e1⟩ := ReadsI.cell (HO8.out.reads iE) (n - 1) (by omega)
          obtain ⟨be', offe', eqA, _, e2⟩ := ReadsI.cell (HO8.out.reads iE) n hlt
          injection eqA with eqA
          injection eqA with eq1 eq2
          subst eq1 eq2
          obtain ⟨p1, hp1⟩ : ∃ p, E[n - 1] = p := ⟨_, rfl⟩
          obtain ⟨p2, hp2⟩ : ∃ p, E[n] = p := ⟨_, rfl⟩
          have hkp : n - 1 < (Sp.pieces E).length := by rw [Sp.pieces_length]; omega
          have HPv : Hid ((Sp.pieces E)[n - 1] = (p1, p2)) := Lib.hid (by
            have h1 := Sp.pieces_get E (n - 1) (by omega)
            rw [List.getElem?_eq_getElem hkp] at h1
            have h2 := Option.some.inj h1
            have e : n - 1 + 1 = n := by omega
            simp only [e] at h2
            rw [h2, hp1, hp2])
          have HK := Lib.hid hkp
          have HLE : Hid (p1 < p2) := Lib.hid (by rw [← hp1, ← hp2]; exact List.pairwise_iff_getElem.1 HSt.out (n - 1) n (by omega) hlt (by omega))
          have HP1' : Hid (∀ q, ∀ h : q < l1.length, q < i → l1[q].2 ≤ p1) := Lib.hid (fun q h k => by rw [← hp1]; exact HP1.out q h k (by omega))
          have HP2' : Hid (∀ q, ∀ h : q < l2.length, q < j → l2[q].2 ≤ p1) := Lib.hid (fun q h k => by rw [← hp1]; exact HP2.out q h k (by omega))
          have HN1 : Hid (∀ i', (∀ q, ∀ h : q < l1.length, q < i' → l1[q].2 ≤ p1) → PastTo l1 E (n + 1) i') := Lib.hid (fun i' hh q h k hn => by
            have h1 := hh q h k
            have h2 := HLE.out
            simp only [Nat.add_sub_cancel, hp2]
            omega)
          have HN2 : Hid (∀ i', (∀ q, ∀ h : q < l2.length, q < i' → l2[q].2 ≤ p1) → PastTo l2 E (n + 1) i') := Lib.hid (fun i' hh q h k hn => by
            have h1 := hh q h k
            have h2 := HLE.out
            simp only [Nat.add_sub_cancel, hp2]
            omega)
          rw [hp1] at e1
          rw [hp2] at e2
          clear hp1 hp2
          gi_wp2
          refine wpIn_wide.2 ?_
          go_region
          gi_wp2
          gi_loopw [7] (InRel wo p1 p2 l1) (fun v _ => l1.length - (intOf v).toNat)
          case atStart => exact ⟨i, hi, rfl, HP1', Lib.hid (((Ext.refl wo).alloc _).drew), (RowAt.drew (RowAt.new wo #[.int .i64 p1, .int .i64 p2] 49)).cell 0, (RowAt.drew (RowAt.new wo #[.int .i64 p1, .int .i64 p2] 49)).cell 1, by simp⟩
          case round =>
            obtain ⟨i1, hi1, rfl, HQ1, HXx, s1', s2', hsx⟩ := hrel
            generalize wr = wx at *
            have hcax : wx.cell? ⟨ba, 0, none⟩ = some (.slice A1 l1.length c1) := (HXx.out.cell (p := ⟨ba, 0, none⟩) (by show ba < _; omega)).trans hca
            have hcbx : wx.cell? ⟨bb, 0, none⟩ = some (.slice A2 l2.length c2) := (HXx.out.cell (p := ⟨bb, 0, none⟩) (by show bb < _; omega)).trans hcb
            by_cases hia : i1 < l1.length
            · obtain ⟨b1, off1, rfl, hb1, x1c, x2c⟩ := ReadsSp.cell HR1o.out i1 hia
              have x1d := (HXx.out.cell (p := ⟨b1, off1 + i1 * 2, none⟩) (by show b1 < _; omega)).trans x1c
              have x2d := (HXx.out.cell (p := ⟨b1, off1 + i1 * 2 + 1, none⟩) (by show b1 < _; omega)).trans x2c
              have da0 : decide (i1 < l1.length) = true := by simpa using hia
              have da1 : decide ((i1 : Int) < (l1.length : Int)) = true := by simp; omega
              have HQs : Hid (l1[i1].2 ≤ p1 → ∀ q, ∀ h : q < l1.length, q < i1 + 1 → l1[q].2 ≤ p1) := Lib.hid (fun hh q h k => by
                by_cases e : q = i1
                · subst e; exact hh
                · exact HQ1.out q h (by omega))
              have HPq : Hid (p1 < l1[i1].2 → Sp.past l1 p1 i1) := Lib.hid (fun hh => ⟨hi1, fun q h k => HQ1.out q h k, fun _ => hh⟩)
              have HAt : Hid (atB l1 i1 p1 = decide (l1[i1].1 ≤ p1)) := Lib.hid (by simp [atB, hia])
              generalize l1[i1] = x at *
              obtain ⟨x1, x2⟩ := x
              simp only [] at x1c x2c x1d x2d
              by_cases hxp : x2 ≤ p1
              · have dx : decide (x2 ≤ p1) = true := by simpa using hxp
                have HQn := Lib.hid (HQs.out hxp)
                gi_wp2
                refine wpIn_wide.2 ?_
                refine wp_region_later (by kernel_rfl) (by kernel_rfl) ?_
                repeat (first | go_big_quiet_step (fail) | quiet_step (fail))
                refine wpQuiet_nil ?_
                rintro _ ⟨xq, rfl⟩
                gi_wp2
                go_roundw
                case rel => exact ⟨i1 + 1, by omega, by go_num, HQn, Lib.hid (HXx.out.onto _), by rw [later_cell_if, if_pos (by omega)]; exact s1', by rw [later_cell_if, if_pos (by omega)]; exact s2', by rw [later_size]; omega⟩
                case measure => simp [intOf]; omega
              · have dx : decide (x2 ≤ p1) = false := by simp; omega
                have HPs1 := Lib.hid (HPq.out (by show p1 < x2; omega))
                have HA1 := HAt
                gi_wp2
                refine wpIn_wide.2 ?_
                refine wp_region_later (by kernel_rfl) (by kernel_rfl) ?_
                repeat (first | go_big_quiet_step (fail) | quiet_step (fail))
                refine wpQuiet_nil ?_
                rintro _ ⟨xq, rfl⟩
                gi_wp2
                gi_loopw [8] (InRel wo p1 p2 l2) (fun v _ => l2.length - (intOf v).toNat)
                case atStart => exact ⟨j, hj, rfl, HP2', Lib.hid (HXx.out.onto _), by rw [later_cell_if, if_pos (by omega)]; exact s1', by rw [later_cell_if, if_pos (by omega)]; exact s2', by rw [later_size]; omega⟩
                case round =>
                  obtain ⟨j1, hj1, rfl, HQ2, HXy, t1', t2', hsy⟩ := hrel
                  generalize wr = wy at *
                  have hcay := (HXy.out.cell (p := ⟨ba, 0, none⟩) (by show ba < _; omega)).trans hca
                  have hcby := (HXy.out.cell (p := ⟨bb, 0, none⟩) (by show bb < _; omega)).trans hcb
                  have x1y := (HXy.out.cell (p := ⟨b1, off1 + i1 * 2, none⟩) (by show b1 < _; omega)).trans x1c
                  by_cases hjb : j1 < l2.length
                  · obtain ⟨b2, off2, rfl, hb2, y1o, y2o⟩ := ReadsSp.cell HR2o.out j1 hjb
                    have y1c := (HXy.out.cell (p := ⟨b2, off2 + j1 * 2, none⟩) (by show b2 < _; omega)).trans y1o
                    have y2c := (HXy.out.cell (p := ⟨b2, off2 + j1 * 2 + 1, none⟩) (by show b2 < _; omega)).trans y2o
                    have db0 : decide (j1 < l2.length) = true := by simpa using hjb
                    have db1 : decide ((j1 : Int) < (l2.length : Int)) = true := by simp; omega
                    have HQs2 : Hid (l2[j1].2 ≤ p1 → ∀ q, ∀ h : q < l2.length, q < j1 + 1 → l2[q].2 ≤ p1) := Lib.hid (fun hh q h k => by
                      by_cases e : q = j1
                      · subst e; exact hh
                      · exact HQ2.out q h (by omega))
                    have HPq2 : Hid (p1 < l2[j1].2 → Sp.past l2 p1 j1) := Lib.hid (fun hh => ⟨hj1, fun q h k => HQ2.out q h k, fun _ => hh⟩)
                    have HAt2 : Hid (atB l2 j1 p1 = decide (l2[j1].1 ≤ p1)) := Lib.hid (by simp [atB, hjb])
                    generalize l2[j1] = y at *
                    obtain ⟨y1, y2⟩ := y
                    simp only [] at y1c y2c y1o y2o
                    by_cases hyp : y2 ≤ p1
                    · have dy : decide (y2 ≤ p1) = true := by simpa using hyp
                      have HQn2 := Lib.hid (HQs2.out hyp)
                      gi_wp2
                      refine wpIn_wide.2 ?_
                      refine wp_region_later (by kernel_rfl) (by kernel_rfl) ?_
                      repeat (first | go_big_quiet_step (fail) | quiet_step (fail))
                      refine wpQuiet_nil ?_
                      rintro _ ⟨xq, rfl⟩
                      gi_wp2
                      go_roundw
                      case rel => exact ⟨j1 + 1, by omega, by go_num, HQn2, Lib.hid (HXy.out.onto _), by rw [later_cell_if, if_pos (by omega)]; exact t1', by rw [later_cell_if, if_pos (by omega)]; exact t2', by rw [later_size]; omega⟩
                      case measure => simp [intOf]; omega
                    · have dy : decide (y2 ≤ p1) = false := by simp; omega
                      have HPs2 := Lib.hid (HPq2.out (by show p1 < y2; omega))
                      have HA2 := HAt2
                      gi_wp2
                      refine wpIn_wide.2 ?_
                      refine wp_region_later (by kernel_rfl) (by kernel_rfl) ?_
                      repeat (first | go_big_quiet_step (fail) | quiet_step (fail))
                      refine wpQuiet_nil ?_
                      rintro _ ⟨xq, rfl⟩
                      gi_wp2
                      refine wpIn_region_later_tail rfl 31 (by kernel_rfl) (by kernel_rfl) ?_
                      simp only [List.take_succ_cons, List.take_zero, List.drop_succ_cons, List.drop_zero]
                      repeat (first | gi_big_quiet_step (fail) | quiet_step_in (fail))
                      refine wpQuietIn_nil ?_
                      rintro _ ⟨xr, rfl⟩
                      rw [later_later]
                      have hy0 := HY.out w7.heap.size (n - 1) HK.out i1 j1 (later wy (xq.comp xr)) (by rw [HPv.out]; exact HPs1) (by rw [HPv.out]; exact HPs2) (HJ.out _ _ _ _ HJn.out (HXy.out.onto _)) (((ButS.of_ext HEW.out).trans HB.out).ext (HXy.out.onto _)) (by omega) (by have := (HXy.out.onto (xq.comp xr)).size; omega)
                      simp only [HPv.out, HA1.out, HA2.out] at hy0
                      obtain ⟨fn, tmps, assign, body, hy, hR⟩ := hy0
                      have HRR := Lib.hid hR
                      clear hR
                      gi_wp2
                      refine HRR.out.mono ?_
                      rintro e W' ⟨rfl, hj', hb'⟩
                      have HJ2 := Lib.hid hj'
                      have HB2 : Hid (ButS (CutS bo w7.heap.size) w7 W') := Lib.hid ((HB.out.ext (HXy.out.onto _)).trans hb')
                      clear hj' hb' hy HRR
                      gi_wp2
                      go_roundw
                      case rel => exact ⟨i1, j1, n + 1, rfl, rfl, by go_num, by omega, .inl (by omega), by omega, by omega, Lib.hid (HN1.out i1 HQ1.out), Lib.hid (HN2.out j1 HQ2.out), Lib.hid (by have h := HJ2.out; rw [show n - 1 + 1 = n + 1 - 1 by omega] at h; exact h), HB2⟩
                      case measure => simp [intOf]; omega
                  · have db0 : decide (j1 < l2.length) = false := by simpa using hjb
                    have db1 : decide ((j1 : Int) < (l2.length : Int)) = false := by simp; omega
                    have HPs2 : Hid (Sp.past l2 p1 j1) := Lib.hid ⟨hj1, fun q h k => HQ2.out q h k, fun h => absurd h hjb⟩
                    have HA2 : Hid (atB l2 j1 p1 = false) := Lib.hid (by simp [atB, hjb])
                    gi_wp2
                    refine wpIn_wide.2 ?_
                    refine wp_region_later (by kernel_rfl) (by kernel_rfl) ?_
                    repeat (first | go_big_quiet_step (fail) | quiet_step (fail))
                    refine wpQuiet_nil ?_
                    rintro _ ⟨xq, rfl⟩
                    gi_wp2
                    refine wpIn_region_later_tail rfl 31 (by kernel_rfl) (by kernel_rfl) ?_
                    simp only [List.take_succ_cons, List.take_zero, List.drop_succ_cons, List.drop_zero]
                    repeat (first | gi_big_quiet_step (fail) | quiet_step_in (fail))
                    refine wpQuietIn_nil ?_
                    rintro _ ⟨xr, rfl⟩
                    rw [later_later]
                    have hy0 := HY.out w7.heap.size (n - 1) HK.out i1 j1 (later wy (xq.comp xr)) (by rw [HPv.out]; exact HPs1) (by rw [HPv.out]; exact HPs2) (HJ.out _ _ _ _ HJn.out (HXy.out.onto _)) (((ButS.of_ext HEW.out).trans HB.out).ext (HXy.out.onto _)) (by omega) (by have := (HXy.out.onto (xq.comp xr)).size; omega)
                    simp only [HPv.out, HA1.out, HA2.out] at hy0
                    obtain ⟨fn, tmps, assign, body, hy, hR⟩ := hy0
                    have HRR := Lib.hid hR
                    clear hR
                    gi_wp2
                    refine HRR.out.mono ?_
                    rintro e W' ⟨rfl, hj', hb'⟩
                    have HJ2 := Lib.hid hj'
                    have HB2 : Hid (ButS (CutS bo w7.heap.size) w7 W') := Lib.hid ((HB.out.ext (HXy.out.onto _)).trans hb')
                    clear hj' hb' hy HRR
                    gi_wp2
                    go_roundw
                    case rel => exact ⟨i1, j1, n + 1, rfl, rfl, by go_num, by omega, .inl (by omega), by omega, by omega, Lib.hid (HN1.out i1 HQ1.out), Lib.hid (HN2.out j1 HQ2.out), Lib.hid (by have h := HJ2.out; rw [show n - 1 + 1 = n + 1 - 1 by omega] at h; exact h), HB2⟩
                    case measure => simp [intOf]; omega
            · have da0 : decide (i1 < l1.length) = false := by simpa using hia
              have da1 : decide ((i1 : Int) < (l1.length : Int)) = false := by simp; omega
              have HPs1 : Hid (Sp.past l1 p1 i1) := Lib.hid ⟨hi1, fun q h k => HQ1.out q h k, fun h => absurd h hia⟩
              have HA1 : Hid (atB l1 i1 p1 = false) := Lib.hid (by simp [atB, hia])
              gi_wp2
              refine wpIn_wide.2 ?_
              refine wp_region_later (by kernel_rfl) (by kernel_rfl) ?_
              repeat (first | go_big_quiet_step (fail) | quiet_step (fail))
              refine wpQuiet_nil ?_
              rintro _ ⟨xq, rfl⟩
              gi_wp2
              gi_loopw [8] (InRel wo p1 p2 l2) (fun v _ => l2.length - (intOf v).toNat)
              case atStart => exact ⟨j, hj, rfl, HP2', Lib.hid (HXx.out.onto _), by rw [later_cell_if, if_pos (by omega)]; exact s1', by rw [later_cell_if, if_pos (by omega)]; exact s2', by rw [later_size]; omega⟩
              case round =>
                obtain ⟨j1, hj1, rfl, HQ2, HXy, t1', t2', hsy⟩ := hrel
                generalize wr = wy at *
                have hcay := (HXy.out.cell (p := ⟨ba, 0, none⟩) (by show ba < _; omega)).trans hca
                have hcby := (HXy.out.cell (p := ⟨bb, 0, none⟩) (by show bb < _; omega)).trans hcb
                skip
                by_cases hjb : j1 < l2.length
                · obtain ⟨b2, off2, rfl, hb2, y1o, y2o⟩ := ReadsSp.cell HR2o.out j1 hjb
                  have y1c := (HXy.out.cell (p := ⟨b2, off2 + j1 * 2, none⟩) (by show b2 < _; omega)).trans y1o
                  have y2c := (HXy.out.cell (p := ⟨b2, off2 + j1 * 2 + 1, none⟩) (by show b2 < _; omega)).trans y2o
                  have db0 : decide (j1 < l2.length) = true := by simpa using hjb
                  have db1 : decide ((j1 : Int) < (l2.length : Int)) = true := by simp; omega
                  have HQs2 : Hid (l2[j1].2 ≤ p1 → ∀ q, ∀ h : q < l2.length, q < j1 + 1 → l2[q].2 ≤ p1) := Lib.hid (fun hh q h k => by
                    by_cases e : q = j1
                    · subst e; exact hh
                    · exact HQ2.out q h (by omega))
                  have HPq2 : Hid (p1 < l2[j1].2 → Sp.past l2 p1 j1) := Lib.hid (fun hh => ⟨hj1, fun q h k => HQ2.out q h k, fun _ => hh⟩)
                  have HAt2 : Hid (atB l2 j1 p1 = decide (l2[j1].1 ≤ p1)) := Lib.hid (by simp [atB, hjb])
                  generalize l2[j1] = y at *
                  obtain ⟨y1, y2⟩ := y
                  simp only [] at y1c y2c y1o y2o
                  by_cases hyp : y2 ≤ p1
                  · have dy : decide (y2 ≤ p1) = true := by simpa using hyp
                    have HQn2 := Lib.hid (HQs2.out hyp)
                    gi_wp2
                    refine wpIn_wide.2 ?_
                    refine wp_region_later (by kernel_rfl) (by kernel_rfl) ?_
                    repeat (first | go_big_quiet_step (fail) | quiet_step (fail))
                    refine wpQuiet_nil ?_
                    rintro _ ⟨xq, rfl⟩
                    gi_wp2
                    go_roundw
                    case rel => exact ⟨j1 + 1, by omega, by go_num, HQn2, Lib.hid (HXy.out.onto _), by rw [later_cell_if, if_pos (by omega)]; exact t1', by rw [later_cell_if, if_pos (by omega)]; exact t2', by rw [later_size]; omega⟩
                    case measure => simp [intOf]; omega
                  · have dy : decide (y2 ≤ p1) = false := by simp; omega
                    have HPs2 := Lib.hid (HPq2.out (by show p1 < y2; omega))
                    have HA2 := HAt2
                    gi_wp2
                    refine wpIn_wide.2 ?_
                    refine wp_region_later (by kernel_rfl) (by kernel_rfl) ?_
                    repeat (first | go_big_quiet_step (fail) | quiet_step (fail))
                    refine wpQuiet_nil ?_
                    rintro _ ⟨xq, rfl⟩
                    gi_wp2
                    refine wpIn_region_later_tail rfl 31 (by kernel_rfl) (by kernel_rfl) ?_
                    simp only [List.take_succ_cons, List.take_zero, List.drop_succ_cons, List.drop_zero]
                    repeat (first | gi_big_quiet_step (fail) | quiet_step_in (fail))
                    refine wpQuietIn_nil ?_
                    rintro _ ⟨xr, rfl⟩
                    rw [later_later]
                    have hy0 := HY.out w7.heap.size (n - 1) HK.out i1 j1 (later wy (xq.comp xr)) (by rw [HPv.out]; exact HPs1) (by rw [HPv.out]; exact HPs2) (HJ.out _ _ _ _ HJn.out (HXy.out.onto _)) (((ButS.of_ext HEW.out).trans HB.out).ext (HXy.out.onto _)) (by omega) (by have := (HXy.out.onto (xq.comp xr)).size; omega)
                    simp only [HPv.out, HA1.out, HA2.out] at hy0
                    obtain ⟨fn, tmps, assign, body, hy, hR⟩ := hy0
                    have HRR := Lib.hid hR
                    clear hR
                    gi_wp2
                    refine HRR.out.mono ?_
                    rintro e W' ⟨rfl, hj', hb'⟩
                    have HJ2 := Lib.hid hj'
                    have HB2 : Hid (ButS (CutS bo w7.heap.size) w7 W') := Lib.hid ((HB.out.ext (HXy.out.onto _)).trans hb')
                    clear hj' hb' hy HRR
                    gi_wp2
                    go_roundw
                    case rel => exact ⟨i1, j1, n + 1, rfl, rfl, by go_num, by omega, .inl (by omega), by omega, by omega, Lib.hid (HN1.out i1 HQ1.out), Lib.hid (HN2.out j1 HQ2.out), Lib.hid (by have h := HJ2.out; rw [show n - 1 + 1 = n + 1 - 1 by omega] at h; exact h), HB2⟩
                    case measure => simp [intOf]; omega
                · have db0 : decide (j1 < l2.length) = false := by simpa using hjb
                  have db1 : decide ((j1 : Int) < (l2.length : Int)) = false := by simp; omega
                  have HPs2 : Hid (Sp.past l2 p1 j1) := Lib.hid ⟨hj1, fun q h k => HQ2.out q h k, fun h => absurd h hjb⟩
                  have HA2 : Hid (atB l2 j1 p1 = false) := Lib.hid (by simp [atB, hjb])
                  gi_wp2
                  refine wpIn_wide.2 ?_
                  refine wp_region_later (by kernel_rfl) (by kernel_rfl) ?_
                  repeat (first | go_big_quiet_step (fail) | quiet_step (fail))
                  refine wpQuiet_nil ?_
                  rintro _ ⟨xq, rfl⟩
                  gi_wp2
                  refine wpIn_region_later_tail rfl 31 (by kernel_rfl) (by kernel_rfl) ?_
                  simp only [List.take_succ_cons, List.take_zero, List.drop_succ_cons, List.drop_zero]
                  repeat (first | gi_big_quiet_step (fail) | quiet_step_in (fail))
                  refine wpQuietIn_nil ?_
                  rintro _ ⟨xr, rfl⟩
                  rw [later_later]
                  have hy0 := HY.out w7.heap.size (n - 1) HK.out i1 j1 (later wy (xq.comp xr)) (by rw [HPv.out]; exact HPs1) (by rw [HPv.out]; exact HPs2) (HJ.out _ _ _ _ HJn.out (HXy.out.onto _)) (((ButS.of_ext HEW.out).trans HB.out).ext (HXy.out.onto _)) (by omega) (by have := (HXy.out.onto (xq.comp xr)).size; omega)
                  simp only [HPv.out, HA1.out, HA2.out] at hy0
                  obtain ⟨fn, tmps, assign, body, hy, hR⟩ := hy0
                  have HRR := Lib.hid hR
                  clear hR
                  gi_wp2
                  refine HRR.out.mono ?_
                  rintro e W' ⟨rfl, hj', hb'⟩
                  have HJ2 := Lib.hid hj'
                  have HB2 : Hid (ButS (CutS bo w7.heap.size) w7 W') := Lib.hid ((HB.out.ext (HXy.out.onto _)).trans hb')
                  clear hj' hb' hy HRR
                  gi_wp2
                  go_roundw
                  case rel => exact ⟨i1, j1, n + 1, rfl, rfl, by go_num, by omega, .inl (by omega), by omega, by omega, Lib.hid (HN1.out i1 HQ1.out), Lib.hid (HN2.out j1 HQ2.out), Lib.hid (by have h := HJ2.out; rw [show n - 1 + 1 = n + 1 - 1 by omega] at h; exact h), HB2⟩
                  case measure => simp [intOf]; omega
        · gi_wp2
          go_end0
          refine ⟨⟨_, rfl⟩, w7.heap.size, HEW.out.size, ?_, (ButS.of_ext HEW.out).trans HB.out⟩
          rw [HQ.out, Sp.pieces_length]
          have h := HJn.out
          rw [show n - 1 = E.length - 1 by omega] at h
          exact h
end Go.Proofs.YtiacnoejlmaplaaGreatDoor
