/- ranges.Minus, Missing, Covers. -/
import Derived.Test.YtpjacgcaibaggaaGreatDoorProg
import Derived.Test.YtpjacgcaibaggaaGreatDoorExt
import Derived.WalkKit
import Derived.WalkSpells
import Derived.WalkLawsBesides
import Derived.Deep.QuietTactic
import Derived.BigQuiet
import Derived.RangeFuncNested
import Derived.RangeFuncBound
import Derived.RangeFuncCalls
import Derived.RangeFuncLeaves
import Derived.Shelf.Abstract
import Derived.Shelf.RegionOpen
import Derived.OwnWalkIn
import Derived.TacticsInMore
import Derived.LoopNIn
import Derived.LoopIn
import Derived.Sort.QuietThIn
import Derived.Sort.QuietTacIn
import Derived.Sort.BigQuietIn
import Derived.Test.YtpjacgcaibaggaaGreatDoorCw
import Derived.Test.YtpjacgcaibaggaaGreatDoorSpu
set_option linter.unusedVariables false
set_option linter.unusedSimpArgs false
namespace Go.Proofs.YtpjacgcaibaggaaGreatDoor
open Go.RowKit

section
variable {F : Fence} {nF : Nat} {P : Program} {ops : Array Oper} {md : Region.Mode}
theorem wpAnyIn_of_seq {Q' : Exit → Act → World → Prop} : ∀ (l : List Oper) (k : Nat) (listed : Array Bool) (a : Act) (w : World), (∀ j, l[j]? = ops[k + j]?) →
    Region.seqB md ops l.length k listed = true → wpListIn F nF P ops Q' l a w → wpAnyIn F nF P md ops Q' l.length listed a w
  | [], _, _, _, _, _, hB, h => ⟨by simpa [Region.seqB] using hB, h⟩
  | o :: l, k, listed, a, w, hl, hB, h => by
    have h0 : ops[k]? = some o := by simpa using (hl 0).symm
    simp only [List.length_cons, Region.seqB, Bool.and_eq_true, decide_eq_true_eq] at hB
    refine ⟨fun h1 => (by rw [hB.1] at h1; cases h1), fun i hi => ?_⟩
    rw [hB.1] at hi
    have hik : i = k := by simpa using hi
    subst hik
    have hw : wpOpIn F nF P ops Q' i (wpListIn F nF P ops Q' l) a w := by unfold wpOpIn; simp only [h0]; exact h
    exact wpOpIn_mono (fun a' w' h' => wpAnyIn_of_seq l (i + 1) _ a' w' (fun j => by have := hl (j + 1); simpa [Nat.add_assoc, Nat.add_comm 1 j] using this) hB.2 h') hw
end
/-! ### A drawn region whose head is quiet, and whose tail comes in one order -/
section
variable {F : Fence} {nF : Nat} {P : Program} {ops : Array Oper} {md : Region.Mode} {C : World → Prop}

def wpAnyLQIn (F : Fence) (nF : Nat) (P : Program) (md : Region.Mode) (ops : Array Oper) (C : World → Prop) (n : Nat) (L : Array Bool → Act → Prop) : Nat → Array Bool → Act → Prop
  | 0, listed, a => L listed a
  | f + 1, listed, a =>
    Region.ready md ops listed ≠ [] ∧ ∀ i ∈ Region.ready md ops listed, i < n ∧ qOpIn F nF P ops C i (wpAnyLQIn F nF P md ops C n L f (listed.setIfInBounds i true)) a

theorem wpAnyIn_of_headQ (hro : F.round = none) {n g : Nat} {L : Array Bool → Act → Prop} {Q' : Exit → Act → World → Prop} (hL : ∀ listed a w, C w → L listed a → wpAnyIn F nF P md ops Q' g listed a w) :
    ∀ (f : Nat) (listed : Array Bool) (a : Act) (w : World), C w → wpAnyLQIn F nF P md ops C n L f listed a → wpAnyIn F nF P md ops Q' (f + g) listed a w
  | 0, listed, a, w, hC, h => by rw [Nat.zero_add]; exact hL _ _ _ hC h
  | f + 1, listed, a, w, hC, h => by
    rw [show f + 1 + g = (f + g) + 1 by omega]
    exact ⟨fun h0 => absurd h0 h.1, fun i hi => wpOpIn_of_qOpIn hro hC (fun a' w' hC' h' => wpAnyIn_of_headQ hro hL f _ a' w' hC' h') (h.2 i hi).2⟩

theorem wpAnyLQIn_first {n i : Nat} {oi : Oper} {v : Value} {L : Array Bool → Act → Prop} (hi : ops[i]? = some oi) (hsel : ∀ (j : Nat) (o : Oper) cs b, ops[j]? = some o → o.op ≠ .select cs b)
    (hs : Region.sinkB md ops n = true) (hc : Region.chainB md ops n = true) (hn : n < ops.size) (hin : i < n)
    (hdone : ∀ listed a, L listed a → ∀ j ∈ Region.ready md ops listed, n ≤ j) :
    ∀ (f : Nat) (listed : Array Bool) (a : Act), HeadInv md ops n listed →
      (∀ j oj, ops[j]? = some oj → j ≠ i → listed.getD j true = false → (∀ e ∈ oj.after, Region.binds md e = true → e.on ≠ i) → oi.apart ops oj = true) →
      i ∈ Region.ready md ops listed → YieldsQuiet F nF P ops C oi v a →
      wpAnyLQIn F nF P md ops C n L f (listed.setIfInBounds i true) (a.put oi.dst v) → wpAnyLQIn F nF P md ops C n L (f + 1) listed a := by
  intro f
  induction f with
  | zero =>
    intro listed a inv _ hr hy H
    have hun := (mem_ready.1 hr).1
    refine ⟨fun h => (by rw [h] at hr; cases hr), fun j hj => ?_⟩
    have hjn : j < n := by
      rcases Nat.lt_or_ge j n with h | h
      · exact h
      · exact absurd hj (tail_waits hs hc hn inv _ i rfl hin hun j h)
    refine ⟨hjn, ?_⟩
    by_cases hji : j = i
    · subst hji; exact hy.qOpIn hi H
    · have := hdone _ _ H j (ready_mono hj hji)
      omega
  | succ f ih =>
    intro listed a inv hfree hr hy H
    have hun := (mem_ready.1 hr).1
    refine ⟨fun h => (by rw [h] at hr; cases hr), fun j hj => ?_⟩
    have hjn : j < n := by
      rcases Nat.lt_or_ge j n with h | h
      · exact h
      · exact absurd hj (tail_waits hs hc hn inv _ i rfl hin hun j h)
    refine ⟨hjn, ?_⟩
    by_cases hji : j = i
    · subst hji; exact hy.qOpIn hi H
    · have h1 := (H.2 j (ready_mono hj hji)).2
      obtain ⟨hjun, oj, hoj, hall⟩ := mem_ready.1 hj
      have hnot : ∀ e ∈ oj.after, Region.binds md e = true → e.on ≠ i := fun e he hb heq => by
        have h1 := hall e he hb
        rw [heq, getD_both hun] at h1
        cases h1
      have h2 := qOpIn_put hoj (hfree j oj hoj hji hjun hnot) (fun cs b => hsel i oi cs b hi) (fun cs b => hsel j oj cs b hoj) hy h1
      have hfree' : ∀ k ok, ops[k]? = some ok → k ≠ i → (listed.setIfInBounds j true).getD k true = false →
          (∀ e ∈ ok.after, Region.binds md e = true → e.on ≠ i) → oi.apart ops ok = true := fun k ok hk hki hun hno => by
        refine hfree k ok hk hki ?_ hno
        by_cases hjk : j = k
        · subst hjk; exact hjun
        · rw [getD_set_ne true hjk] at hun; exact hun
      refine qOpIn_mono (fun a' h3 => ih (listed.setIfInBounds j true) a' (inv.set hj hjn) hfree' (ready_mono hr (Ne.symm hji)) h3.1 ?_) h2
      rw [Array.setIfInBounds_comm _ _ hji]
      exact h3.2

theorem wpAnyLQIn_lex {n g : Nat} {Lq : Act → Prop} (hsel : Region.noSelect ops = true) (hs : Region.sinkB md ops n = true) (hc : Region.chainB md ops n = true) (hn : n < ops.size) :
    ∀ (l : List Oper) (k : Nat) (listed : Array Bool) (a : Act), (∀ j, j < l.length → l[j]? = ops[k + j]?) → k + l.length = n → HeadInv md ops n listed →
    Region.lexHead md ops g l.length k listed = true → wpQuietIn F nF P ops C Lq l a →
    wpAnyLQIn F nF P md ops C n (fun listed' a' => Region.seqB md ops g n listed' = true ∧ Lq a') l.length listed a
  | [], k, listed, a, _, hk, _, hB, h => by
    have : k = n := by simpa using hk
    subst this
    exact ⟨by simpa [Region.lexHead] using hB, h⟩
  | o :: l, k, listed, a, hl, hk, inv, hB, h => by
    have h0 : ops[k]? = some o := by simpa using (hl 0 (by simp)).symm
    simp only [List.length_cons, Region.lexHead, Bool.and_eq_true] at hB
    obtain ⟨⟨hr, hf⟩, hB'⟩ := hB
    have hkn : k < n := by simp only [List.length_cons] at hk; omega
    have hr' : k ∈ Region.ready md ops listed := by simpa using hr
    have hst : qOpIn F nF P ops C k (wpQuietIn F nF P ops C Lq l) a := by unfold qOpIn; simp only [h0]; exact h
    obtain ⟨v, hy, hK⟩ := yieldsQuiet_of_qOpIn h0 hst
    exact wpAnyLQIn_first h0 (Region.noSelect_spec hsel) hs hc hn hkn (fun listed' a' hL => seqB_ready hL.1) l.length listed a inv (Region.free_spec h0 hf) hr' hy
      (wpAnyLQIn_lex hsel hs hc hn l (k + 1) _ _ (fun j hj => by have := hl (j + 1) (by simp; omega); simpa [Nat.add_assoc, Nat.add_comm 1 j] using this) (by simp only [List.length_cons] at hk; omega) (inv.set hr' hkn) hB' hK)

theorem wpIn_region_quiet_tail (hro : F.round = none) {id : Nat} {Q : Exit → Act → World → Prop} {a : Act} {w : World} {l : List Oper} (n : Nat) (hm : P.follows .mixedOrders = true) (hB : Region.lexTailB .any l.toArray n = true) (hC : C { w with drawn := w.drawn + 1 })
    (h : wpQuietIn F nF P l.toArray C (fun a' => ∀ w', C w' → wpListIn F nF P l.toArray Q (l.drop n) a' w') (l.take n) a) : (Code.region id l.toArray true).wpIn F nF P Q a w := by
  simp only [Region.lexTailB, Bool.and_eq_true, decide_eq_true_eq] at hB
  obtain ⟨⟨⟨⟨hsel, hn⟩, hs⟩, hc⟩, hlex⟩ := hB
  have hn' : n < l.length := by simpa using hn
  have htl : (l.take n).length = n := by simp; omega
  have hdl : (l.drop n).length = l.toArray.size - n := by simp
  have inv0 : HeadInv .any l.toArray n (Array.replicate l.toArray.size false) :=
    ⟨by simp, fun j oj _ hl => (by rw [getD_replicate_false] at hl; cases hl), fun t _ ht => getD_in (by simpa using ht) (getD_replicate_false _ _)⟩
  have H := wpAnyLQIn_lex (md := .any) (C := C) (g := l.toArray.size - n) hsel hs hc hn (l.take n) 0 _ a (fun j hj => by
    have hj' : j < n := by rw [htl] at hj; exact hj
    simp [hj']) (by simpa using htl) inv0 (by rw [htl]; exact hlex) h
  refine wpIn_region_any hm ?_
  have := wpAnyIn_of_headQ hro (Q' := Q) (g := l.toArray.size - n) (fun listed a' w' hC' hL => by
    have := wpAnyIn_of_seq (md := .any) (Q' := Q) (l.drop n) n listed a' w' (fun j => by simp [List.getElem?_drop]) (by rw [hdl]; exact hL.1) (hL.2 w' hC')
    rwa [hdl] at this) _ _ _ _ hC H
  rw [htl, show n + (l.toArray.size - n) = l.toArray.size by omega] at this
  exact this
end

theorem wpIn_region_later_tail {F : Fence} {nF : Nat} (hro : F.round = none) {P : Program} {id : Nat} {Q : Exit → Act → World → Prop} {a : Act} {w : World} {l : List Oper} (n : Nat) (hm : P.follows .mixedOrders = true) (hB : Region.lexTailB .any l.toArray n = true)
    (h : wpQuietIn F nF P l.toArray (fun w' => ∃ x, w' = later w x) (fun a' => ∀ w', (∃ x, w' = later w x) → wpListIn F nF P l.toArray Q (l.drop n) a' w') (l.take n) a) : (Code.region id l.toArray true).wpIn F nF P Q a w :=
  wpIn_region_quiet_tail hro (C := fun w' => ∃ x, w' = later w x) n hm hB (later_drew w) h

theorem wpIn_region_later {F : Fence} {nF : Nat} (hro : F.round = none) {P : Program} {id : Nat} {Q : Exit → Act → World → Prop} {a : Act} {w : World} {l : List Oper} (hm : P.follows .mixedOrders = true) (hB : Region.lexB .any l.toArray = true)
    (h : wpQuietIn F nF P l.toArray (fun w' => ∃ x, w' = later w x) (fun a' => ∀ w', (∃ x, w' = later w x) → Q .normal a' w') l a) : (Code.region id l.toArray true).wpIn F nF P Q a w :=
  wpIn_region_quiet (C := fun w' => ∃ x, w' = later w x) hro hm hB (later_drew w) (by simpa using h)
end Go.Proofs.YtpjacgcaibaggaaGreatDoor

namespace Go.Proofs.YtpjacgcaibaggaaGreatDoor
open Go.RowKit Go.Shelf
open Go.Proofs
open Go.Proofs.Sp (Sp)
attribute [local go_sem] Oper.semAt_some

/-- The ends of the spans of two sets, in order, each once. -/
def endsOf (l1 l2 : List Sp) : List Int := Lib.compact (msort (Sp.ends (l1 ++ l2)))
theorem ends_length (l : List Sp) : (Sp.ends l).length = l.length * 2 := by
  induction l with
  | nil => rfl
  | cons s l ih => simp only [Sp.ends, List.flatMap_cons, List.length_append, List.length_cons, List.length_nil] at ih ⊢; omega
theorem ends_snoc (l : List Sp) (k : Nat) (h : k < l.length) : Sp.ends (l.take (k + 1)) = Sp.ends (l.take k) ++ [l[k].1, l[k].2] := by
  unfold Sp.ends
  rw [List.take_succ_eq_append_getElem h, List.flatMap_append]; rfl
theorem endsOf_length (l1 l2 : List Sp) : (endsOf l1 l2).length ≤ (l1.length + l2.length) * 2 := by
  have := Lib.compact_length_le (msort (Sp.ends (l1 ++ l2)))
  rw [msort_length, ends_length, List.length_append] at this
  exact this
theorem endsOf_sorted (l1 l2 : List Sp) : (endsOf l1 l2).Pairwise (· < ·) := (compact_spec _ (msort_sorted _)).1
theorem endsOf_mem (l1 l2 : List Sp) (x : Int) : x ∈ endsOf l1 l2 ↔ x ∈ Sp.ends (l1 ++ l2) := ((compact_spec _ (msort_sorted _)).2 x).trans (msort_mem _ x)
def CutS (bo B : Nat) (b : Nat) : Prop := b = bo ∨ B ≤ b
def PastTo (l : List Sp) (E : List Int) (n i : Nat) : Prop := ∀ q, ∀ h : q < l.length, q < i → ∀ hn : n - 1 < E.length, l[q].2 ≤ E[n - 1]
def CutRel (J : Nat → World → Prop) (bo : Nat) (l1 l2 : List Sp) (E : List Int) (W1 : World) (vi vj vn : Value) (wr : World) : Prop :=
  ∃ i j n : Nat, vi = .int .i64 i ∧ vj = .int .i64 j ∧ vn = .int .i64 n ∧ 1 ≤ n ∧ (n ≤ E.length ∨ n = 1) ∧ i ≤ l1.length ∧ j ≤ l2.length ∧ Hid (PastTo l1 E n i) ∧ Hid (PastTo l2 E n j) ∧ Hid (J (n - 1) wr) ∧ Hid (ButS (CutS bo W1.heap.size) W1 wr)
def atB (l : List Sp) (i : Nat) (p : Int) : Bool := decide (i < l.length) && decide ((l.getD i (0, 0)).1 ≤ p)

def InRel (wr : World) (p1 p2 : Int) (l : List Sp) (v : Value) (wx : World) : Prop := ∃ i : Nat, i ≤ l.length ∧ v = .int .i64 i ∧ Hid (∀ q, ∀ h : q < l.length, q < i → l[q].2 ≤ p1) ∧ Hid (Ext wr wx) ∧ wx.cell? ⟨wr.heap.size, 0, none⟩ = some (.int .i64 p1) ∧ wx.cell? ⟨wr.heap.size, 1, none⟩ = some (.int .i64 p2) ∧ wr.heap.size < wx.heap.size
def EndRel (W0 : World) (base : Nat) (lc : List Sp) (vi v : Value) (wr : World) : Prop := ∃ (k : Nat) (A' : Option Addr) (c' : Nat) (out : List Int), k ≤ lc.length ∧ vi = .int .i64 k ∧ v = .slice A' out.length c' ∧ Hid (out = Sp.ends (lc.take k)) ∧ out.length ≤ k * 2 ∧ Hid (OwnsI base wr A' c' out) ∧ Hid (Ext W0 wr)

theorem Owns.keep {α : Type} {e : TypeId} {size base : Nat} {enc : α → List Value} {w w' : World} {A : Option Addr} {c : Nat} {l : List α} (h : Owns e size enc base w A c l) (hb : ∀ g, base ≤ g → g < w.heap.size → w'.heap[g]? = w.heap[g]?) : Owns e size enc base w' A c l := by
  refine ⟨h.1, ?_⟩
  rcases h.2 with k | ⟨g, cap, cur, h1, h2, h3, h4⟩
  · exact .inl k
  · exact .inr ⟨g, cap, cur, h1, h2, (hb g h2 (Array.getElem?_eq_some_iff.1 h3).1).trans h3, h4⟩

set_option maxRecDepth 100000 in
set_option maxHeartbeats 4000000 in
theorem cut1_in (l ba bb bo n0 : Nat) (A1 : Option Addr) (c1 : Nat) (l1 : List Sp) (A2 : Option Addr) (c2 : Nat) (l2 : List Sp) (W : World)
    (hlen : (l1.length + l2.length) * 16 ≤ 140737488350000) (hba : Boxed W ba 56 (.slice A1 l1.length c1)) (hbb : Boxed W bb 56 (.slice A2 l2.length c2)) (hr1 : ReadsSp W n0 A1 l1) (hr2 : ReadsSp W n0 A2 l2)
    (z1 : A1 = none → c1 = 0) (z2 : A2 = none → c2 = 0) (hn0 : n0 ≤ bo) (hbo : bo < W.heap.size) (hao : ba ≠ bo) (hbo2 : bb ≠ bo)
    (J : Nat → Nat → World → Prop) (h0 : ∀ W1, Ext W W1 → J W1.heap.size 0 W1) (hJ : ∀ B k W1 W2, J B k W1 → Ext W1 W2 → J B k W2)
    (hY : ∀ B k (h : k < (Sp.pieces (endsOf l1 l2)).length) i j W1, Hid (Sp.past l1 (Sp.pieces (endsOf l1 l2))[k].1 i) → Hid (Sp.past l2 (Sp.pieces (endsOf l1 l2))[k].1 j) → J B k W1 → ButS (CutS bo B) W W1 → W.heap.size ≤ B → B ≤ W1.heap.size →
      YieldAt Fence.wide 1 Tryz.prog l #[.agg #[.int .i64 (Sp.pieces (endsOf l1 l2))[k].1, .int .i64 (Sp.pieces (endsOf l1 l2))[k].2], .agg #[.bool (atB l1 i (Sp.pieces (endsOf l1 l2))[k].1), .bool (atB l2 j (Sp.pieces (endsOf l1 l2))[k].1)]] W1 fun e W' => e = .returned (.bool true) ∧ J B (k + 1) W' ∧ ButS (CutS bo B) W1 W') :
    CallsIn Fence.wide 2 Tryz.prog 208 #[.func (.yield l) #[] #[], .pointer (some ⟨ba, 0, none⟩), .pointer (some ⟨bb, 0, none⟩)] W fun e W' => (∃ v, e = .returned v) ∧ ∃ B, W.heap.size ≤ B ∧ J B (Sp.pieces (endsOf l1 l2)).length W' ∧ ButS (CutS bo B) W W' := by
  refine callsIn_of_wp Tryz.func208 rfl trivial ?_ rfl
  simp only [Tryz.ntmps208, List.size_toArray, List.length_cons, List.length_nil, Nat.reduceAdd, Nat.reduceSub, Array.replicate_succ, Array.replicate_zero, List.push_toArray, List.append_toArray, List.nil_append, List.cons_append]
  have hca := hba.cell
  have hcb := hbb.cell
  have hla := hba.lt
  have hlb := hbb.lt
  have HBA := Lib.hid hba
  have HBB := Lib.hid hbb
  have HY := Lib.hid hY
  have HJ := Lib.hid hJ
  have H0 := Lib.hid h0
  have HR1 := Lib.hid hr1
  have HR2 := Lib.hid hr2
  have HZ1 := Lib.hid z1
  have HZ2 := Lib.hid z2
  clear hY hJ h0 hr1 hr2 z1 z2 hba hbb
  gi_wp2_with (refine ⟨trivial, ?_⟩; gi_at_call 209; refine (callsIn_wide.2 (concat_any W.heap.size A1 c1 l1 A2 c2 l2 _ (by simp) (by rw [alloc_cell_if, if_pos rfl]; rfl) (by rw [alloc_cell_if, if_pos rfl]; rfl) ((HR1.out.up (by omega)).on ((Ext.refl _).alloc _)) ((HR2.out.up (by omega)).on ((Ext.refl _).alloc _)) HZ1.out HZ2.out (by omega))).mono ?_; rintro e w1 ⟨A3, c3, lc, rfl, HLC, ho3, hx3⟩; have HO3 := Lib.hid (ho3.reads spE); have HX3 : Hid (Ext W w1) := Lib.hid (((Ext.refl W).alloc _).trans hx3); have hlc : lc.length ≤ l1.length + l2.length := (by rw [HLC.out, List.length_append]; omega); have hsz3 := HX3.out.size; clear ho3 hx3)
  gi_loopw [16, 4] (EndRel w1 w1.heap.size lc) (fun i _ _ => lc.length - (intOf i).toNat)
  case atStart => exact ⟨0, none, 0, [], Nat.zero_le _, rfl, rfl, Lib.hid rfl, Nat.le_refl _, Lib.hid (Owns.nil _ _ _ _ _), Lib.hid (Ext.refl _)⟩
  case round =>
    obtain ⟨k, A', c', out, hk, rfl, rfl, HE, hol, HOw, HX⟩ := hrel
    have hszr := HX.out.size
    by_cases hlt : k < lc.length
    · obtain ⟨b, off, rfl, hb, d1, d2⟩ := ReadsSp.cell (HO3.out.ext HX.out (Nat.le_refl _)) k hlt
      have HS := Lib.hid (ends_snoc lc k hlt)
      rw [← HE.out] at HS
      generalize lc[k] = s at *
      obtain ⟨s1, s2⟩ := s
      simp only [] at d1 d2
      gi_wp2_with (gi_at_builtin; refine app_fromIn iT iE rfl _ _ rfl w1.heap.size _ _ out rfl ((HOw.out.alloc _).alloc _) _ 2 _ [s1, s2] rfl rfl (new_cellsAt (by simp) _ _) (by omega) (by omega) (by simp <;> omega) ?_; intro A5 c5 l5 w5 HL5 HO5 hB5 hl1 hl2 _; have HO5' := Lib.hid HO5; have HB5 := Lib.hid hB5; clear HO5 hB5)
      go_roundw
      case rel => exact ⟨k + 1, A5, c5, l5, by omega, by go_num, rfl, Lib.hid (by rw [HL5.out, HS.out]), by omega, HO5', Lib.hid (((HX.out.alloc _).alloc _).grown HB5.out (Nat.le_refl _))⟩
      case measure => simp [intOf]; omega
    · have e : k = lc.length := by omega
      subst e
      have HE2 : Hid (out = Sp.ends (l1 ++ l2)) := Lib.hid (by rw [HE.out, List.take_length, HLC.out])
      gi_wp2_with (first
        | (refine ⟨trivial, ?_⟩; gi_at_call 210; refine (callsIn_wide.2 (sortI_any w1.heap.size A' c' out _ (by omega) HOw.out)).mono ?_; rintro e w6 ⟨rfl, ho6, hb6⟩; have HO6 := Lib.hid ho6; have HB6 := Lib.hid hb6; have hms := msort_length out; clear ho6 hb6)
        | (refine ⟨trivial, ?_⟩; gi_at_call 211; rw [← hms]; refine (callsIn_wide.2 (compactI_any w1.heap.size A' c' (msort out) _ (by omega) HO6.out)).mono ?_; rintro e w7 ⟨rfl, ho7, hb7⟩; have HO7 := Lib.hid ho7; have HB7 := Lib.hid hb7; clear ho7 hb7))
      have hEW : Ext W w7 := ((HX3.out.trans HX.out).grown HB6.out (by omega)).grown HB7.out (by omega)
      have HEW := Lib.hid hEW
      have hq : endsOf l1 l2 = Lib.compact (msort out) := by rw [endsOf, ← HE2.out]
      rw [hq] at HY
      have HQ := Lib.hid hq
      have HSt := Lib.hid (hq ▸ endsOf_sorted l1 l2)
      have hEl := endsOf_length l1 l2
      rw [hq] at hEl
      have hsz6 := HB6.out.size
      have hsz7 := HB7.out.size
      clear hq hEW hca hcb
      generalize Lib.compact (msort out) = E at HO7 HY HQ HSt hEl ⊢
      gi_loopw [7, 8, 9] (CutRel (J w7.heap.size) bo l1 l2 E w7) (fun _ _ v _ => E.length - (intOf v).toNat)
      case atStart => exact ⟨0, 0, 1, rfl, rfl, rfl, Nat.le_refl _, .inr rfl, Nat.zero_le _, Nat.zero_le _, Lib.hid (fun q _ h => absurd h (Nat.not_lt_zero _)), Lib.hid (fun q _ h => absurd h (Nat.not_lt_zero _)), Lib.hid (H0.out w7 HEW.out), Lib.hid (ButS.refl _ _)⟩
      case round =>
        obtain ⟨i, j, n, rfl, rfl, rfl, hn1, hn2, hi, hj, HP1, HP2, HJn, HB⟩ := hrel
        generalize wr = wo at *
        have hszB := HB.out.size
        have hszW := HEW.out.size
        have hca : wo.cell? ⟨ba, 0, none⟩ = some (.slice A1 l1.length c1) := (HB.out.boxed (Boxed.ext HBA.out HEW.out) (by unfold CutS; omega)).cell
        have hcb : wo.cell? ⟨bb, 0, none⟩ = some (.slice A2 l2.length c2) := (HB.out.boxed (Boxed.ext HBB.out HEW.out) (by unfold CutS; omega)).cell
        have HO8 : Hid (OwnsI w1.heap.size wo A' c' E) := Lib.hid (HO7.out.keep (fun g h1 h2 => HB.out.block g h2 (by unfold CutS; omega)))
        have HR1o : Hid (ReadsSp wo n0 A1 l1) := Lib.hid ((HR1.out.ext HEW.out (by omega)).butS HB.out (by omega) (fun k hk => by unfold CutS; omega))
        have HR2o : Hid (ReadsSp wo n0 A2 l2) := Lib.hid ((HR2.out.ext HEW.out (by omega)).butS HB.out (by omega) (fun k hk => by unfold CutS; omega))
        by_cases hlt : n < E.length
        · obtain ⟨be, offe, rfl, hbe, e1⟩ := ReadsI.cell (HO8.out.reads iE) (n - 1) (by omega)
          obtain ⟨be', offe', eqA, _, e2⟩ := ReadsI.cell (HO8.out.reads iE) n hlt
          injection eqA with eqA
          injection eqA with eq1 eq2
          subst eq1 eq2
          obtain ⟨p1, hp1⟩ : ∃ p, E[n - 1] = p := ⟨_, rfl⟩
          obtain ⟨p2, hp2⟩ : ∃ p, E[n] = p := ⟨_, rfl⟩
          have hkp : n - 1 < (Sp.pieces E).length := by rw [Sp.pieces_length]; omega
          have HPv : Hid ((Sp.pieces E)[n - 1] = (p1, p2)) := Lib.hid (by
            have h1 := Sp.pieces_get E (n - 1) (by omega)
            rw [List.getElem?_eq_getElem hkp] at h1
            have h2 := Option.some.inj h1
            have e : n - 1 + 1 = n := by omega
            simp only [e] at h2
            rw [h2, hp1, hp2])
          have HK := Lib.hid hkp
          have HLE : Hid (p1 < p2) := Lib.hid (by rw [← hp1, ← hp2]; exact List.pairwise_iff_getElem.1 HSt.out (n - 1) n (by omega) hlt (by omega))
          have HP1' : Hid (∀ q, ∀ h : q < l1.length, q < i → l1[q].2 ≤ p1) := Lib.hid (fun q h k => by rw [← hp1]; exact HP1.out q h k (by omega))
          have HP2' : Hid (∀ q, ∀ h : q < l2.length, q < j → l2[q].2 ≤ p1) := Lib.hid (fun q h k => by rw [← hp1]; exact HP2.out q h k (by omega))
          have HN1 : Hid (∀ i', (∀ q, ∀ h : q < l1.length, q < i' → l1[q].2 ≤ p1) → PastTo l1 E (n + 1) i') := Lib.hid (fun i' hh q h k hn => by
            have h1 := hh q h k
            have h2 := HLE.out
            simp only [Nat.add_sub_cancel, hp2]
            omega)
          have HN2 : Hid (∀ i', (∀ q, ∀ h : q < l2.length, q < i' → l2[q].2 ≤ p1) → PastTo l2 E (n + 1) i') := Lib.hid (fun i' hh q h k hn => by
            have h1 := hh q h k
            have h2 := HLE.out
            simp only [Nat.add_sub_cancel, hp2]
            omega)
          rw [hp1] at e1
          rw [hp2] at e2
          clear hp1 hp2
          gi_wp2
          refine wpIn_wide.2 ?_
          go_region
          gi_wp2
          gi_loopw [7] (InRel wo p1 p2 l1) (fun v _ => l1.length - (intOf v).toNat)
          case atStart => exact ⟨i, hi, rfl, HP1', Lib.hid (((Ext.refl wo).alloc _).drew), (RowAt.drew (RowAt.new wo #[.int .i64 p1, .int .i64 p2] 26)).cell 0, (RowAt.drew (RowAt.new wo #[.int .i64 p1, .int .i64 p2] 26)).cell 1, by simp⟩
          case round =>
            obtain ⟨i1, hi1, rfl, HQ1, HXx, s1', s2', hsx⟩ := hrel
            generalize wr = wx at *
            have hcax : wx.cell? ⟨ba, 0, none⟩ = some (.slice A1 l1.length c1) := (HXx.out.cell (p := ⟨ba, 0, none⟩) (by show ba < _; omega)).trans hca
            have hcbx : wx.cell? ⟨bb, 0, none⟩ = some (.slice A2 l2.length c2) := (HXx.out.cell (p := ⟨bb, 0, none⟩) (by show bb < _; omega)).trans hcb
            by_cases hia : i1 < l1.length
            · obtain ⟨b1, off1, rfl, hb1, x1c, x2c⟩ := ReadsSp.cell HR1o.out i1 hia
              have x1d := (HXx.out.cell (p := ⟨b1, off1 + i1 * 2, none⟩) (by show b1 < _; omega)).trans x1c
              have x2d := (HXx.out.cell (p := ⟨b1, off1 + i1 * 2 + 1, none⟩) (by show b1 < _; omega)).trans x2c
              have da0 : decide (i1 < l1.length) = true := by simpa using hia
              have da1 : decide ((i1 : Int) < (l1.length : Int)) = true := by simp; omega
              have HQs : Hid (l1[i1].2 ≤ p1 → ∀ q, ∀ h : q < l1.length, q < i1 + 1 → l1[q].2 ≤ p1) := Lib.hid (fun hh q h k => by
                by_cases e : q = i1
                · subst e; exact hh
                · exact HQ1.out q h (by omega))
              have HPq : Hid (p1 < l1[i1].2 → Sp.past l1 p1 i1) := Lib.hid (fun hh => ⟨hi1, fun q h k => HQ1.out q h k, fun _ => hh⟩)
              have HAt : Hid (atB l1 i1 p1 = decide (l1[i1].1 ≤ p1)) := Lib.hid (by simp [atB, hia])
              generalize l1[i1] = x at *
              obtain ⟨x1, x2⟩ := x
              simp only [] at x1c x2c x1d x2d
              by_cases hxp : x2 ≤ p1
              · have dx : decide (x2 ≤ p1) = true := by simpa using hxp
                have HQn := Lib.hid (HQs.out hxp)
                gi_wp2
                refine wpIn_wide.2 ?_
                refine wp_region_later (by kernel_rfl) (by kernel_rfl) ?_
                repeat (first | go_big_quiet_step (fail) | quiet_step (fail))
                refine wpQuiet_nil ?_
                rintro _ ⟨xq, rfl⟩
                gi_wp2
                go_roundw
                case rel => exact ⟨i1 + 1, by omega, by go_num, HQn, Lib.hid (HXx.out.onto _), by rw [later_cell_if, if_pos (by omega)]; exact s1', by rw [later_cell_if, if_pos (by omega)]; exact s2', by rw [later_size]; omega⟩
                case measure => simp [intOf]; omega
              · have dx : decide (x2 ≤ p1) = false := by simp; omega
                have HPs1 := Lib.hid (HPq.out (by show p1 < x2; omega))
                have HA1 := HAt
                gi_wp2
                refine wpIn_wide.2 ?_
                refine wp_region_later (by kernel_rfl) (by kernel_rfl) ?_
                repeat (first | go_big_quiet_step (fail) | quiet_step (fail))
                refine wpQuiet_nil ?_
                rintro _ ⟨xq, rfl⟩
                gi_wp2
                gi_loopw [8] (InRel wo p1 p2 l2) (fun v _ => l2.length - (intOf v).toNat)
                case atStart => exact ⟨j, hj, rfl, HP2', Lib.hid (HXx.out.onto _), by rw [later_cell_if, if_pos (by omega)]; exact s1', by rw [later_cell_if, if_pos (by omega)]; exact s2', by rw [later_size]; omega⟩
                case round =>
                  obtain ⟨j1, hj1, rfl, HQ2, HXy, t1', t2', hsy⟩ := hrel
                  generalize wr = wy at *
                  have hcay := (HXy.out.cell (p := ⟨ba, 0, none⟩) (by show ba < _; omega)).trans hca
                  have hcby := (HXy.out.cell (p := ⟨bb, 0, none⟩) (by show bb < _; omega)).trans hcb
                  have x1y := (HXy.out.cell (p := ⟨b1, off1 + i1 * 2, none⟩) (by show b1 < _; omega)).trans x1c
                  by_cases hjb : j1 < l2.length
                  · obtain ⟨b2, off2, rfl, hb2, y1o, y2o⟩ := ReadsSp.cell HR2o.out j1 hjb
                    have y1c := (HXy.out.cell (p := ⟨b2, off2 + j1 * 2, none⟩) (by show b2 < _; omega)).trans y1o
                    have y2c := (HXy.out.cell (p := ⟨b2, off2 + j1 * 2 + 1, none⟩) (by show b2 < _; omega)).trans y2o
                    have db0 : decide (j1 < l2.length) = true := by simpa using hjb
                    have db1 : decide ((j1 : Int) < (l2.length : Int)) = true := by simp; omega
                    have HQs2 : Hid (l2[j1].2 ≤ p1 → ∀ q, ∀ h : q < l2.length, q < j1 + 1 → l2[q].2 ≤ p1) := Lib.hid (fun hh q h k => by
                      by_cases e : q = j1
                      · subst e; exact hh
                      · exact HQ2.out q h (by omega))
                    have HPq2 : Hid (p1 < l2[j1].2 → Sp.past l2 p1 j1) := Lib.hid (fun hh => ⟨hj1, fun q h k => HQ2.out q h k, fun _ => hh⟩)
                    have HAt2 : Hid (atB l2 j1 p1 = decide (l2[j1].1 ≤ p1)) := Lib.hid (by simp [atB, hjb])
                    generalize l2[j1] = y at *
                    obtain ⟨y1, y2⟩ := y
                    simp only [] at y1c y2c y1o y2o
                    by_cases hyp : y2 ≤ p1
                    · have dy : decide (y2 ≤ p1) = true := by simpa using hyp
                      have HQn2 := Lib.hid (HQs2.out hyp)
                      gi_wp2
                      refine wpIn_wide.2 ?_
                      refine wp_region_later (by kernel_rfl) (by kernel_rfl) ?_
                      repeat (first | go_big_quiet_step (fail) | quiet_step (fail))
                      refine wpQuiet_nil ?_
                      rintro _ ⟨xq, rfl⟩
                      gi_wp2
                      go_roundw
                      case rel => exact ⟨j1 + 1, by omega, by go_num, HQn2, Lib.hid (HXy.out.onto _), by rw [later_cell_if, if_pos (by omega)]; exact t1', by rw [later_cell_if, if_pos (by omega)]; exact t2', by rw [later_size]; omega⟩
                      case measure => simp [intOf]; omega
                    · have dy : decide (y2 ≤ p1) = false := by simp; omega
                      have HPs2 := Lib.hid (HPq2.out (by show p1 < y2; omega))
                      have HA2 := HAt2
                      gi_wp2
                      refine wpIn_wide.2 ?_
                      refine wp_region_later (by kernel_rfl) (by kernel_rfl) ?_
                      repeat (first | go_big_quiet_step (fail) | quiet_step (fail))
                      refine wpQuiet_nil ?_
                      rintro _ ⟨xq, rfl⟩
                      gi_wp2
                      refine wpIn_region_later_tail rfl 31 (by kernel_rfl) (by kernel_rfl) ?_
                      simp only [List.take_succ_cons, List.take_zero, List.drop_succ_cons, List.drop_zero]
                      repeat (first | gi_big_quiet_step (fail) | quiet_step_in (fail))
                      refine wpQuietIn_nil ?_
                      rintro _ ⟨xr, rfl⟩
                      rw [later_later]
                      have hy0 := HY.out w7.heap.size (n - 1) HK.out i1 j1 (later wy (xq.comp xr)) (by rw [HPv.out]; exact HPs1) (by rw [HPv.out]; exact HPs2) (HJ.out _ _ _ _ HJn.out (HXy.out.onto _)) (((ButS.of_ext HEW.out).trans HB.out).ext (HXy.out.onto _)) (by omega) (by have := (HXy.out.onto (xq.comp xr)).size; omega)
                      simp only [HPv.out, HA1.out, HA2.out] at hy0
                      obtain ⟨fn, tmps, assign, body, hy, hR⟩ := hy0
                      have HRR := Lib.hid hR
                      clear hR
                      gi_wp2
                      refine HRR.out.mono ?_
                      rintro e W' ⟨rfl, hj', hb'⟩
                      have HJ2 := Lib.hid hj'
                      have HB2 : Hid (ButS (CutS bo w7.heap.size) w7 W') := Lib.hid ((HB.out.ext (HXy.out.onto _)).trans hb')
                      clear hj' hb' hy HRR
                      gi_wp2
                      go_roundw
                      case rel => exact ⟨i1, j1, n + 1, rfl, rfl, by go_num, by omega, .inl (by omega), by omega, by omega, Lib.hid (HN1.out i1 HQ1.out), Lib.hid (HN2.out j1 HQ2.out), Lib.hid (by have h := HJ2.out; rw [show n - 1 + 1 = n + 1 - 1 by omega] at h; exact h), HB2⟩
                      case measure => simp [intOf]; omega
                  · have db0 : decide (j1 < l2.length) = false := by simpa using hjb
                    have db1 : decide ((j1 : Int) < (l2.length : Int)) = false := by simp; omega
                    have HPs2 : Hid (Sp.past l2 p1 j1) := Lib.hid ⟨hj1, fun q h k => HQ2.out q h k, fun h => absurd h hjb⟩
                    have HA2 : Hid (atB l2 j1 p1 = false) := Lib.hid (by simp [atB, hjb])
                    gi_wp2
                    refine wpIn_wide.2 ?_
                    refine wp_region_later (by kernel_rfl) (by kernel_rfl) ?_
                    repeat (first | go_big_quiet_step (fail) | quiet_step (fail))
                    refine wpQuiet_nil ?_
                    rintro _ ⟨xq, rfl⟩
                    gi_wp2
                    refine wpIn_region_later_tail rfl 31 (by kernel_rfl) (by kernel_rfl) ?_
                    simp only [List.take_succ_cons, List.take_zero, List.drop_succ_cons, List.drop_zero]
                    repeat (first | gi_big_quiet_step (fail) | quiet_step_in (fail))
                    refine wpQuietIn_nil ?_
                    rintro _ ⟨xr, rfl⟩
                    rw [later_later]
                    have hy0 := HY.out w7.heap.size (n - 1) HK.out i1 j1 (later wy (xq.comp xr)) (by rw [HPv.out]; exact HPs1) (by rw [HPv.out]; exact HPs2) (HJ.out _ _ _ _ HJn.out (HXy.out.onto _)) (((ButS.of_ext HEW.out).trans HB.out).ext (HXy.out.onto _)) (by omega) (by have := (HXy.out.onto (xq.comp xr)).size; omega)
                    simp only [HPv.out, HA1.out, HA2.out] at hy0
                    obtain ⟨fn, tmps, assign, body, hy, hR⟩ := hy0
                    have HRR := Lib.hid hR
                    clear hR
                    gi_wp2
                    refine HRR.out.mono ?_
                    rintro e W' ⟨rfl, hj', hb'⟩
                    have HJ2 := Lib.hid hj'
                    have HB2 : Hid (ButS (CutS bo w7.heap.size) w7 W') := Lib.hid ((HB.out.ext (HXy.out.onto _)).trans hb')
                    clear hj' hb' hy HRR
                    gi_wp2
                    go_roundw
                    case rel => exact ⟨i1, j1, n + 1, rfl, rfl, by go_num, by omega, .inl (by omega), by omega, by omega, Lib.hid (HN1.out i1 HQ1.out), Lib.hid (HN2.out j1 HQ2.out), Lib.hid (by have h := HJ2.out; rw [show n - 1 + 1 = n + 1 - 1 by omega] at h; exact h), HB2⟩
                    case measure => simp [intOf]; omega
            · have da0 : decide (i1 < l1.length) = false := by simpa using hia
              have da1 : decide ((i1 : Int) < (l1.length : Int)) = false := by simp; omega
              have HPs1 : Hid (Sp.past l1 p1 i1) := Lib.hid ⟨hi1, fun q h k => HQ1.out q h k, fun h => absurd h hia⟩
              have HA1 : Hid (atB l1 i1 p1 = false) := Lib.hid (by simp [atB, hia])
              gi_wp2
              refine wpIn_wide.2 ?_
              refine wp_region_later (by kernel_rfl) (by kernel_rfl) ?_
              repeat (first | go_big_quiet_step (fail) | quiet_step (fail))
              refine wpQuiet_nil ?_
              rintro _ ⟨xq, rfl⟩
              gi_wp2
              gi_loopw [8] (InRel wo p1 p2 l2) (fun v _ => l2.length - (intOf v).toNat)
              case atStart => exact ⟨j, hj, rfl, HP2', Lib.hid (HXx.out.onto _), by rw [later_cell_if, if_pos (by omega)]; exact s1', by rw [later_cell_if, if_pos (by omega)]; exact s2', by rw [later_size]; omega⟩
              case round =>
                obtain ⟨j1, hj1, rfl, HQ2, HXy, t1', t2', hsy⟩ := hrel
                generalize wr = wy at *
                have hcay := (HXy.out.cell (p := ⟨ba, 0, none⟩) (by show ba < _; omega)).trans hca
                have hcby := (HXy.out.cell (p := ⟨bb, 0, none⟩) (by show bb < _; omega)).trans hcb
                skip
                by_cases hjb : j1 < l2.length
                · obtain ⟨b2, off2, rfl, hb2, y1o, y2o⟩ := ReadsSp.cell HR2o.out j1 hjb
                  have y1c := (HXy.out.cell (p := ⟨b2, off2 + j1 * 2, none⟩) (by show b2 < _; omega)).trans y1o
                  have y2c := (HXy.out.cell (p := ⟨b2, off2 + j1 * 2 + 1, none⟩) (by show b2 < _; omega)).trans y2o
                  have db0 : decide (j1 < l2.length) = true := by simpa using hjb
                  have db1 : decide ((j1 : Int) < (l2.length : Int)) = true := by simp; omega
                  have HQs2 : Hid (l2[j1].2 ≤ p1 → ∀ q, ∀ h : q < l2.length, q < j1 + 1 → l2[q].2 ≤ p1) := Lib.hid (fun hh q h k => by
                    by_cases e : q = j1
                    · subst e; exact hh
                    · exact HQ2.out q h (by omega))
                  have HPq2 : Hid (p1 < l2[j1].2 → Sp.past l2 p1 j1) := Lib.hid (fun hh => ⟨hj1, fun q h k => HQ2.out q h k, fun _ => hh⟩)
                  have HAt2 : Hid (atB l2 j1 p1 = decide (l2[j1].1 ≤ p1)) := Lib.hid (by simp [atB, hjb])
                  generalize l2[j1] = y at *
                  obtain ⟨y1, y2⟩ := y
                  simp only [] at y1c y2c y1o y2o
                  by_cases hyp : y2 ≤ p1
                  · have dy : decide (y2 ≤ p1) = true := by simpa using hyp
                    have HQn2 := Lib.hid (HQs2.out hyp)
                    gi_wp2
                    refine wpIn_wide.2 ?_
                    refine wp_region_later (by kernel_rfl) (by kernel_rfl) ?_
                    repeat (first | go_big_quiet_step (fail) | quiet_step (fail))
                    refine wpQuiet_nil ?_
                    rintro _ ⟨xq, rfl⟩
                    gi_wp2
                    go_roundw
                    case rel => exact ⟨j1 + 1, by omega, by go_num, HQn2, Lib.hid (HXy.out.onto _), by rw [later_cell_if, if_pos (by omega)]; exact t1', by rw [later_cell_if, if_pos (by omega)]; exact t2', by rw [later_size]; omega⟩
                    case measure => simp [intOf]; omega
                  · have dy : decide (y2 ≤ p1) = false := by simp; omega
                    have HPs2 := Lib.hid (HPq2.out (by show p1 < y2; omega))
                    have HA2 := HAt2
                    gi_wp2
                    refine wpIn_wide.2 ?_
                    refine wp_region_later (by kernel_rfl) (by kernel_rfl) ?_
                    repeat (first | go_big_quiet_step (fail) | quiet_step (fail))
                    refine wpQuiet_nil ?_
                    rintro _ ⟨xq, rfl⟩
                    gi_wp2
                    refine wpIn_region_later_tail rfl 31 (by kernel_rfl) (by kernel_rfl) ?_
                    simp only [List.take_succ_cons, List.take_zero, List.drop_succ_cons, List.drop_zero]
                    repeat (first | gi_big_quiet_step (fail) | quiet_step_in (fail))
                    refine wpQuietIn_nil ?_
                    rintro _ ⟨xr, rfl⟩
                    rw [later_later]
                    have hy0 := HY.out w7.heap.size (n - 1) HK.out i1 j1 (later wy (xq.comp xr)) (by rw [HPv.out]; exact HPs1) (by rw [HPv.out]; exact HPs2) (HJ.out _ _ _ _ HJn.out (HXy.out.onto _)) (((ButS.of_ext HEW.out).trans HB.out).ext (HXy.out.onto _)) (by omega) (by have := (HXy.out.onto (xq.comp xr)).size; omega)
                    simp only [HPv.out, HA1.out, HA2.out] at hy0
                    obtain ⟨fn, tmps, assign, body, hy, hR⟩ := hy0
                    have HRR := Lib.hid hR
                    clear hR
                    gi_wp2
                    refine HRR.out.mono ?_
                    rintro e W' ⟨rfl, hj', hb'⟩
                    have HJ2 := Lib.hid hj'
                    have HB2 : Hid (ButS (CutS bo w7.heap.size) w7 W') := Lib.hid ((HB.out.ext (HXy.out.onto _)).trans hb')
                    clear hj' hb' hy HRR
                    gi_wp2
                    go_roundw
                    case rel => exact ⟨i1, j1, n + 1, rfl, rfl, by go_num, by omega, .inl (by omega), by omega, by omega, Lib.hid (HN1.out i1 HQ1.out), Lib.hid (HN2.out j1 HQ2.out), Lib.hid (by have h := HJ2.out; rw [show n - 1 + 1 = n + 1 - 1 by omega] at h; exact h), HB2⟩
                    case measure => simp [intOf]; omega
                · have db0 : decide (j1 < l2.length) = false := by simpa using hjb
                  have db1 : decide ((j1 : Int) < (l2.length : Int)) = false := by simp; omega
                  have HPs2 : Hid (Sp.past l2 p1 j1) := Lib.hid ⟨hj1, fun q h k => HQ2.out q h k, fun h => absurd h hjb⟩
                  have HA2 : Hid (atB l2 j1 p1 = false) := Lib.hid (by simp [atB, hjb])
                  gi_wp2
                  refine wpIn_wide.2 ?_
                  refine wp_region_later (by kernel_rfl) (by kernel_rfl) ?_
                  repeat (first | go_big_quiet_step (fail) | quiet_step (fail))
                  refine wpQuiet_nil ?_
                  rintro _ ⟨xq, rfl⟩
                  gi_wp2
                  refine wpIn_region_later_tail rfl 31 (by kernel_rfl) (by kernel_rfl) ?_
                  simp only [List.take_succ_cons, List.take_zero, List.drop_succ_cons, List.drop_zero]
                  repeat (first | gi_big_quiet_step (fail) | quiet_step_in (fail))
                  refine wpQuietIn_nil ?_
                  rintro _ ⟨xr, rfl⟩
                  rw [later_later]
                  have hy0 := HY.out w7.heap.size (n - 1) HK.out i1 j1 (later wy (xq.comp xr)) (by rw [HPv.out]; exact HPs1) (by rw [HPv.out]; exact HPs2) (HJ.out _ _ _ _ HJn.out (HXy.out.onto _)) (((ButS.of_ext HEW.out).trans HB.out).ext (HXy.out.onto _)) (by omega) (by have := (HXy.out.onto (xq.comp xr)).size; omega)
                  simp only [HPv.out, HA1.out, HA2.out] at hy0
                  obtain ⟨fn, tmps, assign, body, hy, hR⟩ := hy0
                  have HRR := Lib.hid hR
                  clear hR
                  gi_wp2
                  refine HRR.out.mono ?_
                  rintro e W' ⟨rfl, hj', hb'⟩
                  have HJ2 := Lib.hid hj'
                  have HB2 : Hid (ButS (CutS bo w7.heap.size) w7 W') := Lib.hid ((HB.out.ext (HXy.out.onto _)).trans hb')
                  clear hj' hb' hy HRR
                  gi_wp2
                  go_roundw
                  case rel => exact ⟨i1, j1, n + 1, rfl, rfl, by go_num, by omega, .inl (by omega), by omega, by omega, Lib.hid (HN1.out i1 HQ1.out), Lib.hid (HN2.out j1 HQ2.out), Lib.hid (by have h := HJ2.out; rw [show n - 1 + 1 = n + 1 - 1 by omega] at h; exact h), HB2⟩
                  case measure => simp [intOf]; omega
        · gi_wp2
          go_end0
          refine ⟨⟨_, rfl⟩, w7.heap.size, HEW.out.size, ?_, (ButS.of_ext HEW.out).trans HB.out⟩
          rw [HQ.out, Sp.pieces_length]
          have h := HJn.out
          rw [show n - 1 = E.length - 1 by omega] at h
          exact h
end Go.Proofs.YtpjacgcaibaggaaGreatDoor

namespace Go.Proofs.YtpjacgcaibaggaaGreatDoor
open Go.RowKit Go.Shelf
open Go.Proofs
open Go.Proofs.Sp (Sp)
attribute [local go_sem] Oper.semAt_some

/-- What Minus collects: the pieces that the first has and the second has not. -/
def minusOf (l1 l2 : List Sp) (k : Nat) : List Sp := ((Sp.pieces (endsOf l1 l2)).take k).filter fun p => hasB l1 p.1 && !(hasB l2 p.1)
theorem minusOf_snoc (l1 l2 : List Sp) (k : Nat) (h : k < (Sp.pieces (endsOf l1 l2)).length) : minusOf l1 l2 (k + 1) = minusOf l1 l2 k ++ (if hasB l1 (Sp.pieces (endsOf l1 l2))[k].1 && !(hasB l2 (Sp.pieces (endsOf l1 l2))[k].1) then [(Sp.pieces (endsOf l1 l2))[k]] else []) := by
  unfold minusOf
  rw [List.take_succ_eq_append_getElem h, List.filter_append]
  congr 1
  by_cases hh : (hasB l1 (Sp.pieces (endsOf l1 l2))[k].1 && !(hasB l2 (Sp.pieces (endsOf l1 l2))[k].1)) = true
  · rw [if_pos hh]; exact List.filter_cons_of_pos hh
  · rw [if_neg hh]; exact List.filter_cons_of_neg hh
theorem minusOf_len (l1 l2 : List Sp) (k : Nat) : (minusOf l1 l2 k).length ≤ k := by
  unfold minusOf
  exact Nat.le_trans (List.length_filter_le _ _) (by rw [List.length_take]; omega)
theorem atB_has {l : List Sp} (hs : Sp.IsSet l) {p : Int} {i : Nat} (h : Sp.past l p i) : atB l i p = hasB l p := by
  rw [Bool.eq_iff_iff, hasB_iff, Sp.past_mem hs h]
  simp only [atB, Bool.and_eq_true, decide_eq_true_eq]
  constructor
  · rintro ⟨h1, h2⟩; exact ⟨h1, by simpa [h1] using h2⟩
  · rintro ⟨h1, h2⟩; exact ⟨h1, by simpa [h1] using h2⟩
theorem minus_mem {l1 l2 : List Sp} {k : Nat} (hk : (Sp.pieces (endsOf l1 l2)).length ≤ k) (x : Int) : Sp.mem (minusOf l1 l2 k) x ↔ Sp.mem l1 x ∧ ¬ Sp.mem l2 x := by
  have hso := endsOf_sorted l1 l2
  have hE1 : ∀ t ∈ l1, t.1 ∈ endsOf l1 l2 ∧ t.2 ∈ endsOf l1 l2 := fun t ht => by
    have := Sp.mem_ends (l := l1 ++ l2) (s := t) (List.mem_append.2 (.inl ht))
    exact ⟨(endsOf_mem ..).2 this.1, (endsOf_mem ..).2 this.2⟩
  have hE2 : ∀ t ∈ l2, t.1 ∈ endsOf l1 l2 ∧ t.2 ∈ endsOf l1 l2 := fun t ht => by
    have := Sp.mem_ends (l := l1 ++ l2) (s := t) (List.mem_append.2 (.inr ht))
    exact ⟨(endsOf_mem ..).2 this.1, (endsOf_mem ..).2 this.2⟩
  unfold minusOf
  rw [List.take_of_length_le hk]
  constructor
  · rintro ⟨s, hs, h1, h2⟩
    obtain ⟨hs1, hs2⟩ := List.mem_filter.1 hs
    obtain ⟨_, _, _, hn⟩ := Sp.pieces_none hso s hs1
    simp only [Bool.and_eq_true, Bool.not_eq_true', hasB_iff] at hs2
    refine ⟨(Sp.mem_piece hE1 hn h1 h2).2 hs2.1, fun hm => ?_⟩
    have := (Sp.mem_piece hE2 hn h1 h2).1 hm
    rw [← hasB_iff, hs2.2] at this
    cases this
  · rintro ⟨⟨t, ht, a, b⟩, hno⟩
    obtain ⟨s, hs, h1, h2⟩ := Sp.pieces_cover hso (hE1 t ht).1 (hE1 t ht).2 a b
    obtain ⟨_, _, _, hn⟩ := Sp.pieces_none hso s hs
    refine ⟨s, List.mem_filter.2 ⟨hs, ?_⟩, h1, h2⟩
    simp only [Bool.and_eq_true, Bool.not_eq_true', hasB_iff]
    refine ⟨(Sp.mem_piece hE1 hn h1 h2).1 ⟨t, ht, a, b⟩, ?_⟩
    cases hh : hasB l2 s.1 with
    | false => rfl
    | true => exact absurd ((Sp.mem_piece hE2 hn h1 h2).2 (hasB_iff.1 hh)) hno

theorem cut_any (A1 : Option Addr) (n1 c1 : Nat) (A2 : Option Addr) (n2 c2 : Nat) (w : World) :
    Calls Tryz.prog 165 #[.slice A1 n1 c1, .slice A2 n2 c2] w fun e w' => e = .returned (.func (.func 208) #[] #[.pointer (some ⟨w.heap.size, 0, none⟩), .pointer (some ⟨w.heap.size + 1, 0, none⟩)]) ∧
      (w.alloc (.cells #[.slice A1 n1 c1] 56)).alloc (.cells #[.slice A2 n2 c2] 56) = w' := by
  go_enter Tryz.func165, Tryz.ntmps165
  go_wp2
  go_ret
  exact ⟨rfl, rfl⟩

def bd2 (l : List Sp) : Prop := ∀ s ∈ l, (-4611686018427387904 ≤ s.1 ∧ s.1 ≤ 4611686018427387903) ∧ -4611686018427387904 ≤ s.2 ∧ s.2 ≤ 4611686018427387903
theorem minus_bd {l1 l2 : List Sp} (h1 : bd2 l1) (h2 : bd2 l2) (k : Nat) : bdSp (minusOf l1 l2 k) := by
  intro s hs
  have hs1 := List.mem_of_mem_take (List.mem_filter.1 hs).1
  obtain ⟨_, hm, _⟩ := Sp.pieces_none (endsOf_sorted l1 l2) s hs1
  rw [endsOf_mem] at hm
  obtain ⟨t, ht, hx⟩ := List.mem_flatMap.1 hm
  have hb : (-4611686018427387904 ≤ t.1 ∧ t.1 ≤ 4611686018427387903) ∧ -4611686018427387904 ≤ t.2 ∧ t.2 ≤ 4611686018427387903 := by
    rcases List.mem_append.1 ht with ht | ht
    · exact h1 t ht
    · exact h2 t ht
  simp only [List.mem_cons, List.not_mem_nil, or_false] at hx
  rcases hx with hx | hx <;> rw [hx]
  · exact hb.1
  · exact hb.2
theorem pieces_le (l1 l2 : List Sp) : (Sp.pieces (endsOf l1 l2)).length ≤ (l1.length + l2.length) * 2 := by
  have := endsOf_length l1 l2
  rw [Sp.pieces_length]; omega

set_option maxRecDepth 100000 in
set_option maxHeartbeats 4000000 in
theorem minus_any (A1 : Option Addr) (c1 : Nat) (l1 : List Sp) (A2 : Option Addr) (c2 : Nat) (l2 : List Sp) (w : World) (hs1 : Sp.IsSet l1) (hs2 : Sp.IsSet l2) (hb1 : bd2 l1) (hb2 : bd2 l2)
    (hlen : (l1.length + l2.length) * 32 ≤ 140737488350000) (hr1 : ReadsSp w w.heap.size A1 l1) (hr2 : ReadsSp w w.heap.size A2 l2) (z1 : A1 = none → c1 = 0) (z2 : A2 = none → c2 = 0) :
    Calls Tryz.prog 127 #[.slice A1 l1.length c1, .slice A2 l2.length c2] w fun e w' => ∃ A' c' out, e = .returned (.slice A' out.length c') ∧ Hid (SetOf (fun x => Sp.mem l1 x ∧ ¬ Sp.mem l2 x) out) ∧ out.length ≤ (l1.length + l2.length) * 2 ∧ OwnsSp w.heap.size w' A' c' out ∧ Ext w w' := by
  have HR1 := Lib.hid hr1
  have HR2 := Lib.hid hr2
  have HZ1 := Lib.hid z1
  have HZ2 := Lib.hid z2
  have HS1 := Lib.hid hs1
  have HS2 := Lib.hid hs2
  have HB1 := Lib.hid hb1
  have HB2 := Lib.hid hb2
  have hpl := pieces_le l1 l2
  clear hr1 hr2 z1 z2 hs1 hs2 hb1 hb2
  refine (callsIn_wide (n := 3)).1 ?_
  refine callsIn_of_wp_marks Tryz.func127 rfl trivial ?_ rfl
  simp only [Tryz.ntmps127, List.size_toArray, List.length_cons, List.length_nil, Nat.reduceAdd, Nat.reduceSub, Array.replicate_succ, Array.replicate_zero, List.push_toArray, List.append_toArray, List.nil_append, List.cons_append]
  gi_wp2_with (refine ⟨trivial, ?_⟩; gi_at_call 165; refine (callsIn_wide.2 (cut_any _ _ _ _ _ _ _)).mono ?_; rintro e w2 ⟨rfl, rfl⟩)
  have b1 : Boxed (((w.alloc (.cells #[.slice none 0 0] 56)).alloc (.cells #[.slice A1 l1.length c1] 56)).alloc (.cells #[.slice A2 l2.length c2] 56)) w.heap.size 56 (.slice none 0 0) := ((Boxed.new w 56 _).alloc _).alloc _
  have b2 : Boxed (((w.alloc (.cells #[.slice none 0 0] 56)).alloc (.cells #[.slice A1 l1.length c1] 56)).alloc (.cells #[.slice A2 l2.length c2] 56)) (w.heap.size + 1) 56 (.slice A1 l1.length c1) := by
    have := Boxed.new (w.alloc (.cells #[.slice none 0 0] 56)) 56 (.slice A1 l1.length c1); rw [World.size_alloc] at this; exact this.alloc _
  have b3 : Boxed (((w.alloc (.cells #[.slice none 0 0] 56)).alloc (.cells #[.slice A1 l1.length c1] 56)).alloc (.cells #[.slice A2 l2.length c2] 56)) (w.heap.size + 1 + 1) 56 (.slice A2 l2.length c2) := by
    have := Boxed.new ((w.alloc (.cells #[.slice none 0 0] 56)).alloc (.cells #[.slice A1 l1.length c1] 56)) 56 (.slice A2 l2.length c2); rw [World.size_alloc, World.size_alloc] at this; exact this
  have bs : (((w.alloc (.cells #[.slice none 0 0] 56)).alloc (.cells #[.slice A1 l1.length c1] 56)).alloc (.cells #[.slice A2 l2.length c2] 56)).heap.size = w.heap.size + 3 := by simp
  have bx : Ext w (((w.alloc (.cells #[.slice none 0 0] 56)).alloc (.cells #[.slice A1 l1.length c1] 56)).alloc (.cells #[.slice A2 l2.length c2] 56)) := (((Ext.refl _).alloc _).alloc _).alloc _
  generalize (((w.alloc (.cells #[.slice none 0 0] 56)).alloc (.cells #[.slice A1 l1.length c1] 56)).alloc (.cells #[.slice A2 l2.length c2] 56)) = W0 at b1 b2 b3 bs bx ⊢
  have hbs1 := Nat.le_of_eq bs
  have hbs2 := Nat.le_of_eq bs.symm
  clear bs
  refine rf_enter rfl (by omega) (gf := 208) (lb := #[.pointer (some ⟨w.heap.size + 1, 0, none⟩), .pointer (some ⟨w.heap.size + 1 + 1, 0, none⟩)]) rfl trivial (enters_of Tryz.func208 (by kernel_rfl) rfl) ?_
  intro fn WL hfn hE hEs hl0 hD0
  have hEa := Nat.le_of_eq hEs
  have hEb := Nat.le_of_eq hEs.symm
  clear hEs
  refine CallsIn.mono (cut1_in (W0.heap.size + 1) (w.heap.size + 1) (w.heap.size + 1 + 1) w.heap.size w.heap.size A1 c1 l1 A2 c2 l2 WL (by omega) (Boxed.ext b2 hE) (Boxed.ext b3 hE) (HR1.out.ext (bx.trans hE) (Nat.le_refl _)) (HR2.out.ext (bx.trans hE) (Nat.le_refl _)) HZ1.out HZ2.out (Nat.le_refl _) (by omega) (by omega) (by omega)
    (fun B k W => ∃ A' c' l', Hid (l' = minusOf l1 l2 k) ∧ Boxed W w.heap.size 56 (.slice A' l'.length c') ∧ OwnsSp B W A' c' l')
    (fun W1 hx => ⟨none, 0, [], Lib.hid (by simp [minusOf]), Boxed.ext (Boxed.ext b1 hE) hx, Owns.nil _ _ _ _ _⟩) (fun B k W1 W2 ⟨A', c', l', h1, h2, h3⟩ hx => ⟨A', c', l', h1, Boxed.ext h2 hx, h3.ext hx⟩) ?hY) ?post
  case hY =>
    rintro B k hk i j W1 HPs1 HPs2 ⟨A', c', l', HL, hbo, ho⟩ hBS hB1 hB2
    have hsz1 := hBS.size
    have hrec := (hBS.block (W0.heap.size + 1) (by omega) (by unfold CutS; omega)).trans hl0
    have hlt := (Array.getElem?_eq_some_iff.1 hrec).1
    have hll : l'.length ≤ k := by rw [HL.out]; exact minusOf_len l1 l2 k
    have HSn := Lib.hid (minusOf_snoc l1 l2 k hk)
    rw [← HL.out, ← atB_has HS1.out HPs1.out, ← atB_has HS2.out HPs2.out] at HSn
    clear HPs1 HPs2
    generalize atB l1 i (Sp.pieces (endsOf l1 l2))[k].1 = q1 at *
    generalize atB l2 j (Sp.pieces (endsOf l1 l2))[k].1 = q2 at *
    generalize (Sp.pieces (endsOf l1 l2))[k] = s at *
    obtain ⟨s1, s2⟩ := s
    refine rf_round hrec hfn rfl ?_
    have HREC := Lib.hid hrec
    clear hrec
    gi_wp2
    refine ⟨(Below.heap_alloc _ _ _ (by simp; omega)).trans ((Below.heap_alloc _ _ _ hlt).trans HREC.out), ?_⟩
    intro W2 hb2 hs2 hr2
    have hbp2 : Boxed W2 w.heap.size 56 (.slice A' l'.length c') := boxed_but ((hbo.alloc _).alloc _) hb2 (by omega)
    have ho2 : OwnsSp B W2 A' c' l' := ((ho.alloc _).alloc _).but hb2 (by omega)
    have hs2a : W2.heap.size ≤ W1.heap.size + 1 + 1 := Nat.le_of_eq hs2
    have hs2b : W1.heap.size + 1 + 1 ≤ W2.heap.size := Nat.le_of_eq hs2.symm
    have hnew : W2.heap[W1.heap.size]? = some (.cells #[.int .i64 s1, .int .i64 s2] 26 (0, 0)) := (hb2.block _ (by simp; omega) (fun e => by injection e; omega)).trans ((Below.heap_alloc _ _ _ (by simp)).trans (World.alloc_heap_new W1 _))
    have hnew2 : W2.heap[W1.heap.size + 1]? = some (.cells #[.bool q1, .bool q2] 230 (0, 0)) := by
      refine (hb2.block _ (by simp) (fun e => by injection e; omega)).trans ?_
      have := World.alloc_heap_new (W1.alloc (.cells #[.int .i64 s1, .int .i64 s2] 26)) (.cells #[.bool q1, .bool q2] 230)
      rw [World.size_alloc] at this
      exact this
    have c1' : W2.cell? ⟨W1.heap.size, 0, none⟩ = some (.int .i64 s1) := by rw [cell_of_cells hnew]; rfl
    have c2' : W2.cell? ⟨W1.heap.size, 1, none⟩ = some (.int .i64 s2) := by rw [cell_of_cells hnew]; rfl
    have c4' : W2.cell? ⟨W1.heap.size + 1, 0, none⟩ = some (.bool q1) := by rw [cell_of_cells hnew2]; rfl
    have c5' : W2.cell? ⟨W1.heap.size + 1, 1, none⟩ = some (.bool q2) := by rw [cell_of_cells hnew2]; rfl
    have c3' := hbp2.cell
    have HBt2 := Lib.hid hb2
    have HR2' := Lib.hid hr2
    have HO2 := Lib.hid ho2
    have HP2 := Lib.hid hbp2
    have HW12 : Hid (ButS (fun b => CutS w.heap.size B b ∨ b = W0.heap.size + 1) W1 W2) := Lib.hid (ButS.trans (ButS.of_ext (((Ext.refl W1).alloc _).alloc _)) (ButS.of_but hb2 (.inr (.inr rfl))))
    clear hb2 hr2 hnew hnew2 hs2 ho hbo ho2 hbp2
    cases q1 with
    | true =>
      cases q2 with
      | false =>
        gi_wp2_with (gi_at_builtin; refine app_fromIn spT spE rfl _ _ rfl B _ _ l' rfl (HO2.out.alloc _) _ 1 _ [(s1, s2)] rfl rfl (new_cellsAt (by omega) _ _) (by omega) (by omega) (by simp; omega) ?_; intro A3 c3 l3 w3 HL3 HO3 hB hl1 hl2 hG; have HO3' := Lib.hid HO3; have HB3 := Lib.hid hB; have HG3 := Lib.hid hG; have hbp3 : Boxed w3 w.heap.size 56 (.slice A' l'.length c') := (hB.block _ (by omega)).trans (HP2.out.alloc _); have hc3 := hbp3.cell; have hf3 := hbp3.frozen; have HP3 := Lib.hid hbp3; have hsz3 := hB.size; clear HO3 hB hG hbp3)
        refine ⟨?_, ?_⟩
        · refine (Below.heap_setCell _ _ _ _ (by show _ ≠ w.heap.size; omega)).trans ?_
          exact (HB3.out.block _ (by omega)).trans ((Below.heap_alloc _ _ _ (by omega)).trans HR2'.out)
        intro W4 hb4 hr4
        refine ⟨rfl, ⟨A3, c3, l3, Lib.hid (by rw [HL3.out, HSn.out]; rfl), boxed_but (HP3.out.set _) hb4 (by omega), (HO3'.out.other (p := ⟨w.heap.size, 0, none⟩) (by show w.heap.size < _; omega) _).but hb4 (by omega)⟩, ?_⟩
        refine ButS.back (l := W0.heap.size + 1) ?_ (hr4.trans HREC.out.symm)
        refine ButS.trans HW12.out ?_
        refine ButS.trans (b := w3) (ButS.trans (ButS.of_ext ((Ext.refl W2).alloc _)) (ButS.of_grownBy HG3.out (fun k e => .inl (.inr (HO2.out.blk k e))))) ?_
        exact ((ButS.refl _ w3).setCell (p := ⟨w.heap.size, 0, none⟩) (.inl (.inl (.inl rfl))) _).trans (ButS.of_but hb4 (.inr (.inr rfl)))
      | true =>
        gi_wp2
        refine ⟨HR2'.out, ?_⟩
        intro W4 hb4 hr4
        refine ⟨rfl, ⟨A', c', l', Lib.hid (by rw [HSn.out]; simp), boxed_but HP2.out hb4 (by omega), HO2.out.but hb4 (by omega)⟩, ?_⟩
        refine ButS.back (l := W0.heap.size + 1) ?_ (hr4.trans HREC.out.symm)
        exact ButS.trans HW12.out (ButS.of_but hb4 (.inr (.inr rfl)))
    | false =>
      gi_wp2
      refine ⟨HR2'.out, ?_⟩
      intro W4 hb4 hr4
      refine ⟨rfl, ⟨A', c', l', Lib.hid (by rw [HSn.out]; simp), boxed_but HP2.out hb4 (by omega), HO2.out.but hb4 (by omega)⟩, ?_⟩
      refine ButS.back (l := W0.heap.size + 1) ?_ (hr4.trans HREC.out.symm)
      exact ButS.trans HW12.out (ButS.of_but hb4 (.inr (.inr rfl)))
  case post =>
    rintro e W' ⟨⟨v', rfl⟩, B, hB1, ⟨A', c', l', HL, hbo, ho⟩, hB⟩
    have hl' : l'.length ≤ (l1.length + l2.length) * 2 := by rw [HL.out]; exact Nat.le_trans (minusOf_len _ _ _) hpl
    have HBd : Hid (bdSp l') := Lib.hid (by rw [HL.out]; exact minus_bd HB1.out HB2.out _)
    have HMm : Hid (∀ x, Sp.mem l' x ↔ Sp.mem l1 x ∧ ¬ Sp.mem l2 x) := Lib.hid (fun x => by rw [HL.out]; exact minus_mem (Nat.le_refl _) x)
    refine ⟨⟨_, rfl⟩, .inl ⟨(hB.block _ (by omega) (by unfold CutS; omega)).trans hl0, ?_⟩⟩
    intro W'' hBut
    have hK : W''.heap[W0.heap.size]? = some (.deferred (some [])) := (hBut.block _ (by have := hB.size; omega) (fun e => by injection e; omega)).trans ((hB.block _ (by omega) (by unfold CutS; omega)).trans hD0)
    have hc := (boxed_but hbo hBut (by omega)).cell
    have hEx : Ext w W'' := by
      have f1 : ButS (fun k => w.heap.size ≤ k) w W' := (ButS.of_ext (bx.trans hE)).trans (hB.mono (fun k _ e => by unfold CutS at e; omega))
      have f2 : ButS (fun k => w.heap.size ≤ k) w W'' := f1.trans (ButS.of_but hBut (.inr (by omega)))
      exact f2.toExt (fun k hk => by omega)
    have hszq := hEx.size
    have HEx := Lib.hid hEx
    have hKl := (Array.getElem?_eq_some_iff.1 hK).1
    have HO := Lib.hid ((ho.but hBut (by omega)).reads spE)
    have HK := Lib.hid hK
    clear hK hl0 hD0 hbo ho hB hBut hEx b1 b2 b3
    gi_wp2_with (refine ⟨trivial, ?_⟩; gi_at_call 104; refine (callsIn_wide.2 (of_any A' c' l' _ HBd.out (by omega) HO.out)).mono ?_; rintro e W3 ⟨A3, c3, out, rfl, HS, hol, ho3, hx3⟩; have HO3 := Lib.hid ho3; have HX3 := Lib.hid hx3; clear ho3 hx3)
    have hK3 : W3.heap[W0.heap.size]? = some (.deferred (some [])) := (HX3.out.below.block _ hKl).trans HK.out
    refine ⟨by simp, .inl ⟨_, _, rfl, run_takeDeferred hK3, ?_⟩⟩
    refine ⟨_, results_tmp rfl _ _ _, A3, c3, out, rfl, ?_, by omega, ?_, ?_⟩
    · obtain ⟨k1, k2⟩ := of_set HS.out
      exact Lib.hid ⟨k1, fun x => (k2 x).trans (HMm.out x)⟩
    · exact (HO3.out.but (grownBy_putObj' W3 W0.heap.size (.deferred none)) (by omega)).lower (by omega)
    · have g1 : ButS (fun k => w.heap.size ≤ k) w W3 := ButS.of_ext (HEx.out.trans HX3.out)
      exact (g1.trans (ButS.of_but (grownBy_putObj' W3 W0.heap.size (.deferred none)) (.inr (by omega)))).toExt (fun k hk => by omega)
end Go.Proofs.YtpjacgcaibaggaaGreatDoor
