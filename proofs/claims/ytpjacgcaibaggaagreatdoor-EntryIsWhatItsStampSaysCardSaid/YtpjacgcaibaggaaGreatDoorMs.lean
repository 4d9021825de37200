/- Sets of bytes within bounds, plain. -/
import Derived.Test.YtpjacgcaibaggaaGreatDoorProg
import Derived.Test.YtpjacgcaibaggaaGreatDoorExt
import Derived.WalkKit
import Derived.WalkSpells
import Derived.WalkLawsBesides
import Derived.Deep.QuietTactic
import Derived.BigQuiet
import Derived.Test.YtpjacgcaibaggaaGreatDoorCy
import Derived.Test.YtpjacgcaibaggaaGreatDoorSpv
set_option linter.unusedVariables false
set_option linter.unusedSimpArgs false
namespace Go.Proofs.YtpjacgcaibaggaaGreatDoor
open Go.RowKit Go.Shelf
open Go.Proofs
open Go.Proofs.Sp (Sp)

def bd1 (s : Sp) : Prop := (-4611686018427387904 ≤ s.1 ∧ s.1 ≤ 4611686018427387903) ∧ -4611686018427387904 ≤ s.2 ∧ s.2 ≤ 4611686018427387903
theorem one_set {s : Sp} {out : List Sp} (h : SetOf (Sp.mem [s]) out) (hb : s.1 < s.2 → bd1 s) : bd2 out ∧ out.length ≤ 1 := by
  obtain ⟨h1, h2⟩ := h
  by_cases hs : s.1 < s.2
  · have e : out = [s] := Sp.IsSet.ext h1 (Sp.IsSet.one hs) h2
    subst e
    exact ⟨fun t ht => by simp at ht; subst ht; exact hb hs, by simp⟩
  · have e : out = [] := Sp.IsSet.ext h1 Sp.IsSet.nil (fun x => (h2 x).trans ((Sp.mem_one s x).trans ⟨fun k => by omega, fun k => (Sp.mem_nil x k).elim⟩))
    subst e
    exact ⟨fun t ht => (by cases ht), by simp⟩
set_option maxRecDepth 100000 in
set_option maxHeartbeats 1000000 in
theorem missing_anyW (A : Option Addr) (c : Nat) (l : List Sp) (s : Sp) (w : World) (hs : Sp.IsSet l) (hb : bd2 l) (hb1 : s.1 < s.2 → bd1 s) (hlen : l.length * 32 ≤ 140737488340000) (hr : ReadsSp w w.heap.size A l) (z : A = none → c = 0) :
    Calls Tryz.prog 99 #[.slice A l.length c, .agg #[.int .i64 s.1, .int .i64 s.2]] w fun e w' => ∃ A' c' out, e = .returned (.slice A' out.length c') ∧ Hid (SetOf (fun x => (s.1 ≤ x ∧ x < s.2) ∧ ¬ Sp.mem l x) out) ∧ out.length ≤ (1 + l.length) * 2 ∧ OwnsSp w.heap.size w' A' c' out ∧ Ext w w' := by
  have HR := Lib.hid hr
  have HZ := Lib.hid z
  have HS := Lib.hid hs
  have HB := Lib.hid hb
  have HB1 := Lib.hid hb1
  clear hr z hs hb hb1
  obtain ⟨s1, s2⟩ := s
  go_enter Tryz.func99, Tryz.ntmps99
  go_wp2_with (first
    | (go_at_call 104; refine (of_anyW s1 (some ⟨w.heap.size + 1, 0, none⟩) 1 [(s1, s2)] _ (fun t ht => by simp at ht; subst ht; simp only []; omega) (by simp) (fun _ => ⟨w.heap.size + 1, 0, rfl, by simp, fun i hi j v hv => by
        have : i = 0 := by simp at hi; omega
        subst this
        have hj := (List.getElem?_eq_some_iff.1 hv).1
        simp only [encSp, List.length_cons, List.length_nil] at hj
        rw [alloc_cell_if, if_pos (by simp)]
        have h3 : j = 0 ∨ j = 1 := by omega
        rcases h3 with h3 | h3 <;> subst h3 <;> simp [encSp] at hv <;> subst hv <;> rfl⟩)).mono ?_; rintro e w1 ⟨A1, c1, o1, rfl, HS1, hol, ho1, hx1⟩; have HSo := Lib.hid (of_set HS1.out); have HO1 := Lib.hid ho1; have HX1 : Hid (Ext w w1) := Lib.hid ((((Ext.refl w).alloc _).alloc _).trans hx1); have hol1 : o1.length ≤ 1 := hol; clear ho1 hx1)
    | (go_at_call 127; refine (minus_any A1 c1 o1 A c l _ HSo.out.1 HS.out (one_set HSo.out HB1.out).1 HB.out (by omega) (HO1.out.reads spE) (HR.out.on HX1.out) HO1.out.none0 HZ.out).mono ?_; rintro e w2 ⟨A2, c2, out, rfl, HS2, hol2, ho2, hx2⟩; have HO2 := Lib.hid ho2; have HX2 := Lib.hid hx2; clear ho2 hx2))
  go_ret
  refine ⟨A2, c2, out, rfl, Lib.hid ⟨HS2.out.1, fun x => (HS2.out.2 x).trans ?_⟩, by omega, HO2.out.lower HX1.out.size, HX1.out.trans HX2.out⟩
  show (Sp.mem o1 x ∧ ¬ Sp.mem l x) ↔ _
  rw [HSo.out.2 x, Sp.mem_one]
theorem missing_any (A : Option Addr) (c : Nat) (l : List Sp) (s : Sp) (w : World) (hs : Sp.IsSet l) (hb : bd2 l) (hb1 : bd1 s) (hlen : l.length * 32 ≤ 140737488340000) (hr : ReadsSp w w.heap.size A l) (z : A = none → c = 0) :
    Calls Tryz.prog 99 #[.slice A l.length c, .agg #[.int .i64 s.1, .int .i64 s.2]] w fun e w' => ∃ A' c' out, e = .returned (.slice A' out.length c') ∧ Hid (SetOf (fun x => (s.1 ≤ x ∧ x < s.2) ∧ ¬ Sp.mem l x) out) ∧ out.length ≤ (1 + l.length) * 2 ∧ OwnsSp w.heap.size w' A' c' out ∧ Ext w w' := missing_anyW A c l s w hs hb (fun _ => hb1) hlen hr z
/-- All bytes of a span are in a set. -/
def coversB (l : List Sp) (s : Sp) (b : Bool) : Prop := b = true ↔ ∀ x, s.1 ≤ x → x < s.2 → Sp.mem l x
theorem empty_covers {l out : List Sp} {s : Sp} (h : SetOf (fun x => (s.1 ≤ x ∧ x < s.2) ∧ ¬ Sp.mem l x) out) : coversB l s (decide (out.length = 0)) := by
  unfold coversB
  rw [decide_eq_true_iff]
  constructor
  · intro e x h1 h2
    have e' : out = [] := List.eq_nil_of_length_eq_zero e
    subst e'
    exact Classical.byContradiction fun hn => Sp.mem_nil x ((h.2 x).2 ⟨⟨h1, h2⟩, hn⟩)
  · intro hh
    cases out with
    | nil => rfl
    | cons t r =>
      have ht := h.1.2 t (List.mem_cons_self ..)
      obtain ⟨⟨k1, k2⟩, k3⟩ := (h.2 t.1).1 ((Sp.mem_cons ..).2 (.inl ⟨Int.le_refl _, ht⟩))
      exact absurd (hh _ k1 k2) k3
set_option maxRecDepth 100000 in
theorem covers_anyW (A : Option Addr) (c : Nat) (l : List Sp) (s : Sp) (w : World) (hs : Sp.IsSet l) (hb : bd2 l) (hb1 : s.1 < s.2 → bd1 s) (hlen : l.length * 32 ≤ 140737488330000) (hr : ReadsSp w w.heap.size A l) (z : A = none → c = 0) :
    Calls Tryz.prog 102 #[.slice A l.length c, .agg #[.int .i64 s.1, .int .i64 s.2]] w fun e w' => ∃ b, e = .returned (.bool b) ∧ Hid (coversB l s b) ∧ Ext w w' := by
  have HR := Lib.hid hr
  have HZ := Lib.hid z
  have HS := Lib.hid hs
  have HB := Lib.hid hb
  have HB1 := Lib.hid hb1
  clear hr z hs hb hb1
  go_enter Tryz.func102, Tryz.ntmps102
  go_wp2_with (go_at_call 99; refine (missing_anyW A c l s _ HS.out HB.out HB1.out (by omega) (HR.out.on ((Ext.refl _).alloc _)) HZ.out).mono ?_; rintro e w2 ⟨A2, c2, out, rfl, HS2, hol2, ho2, hx2⟩; have HX2 : Hid (Ext w w2) := Lib.hid (((Ext.refl w).alloc _).trans hx2); clear ho2 hx2)
  all_goals
    go_ret
    refine ⟨_, rfl, ?_, HX2.out⟩
    have h := empty_covers HS2.out
    have e : ((out.length : Int) == 0) = decide (out.length = 0) := by rw [Bool.eq_iff_iff]; simp
    rw [e]
    exact Lib.hid h
theorem covers_any (A : Option Addr) (c : Nat) (l : List Sp) (s : Sp) (w : World) (hs : Sp.IsSet l) (hb : bd2 l) (hb1 : bd1 s) (hlen : l.length * 32 ≤ 140737488330000) (hr : ReadsSp w w.heap.size A l) (z : A = none → c = 0) :
    Calls Tryz.prog 102 #[.slice A l.length c, .agg #[.int .i64 s.1, .int .i64 s.2]] w fun e w' => ∃ b, e = .returned (.bool b) ∧ Hid (coversB l s b) ∧ Ext w w' := covers_anyW A c l s w hs hb (fun _ => hb1) hlen hr z
end Go.Proofs.YtpjacgcaibaggaaGreatDoor

namespace Go.Proofs.YtpjacgcaibaggaaGreatDoor
open Go.RowKit Go.Shelf
open Go.Proofs
open Go.Proofs.Sp (Sp)

def SetIn (l : List Sp) (n : Int) : Prop := Sp.IsSet l ∧ ∀ s ∈ l, 0 ≤ s.1 ∧ s.2 ≤ n
theorem SetIn.nil (n : Int) : SetIn [] n := ⟨Sp.IsSet.nil, fun s h => by cases h⟩
theorem SetIn.mem {l : List Sp} {n : Int} (h : SetIn l n) {x : Int} (hx : Sp.mem l x) : 0 ≤ x ∧ x < n := by
  obtain ⟨s, hs, a, b⟩ := hx
  have := h.2 s hs
  omega
theorem SetIn.of_mem {l : List Sp} {n : Int} (h : Sp.IsSet l) (hm : ∀ x, Sp.mem l x → 0 ≤ x ∧ x < n) : SetIn l n := by
  refine ⟨h, fun s hs => ?_⟩
  have h1 := h.2 s hs
  have h2 := hm s.1 ⟨s, hs, Int.le_refl _, h1⟩
  have h3 := hm (s.2 - 1) ⟨s, hs, by omega, by omega⟩
  omega
theorem okAt_iff {l : List Sp} {i : Nat} : okAt l i = true ↔ (l.getD i (0, 0)).1 < (l.getD i (0, 0)).2 ∧ 0 ≤ (l.getD i (0, 0)).1 ∧ (l.getD i (0, 0)).2 ≤ 1099511627776 ∧ (i = 0 ∨ (l.getD (i - 1) (0, 0)).2 < (l.getD i (0, 0)).1) := by
  unfold okAt
  generalize l.getD i (0, 0) = s
  generalize l.getD (i - 1) (0, 0) = t
  simp only [emptyB, goodB, Bool.and_eq_true, Bool.or_eq_true, Bool.not_eq_true', decide_eq_true_eq, decide_eq_false_iff_not]
  constructor
  · rintro ⟨⟨h1, h2⟩, h3⟩
    refine ⟨by omega, ?_, ?_, h3⟩
    · rcases h2 with h2 | h2
      · exact absurd h2 h1
      · exact h2.1
    · rcases h2 with h2 | h2
      · exact absurd h2 h1
      · exact h2.2
  · rintro ⟨h1, h2, h3, h4⟩
    exact ⟨⟨by omega, .inr ⟨h2, h3⟩⟩, h4⟩
theorem getD_at {l : List Sp} {i : Nat} (h : i < l.length) : l.getD i (0, 0) = l[i] := by simp [h]
theorem setB_get {l : List Sp} (h : setB l = true) {i : Nat} (hi : i < l.length) : l[i].1 < l[i].2 ∧ 0 ≤ l[i].1 ∧ l[i].2 ≤ 1099511627776 ∧ (∀ h0 : 0 < i, (l[i - 1]'(by omega)).2 < l[i].1) := by
  have := okAt_iff.1 (List.all_eq_true.1 h i (List.mem_range.2 hi))
  rw [getD_at hi] at this
  refine ⟨this.1, this.2.1, this.2.2.1, fun h0 => ?_⟩
  have k := this.2.2.2
  rw [getD_at (show i - 1 < l.length by omega)] at k
  omega
theorem setB_set {l : List Sp} (h : setB l = true) : SetIn l 1099511627776 := by
  refine ⟨?_, fun s hs => ?_⟩
  · suffices H : ∀ k, k ≤ l.length → Sp.IsSet (l.take k) by
      have := H l.length (Nat.le_refl _)
      rwa [List.take_length] at this
    intro k
    induction k with
    | zero => intro _; rw [List.take_zero]; exact Sp.IsSet.nil
    | succ k ih =>
      intro hk
      have hk' : k < l.length := by omega
      obtain ⟨a1, a2, a3, a4⟩ := setB_get h hk'
      rw [List.take_succ_eq_append_getElem hk', Sp.isSet_concat]
      refine ⟨ih (by omega), a1, fun a ha => ?_⟩
      by_cases k0 : k = 0
      · subst k0; simp at ha
      · have hk1 : k - 1 < l.length := by omega
        have e : l.take k = l.take (k - 1) ++ [l[k - 1]] := by
          have := List.take_succ_eq_append_getElem hk1
          rwa [show k - 1 + 1 = k by omega] at this
        have hi := ih (by omega)
        rw [e] at ha hi
        have a5 := a4 (by omega)
        rw [Sp.isSet_concat] at hi
        rcases List.mem_append.1 ha with ha | ha
        · have := hi.2.2 a ha
          have := hi.2.1
          omega
        · simp at ha; subst ha; exact a5
  · obtain ⟨i, hi, rfl⟩ := List.getElem_of_mem hs
    obtain ⟨a1, a2, a3, _⟩ := setB_get h hi
    exact ⟨a2, a3⟩
theorem set_setB {l : List Sp} (h : SetIn l 1099511627776) : setB l = true := by
  refine setB_yes fun j hj => okAt_iff.2 ?_
  rw [getD_at hj]
  have h1 := h.1.2 l[j] (List.getElem_mem hj)
  have h2 := h.2 l[j] (List.getElem_mem hj)
  refine ⟨h1, h2.1, h2.2, ?_⟩
  by_cases h0 : j = 0
  · exact .inl h0
  · right
    rw [getD_at (show j - 1 < l.length by omega)]
    exact List.pairwise_iff_getElem.1 h.1.1 (j - 1) j (by omega) hj (by omega)
theorem rAdd_in {l : List Sp} {n f t : Int} (h : SetIn l n) (h0 : 0 ≤ f) (h1 : t ≤ n) : SetIn (Sp.rAdd l (f, t)) n ∧ ∀ x, Sp.mem (Sp.rAdd l (f, t)) x ↔ Sp.mem l x ∨ (f ≤ x ∧ x < t) := by
  obtain ⟨k1, k2⟩ := Sp.rAdd_spec h.1 (f, t)
  refine ⟨SetIn.of_mem k1 fun x hx => ?_, k2⟩
  rcases (k2 x).1 hx with hx | hx
  · exact h.mem hx
  · have a : f ≤ x := hx.1
    have b : x < t := hx.2
    omega
theorem set_len : ∀ (l : List Sp) {lo hi : Int}, Sp.IsSet l → (∀ s ∈ l, lo ≤ s.1 ∧ s.2 ≤ hi) → lo ≤ hi → (l.length : Int) ≤ hi - lo
  | [], lo, hi, _, _, h => by simp; omega
  | s :: l, lo, hi, hs, hb, h => by
    have h1 := hs.2 s (by simp)
    have h2 := hb s (by simp)
    have h3 := set_len l (lo := s.2) (hi := hi) hs.tail (fun t ht => by
      have h4 : s.2 < t.1 := (List.pairwise_cons.1 hs.1).1 t ht
      have h5 := hb t (by simp [ht])
      omega) h2.2
    rw [List.length_cons]
    push_cast
    omega
theorem SetIn.len {l : List Sp} {n : Int} (h : SetIn l n) (hn : 0 ≤ n) : (l.length : Int) ≤ n := by
  have := set_len l (lo := 0) (hi := n) h.1 h.2 hn
  omega
theorem SetIn.bd2 {l : List Sp} {n : Int} (h : SetIn l n) (hn : n ≤ 1099511627776) : bd2 l := fun s hs => by
  have h1 := h.1.2 s hs
  have h2 := h.2 s hs
  exact ⟨⟨by omega, by omega⟩, by omega, by omega⟩
def rMissing (l : List Sp) (s : Sp) : List Sp := if s.2 ≤ s.1 then [] else Sp.rMinus [s] l
theorem rMissing_spec (l : List Sp) (s : Sp) : SetOf (fun x => (s.1 ≤ x ∧ x < s.2) ∧ ¬ Sp.mem l x) (rMissing l s) := by
  unfold rMissing
  by_cases h : s.2 ≤ s.1
  · rw [if_pos h]
    exact ⟨Sp.IsSet.nil, fun x => ⟨fun k => (Sp.mem_nil x k).elim, fun k => by omega⟩⟩
  · rw [if_neg h]
    exact Sp.rMinus_one (by omega) l
theorem setOf_uniq {p : Int → Prop} {l m : List Sp} (h : SetOf p l) (k : SetOf p m) : l = m := Sp.IsSet.ext h.1 k.1 (fun x => (h.2 x).trans (k.2 x).symm)
theorem coversB_uniq {l : List Sp} {s : Sp} {a b : Bool} (h : coversB l s a) (k : coversB l s b) : a = b := by
  rw [Bool.eq_iff_iff]
  exact h.trans k.symm
end Go.Proofs.YtpjacgcaibaggaaGreatDoor
