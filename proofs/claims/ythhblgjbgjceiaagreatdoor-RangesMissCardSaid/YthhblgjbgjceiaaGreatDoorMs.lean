/- Sets of bytes within bounds, plain. -/
import Derived.Test.YthhblgjbgjceiaaGreatDoorFc
import Derived.Test.YthhblgjbgjceiaaGreatDoorSpv
set_option linter.unusedVariables false
set_option linter.unusedSimpArgs false
namespace Go.Proofs.YthhblgjbgjceiaaGreatDoor
open Go.RowKit Go.Shelf
open Go.Proofs
open Go.Proofs.Sp (Sp)

def SetIn (l : List Sp) (n : Int) : Prop := Sp.IsSet l ∧ ∀ s ∈ l, 0 ≤ s.1 ∧ s.2 ≤ n
theorem SetIn.nil (n : Int) : SetIn [] n := ⟨Sp.IsSet.nil, fun s h => by cases h⟩
theorem SetIn.mem {l : List Sp} {n : Int} (h : SetIn l n) {x : Int} (hx : Sp.mem l x) : 0 ≤ x ∧ x < n := by
  obtain ⟨s, hs, a, b⟩ := hx
  have := h.2 s hs
  omega
theorem SetIn.of_mem {l : List Sp} {n : Int} (h : Sp.IsSet l) (hm : ∀ x, Sp.mem l x → 0 ≤ x ∧ x < n) : SetIn l n := by
  refine ⟨h, fun s hs => ?_⟩
  have h1 := h.2 s hs
  have h2 := hm s.1 ⟨s, hs, Int.le_refl _, h1⟩
  have h3 := hm (s.2 - 1) ⟨s, hs, by omega, by omega⟩
  omega
theorem okAt_iff {l : List Sp} {i : Nat} : okAt l i = true ↔ (l.getD i (0, 0)).1 < (l.getD i (0, 0)).2 ∧ 0 ≤ (l.getD i (0, 0)).1 ∧ (l.getD i (0, 0)).2 ≤ 1099511627776 ∧ (i = 0 ∨ (l.getD (i - 1) (0, 0)).2 < (l.getD i (0, 0)).1) := by
  unfold okAt
  generalize l.getD i (0, 0) = s
  generalize l.getD (i - 1) (0, 0) = t
  simp only [emptyB, goodB, Bool.and_eq_true, Bool.or_eq_true, Bool.not_eq_true', decide_eq_true_eq, decide_eq_false_iff_not]
  constructor
  · rintro ⟨⟨h1, h2⟩, h3⟩
    refine ⟨by omega, ?_, ?_, h3⟩
    · rcases h2 with h2 | h2
      · exact absurd h2 h1
      · exact h2.1
    · rcases h2 with h2 | h2
      · exact absurd h2 h1
      · exact h2.2
  · rintro ⟨h1, h2, h3, h4⟩
    exact ⟨⟨by omega, .inr ⟨h2, h3⟩⟩, h4⟩
theorem getD_at {l : List Sp} {i : Nat} (h : i < l.length) : l.getD i (0, 0) = l[i] := by simp [h]
theorem setB_get {l : List Sp} (h : setB l = true) {i : Nat} (hi : i < l.length) : l[i].1 < l[i].2 ∧ 0 ≤ l[i].1 ∧ l[i].2 ≤ 1099511627776 ∧ (∀ h0 : 0 < i, (l[i - 1]'(by omega)).2 < l[i].1) := by
  have := okAt_iff.1 (List.all_eq_true.1 h i (List.mem_range.2 hi))
  rw [getD_at hi] at this
  refine ⟨this.1, this.2.1, this.2.2.1, fun h0 => ?_⟩
  have k := this.2.2.2
  rw [getD_at (show i - 1 < l.length by omega)] at k
  omega
theorem setB_set {l : List Sp} (h : setB l = true) : SetIn l 1099511627776 := by
  refine ⟨?_, fun s hs => ?_⟩
  · suffices H : ∀ k, k ≤ l.length → Sp.IsSet (l.take k) by
      have := H l.length (Nat.le_refl _)
      rwa [List.take_length] at this
    intro k
    induction k with
    | zero => intro _; rw [List.take_zero]; exact Sp.IsSet.nil
    | succ k ih =>
      intro hk
      have hk' : k < l.length := by omega
      obtain ⟨a1, a2, a3, a4⟩ := setB_get h hk'
      rw [List.take_succ_eq_append_getElem hk', Sp.isSet_concat]
      refine ⟨ih (by omega), a1, fun a ha => ?_⟩
      by_cases k0 : k = 0
      · subst k0; simp at ha
      · have hk1 : k - 1 < l.length := by omega
        have e : l.take k = l.take (k - 1) ++ [l[k - 1]] := by
          have := List.take_succ_eq_append_getElem hk1
          rwa [show k - 1 + 1 = k by omega] at this
        have hi := ih (by omega)
        rw [e] at ha hi
        have a5 := a4 (by omega)
        rw [Sp.isSet_concat] at hi
        rcases List.mem_append.1 ha with ha | ha
        · have := hi.2.2 a ha
          have := hi.2.1
          omega
        · simp at ha; subst ha; exact a5
  · obtain ⟨i, hi, rfl⟩ := List.getElem_of_mem hs
    obtain ⟨a1, a2, a3, _⟩ := setB_get h hi
    exact ⟨a2, a3⟩
theorem set_setB {l : List Sp} (h : SetIn l 1099511627776) : setB l = true := by
  refine setB_yes fun j hj => okAt_iff.2 ?_
  rw [getD_at hj]
  have h1 := h.1.2 l[j] (List.getElem_mem hj)
  have h2 := h.2 l[j] (List.getElem_mem hj)
  refine ⟨h1, h2.1, h2.2, ?_⟩
  by_cases h0 : j = 0
  · exact .inl h0
  · right
    rw [getD_at (show j - 1 < l.length by omega)]
    exact List.pairwise_iff_getElem.1 h.1.1 (j - 1) j (by omega) hj (by omega)
theorem rAdd_in {l : List Sp} {n f t : Int} (h : SetIn l n) (h0 : 0 ≤ f) (h1 : t ≤ n) : SetIn (Sp.rAdd l (f, t)) n ∧ ∀ x, Sp.mem (Sp.rAdd l (f, t)) x ↔ Sp.mem l x ∨ (f ≤ x ∧ x < t) := by
  obtain ⟨k1, k2⟩ := Sp.rAdd_spec h.1 (f, t)
  refine ⟨SetIn.of_mem k1 fun x hx => ?_, k2⟩
  rcases (k2 x).1 hx with hx | hx
  · exact h.mem hx
  · have a : f ≤ x := hx.1
    have b : x < t := hx.2
    omega
theorem set_len : ∀ (l : List Sp) {lo hi : Int}, Sp.IsSet l → (∀ s ∈ l, lo ≤ s.1 ∧ s.2 ≤ hi) → lo ≤ hi → (l.length : Int) ≤ hi - lo
  | [], lo, hi, _, _, h => by simp; omega
  | s :: l, lo, hi, hs, hb, h => by
    have h1 := hs.2 s (by simp)
    have h2 := hb s (by simp)
    have h3 := set_len l (lo := s.2) (hi := hi) hs.tail (fun t ht => by
      have h4 : s.2 < t.1 := (List.pairwise_cons.1 hs.1).1 t ht
      have h5 := hb t (by simp [ht])
      omega) h2.2
    rw [List.length_cons]
    push_cast
    omega
theorem SetIn.len {l : List Sp} {n : Int} (h : SetIn l n) (hn : 0 ≤ n) : (l.length : Int) ≤ n := by
  have := set_len l (lo := 0) (hi := n) h.1 h.2 hn
  omega
theorem SetIn.bd2 {l : List Sp} {n : Int} (h : SetIn l n) (hn : n ≤ 1099511627776) : bd2 l := fun s hs => by
  have h1 := h.1.2 s hs
  have h2 := h.2 s hs
  exact ⟨⟨by omega, by omega⟩, by omega, by omega⟩
def rMissing (l : List Sp) (s : Sp) : List Sp := if s.2 ≤ s.1 then [] else Sp.rMinus [s] l
theorem rMissing_spec (l : List Sp) (s : Sp) : SetOf (fun x => (s.1 ≤ x ∧ x < s.2) ∧ ¬ Sp.mem l x) (rMissing l s) := by
  unfold rMissing
  by_cases h : s.2 ≤ s.1
  · rw [if_pos h]
    exact ⟨Sp.IsSet.nil, fun x => ⟨fun k => (Sp.mem_nil x k).elim, fun k => by omega⟩⟩
  · rw [if_neg h]
    exact Sp.rMinus_one (by omega) l
theorem setOf_uniq {p : Int → Prop} {l m : List Sp} (h : SetOf p l) (k : SetOf p m) : l = m := Sp.IsSet.ext h.1 k.1 (fun x => (h.2 x).trans (k.2 x).symm)
theorem coversB_uniq {l : List Sp} {s : Sp} {a b : Bool} (h : coversB l s a) (k : coversB l s b) : a = b := by
  rw [Bool.eq_iff_iff]
  exact h.trans k.symm
end Go.Proofs.YthhblgjbgjceiaaGreatDoor
