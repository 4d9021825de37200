/- Sets of bytes, plain: how many bytes, what unions and meets have. -/
import Derived.Test.YthhblgjbgjceiaaGreatDoorMt
set_option linter.unusedVariables false
set_option linter.unusedSimpArgs false
namespace Go.Proofs.YthhblgjbgjceiaaGreatDoor
open Go.RowKit Go.Shelf
open Go.Proofs
open Go.Proofs.Sp (Sp)

theorem countP_or {α : Type} (p q : α → Bool) : ∀ (l : List α), (∀ x ∈ l, ¬ (p x = true ∧ q x = true)) → l.countP (fun x => p x || q x) = l.countP p + l.countP q
  | [], _ => rfl
  | x :: l, h => by
    have ih := countP_or p q l (fun y hy => h y (List.mem_cons_of_mem _ hy))
    have hx := h x (by simp)
    rw [List.countP_cons, List.countP_cons, List.countP_cons, ih]
    cases hp : p x <;> cases hq : q x <;> simp_all <;> omega
theorem countP_both {α : Type} (p q : α → Bool) : ∀ (l : List α), l.countP p + l.countP q = l.countP (fun x => p x || q x) + l.countP (fun x => p x && q x)
  | [] => rfl
  | x :: l => by
    have ih := countP_both p q l
    rw [List.countP_cons, List.countP_cons, List.countP_cons, List.countP_cons]
    cases hp : p x <;> cases hq : q x <;> simp <;> omega
theorem count_in (s : Sp) (h0 : 0 ≤ s.1) (h1 : s.1 ≤ s.2) : ∀ N : Nat, ((List.range N).countP (fun k : Nat => inB s (k : Int)) : Int) = min (N : Int) s.2 - min (N : Int) s.1
  | 0 => by simp; omega
  | N + 1 => by
    have ih := count_in s h0 h1 N
    rw [List.range_succ, List.countP_append, List.countP_cons, List.countP_nil]
    push_cast
    rw [ih]
    by_cases h : inB s (N : Int) = true
    · rw [if_pos h]
      simp only [inB, Bool.and_eq_true, decide_eq_true_eq] at h
      omega
    · rw [if_neg h]
      simp only [inB, Bool.and_eq_true, decide_eq_true_eq] at h
      omega
theorem tot_count : ∀ {l : List Sp} {n : Int}, SetIn l n → totN l = ((List.range n.toNat).countP (fun k : Nat => hasB l (k : Int)) : Nat)
  | [], n, _ => by
    have : (List.range n.toNat).countP (fun k : Nat => hasB [] (k : Int)) = 0 := List.countP_eq_zero.2 (fun a _ => by simp [hasB])
    rw [this]; rfl
  | s :: l, n, h => by
    have h1 := h.1.2 s (by simp)
    have h2 := h.2 s (by simp)
    have hl : SetIn l n := ⟨h.1.tail, fun t ht => h.2 t (List.mem_cons_of_mem _ ht)⟩
    have ih := tot_count hl
    have e : (List.range n.toNat).countP (fun k : Nat => hasB (s :: l) (k : Int)) = (List.range n.toNat).countP (fun k : Nat => inB s (k : Int)) + (List.range n.toNat).countP (fun k : Nat => hasB l (k : Int)) := by
      refine countP_or (fun k : Nat => inB s (k : Int)) (fun k : Nat => hasB l (k : Int)) _ (fun k _ hk => ?_)
      have k1 := hk.1
      simp only [inB, Bool.and_eq_true, decide_eq_true_eq] at k1
      have k2 := h.1.gt (hasB_iff.1 hk.2)
      omega
    rw [e]
    push_cast
    rw [count_in s h2.1 (by omega), ← ih]
    have : totN (s :: l) = (s.2 - s.1) + totN l := by simp [totN]
    rw [this]
    omega
/-- The totals of two sets are those of their union and their meet. -/
theorem tot_both {a b x m : List Sp} {n : Int} (ha : SetIn a n) (hb : SetIn b n) (hx : SetIn x n) (hm : SetIn m n) (h1 : ∀ k, Sp.mem x k ↔ Sp.mem a k ∨ Sp.mem b k) (h2 : ∀ k, Sp.mem m k ↔ Sp.mem a k ∧ Sp.mem b k) : totN a + totN b = totN x + totN m := by
  rw [tot_count ha, tot_count hb, tot_count hx, tot_count hm]
  have e1 : (fun k : Nat => hasB x (k : Int)) = fun k : Nat => (hasB a (k : Int) || hasB b (k : Int)) := by
    funext k
    rw [Bool.eq_iff_iff, Bool.or_eq_true, hasB_iff, hasB_iff, hasB_iff]
    exact h1 k
  have e2 : (fun k : Nat => hasB m (k : Int)) = fun k : Nat => (hasB a (k : Int) && hasB b (k : Int)) := by
    funext k
    rw [Bool.eq_iff_iff, Bool.and_eq_true, hasB_iff, hasB_iff, hasB_iff]
    exact h2 k
  rw [e1, e2]
  have := countP_both (fun k : Nat => hasB a (k : Int)) (fun k : Nat => hasB b (k : Int)) (List.range n.toNat)
  omega
def orMem (l m : List Sp) (x : Int) : Prop := Sp.mem l x ∨ Sp.mem m x
/-- Spans added one by one. -/
def addsN (l m : List Sp) : List Sp := m.foldl Sp.rAdd l
theorem adds_spec : ∀ (m l : List Sp), Sp.IsSet l → SetOf (orMem l m) (addsN l m)
  | [], l, h => ⟨h, fun x => ⟨.inl, fun k => k.elim id (fun k => (Sp.mem_nil x k).elim)⟩⟩
  | s :: m, l, h => by
    obtain ⟨h1, h2⟩ := Sp.rAdd_spec h s
    obtain ⟨h3, h4⟩ := adds_spec m (Sp.rAdd l s) h1
    refine ⟨h3, fun x => ?_⟩
    show Sp.mem (addsN (Sp.rAdd l s) m) x ↔ _
    rw [h4]
    unfold orMem
    rw [h2, Sp.mem_cons, or_assoc]
theorem adds_snoc (l m : List Sp) (k : Nat) (h : k < m.length) : addsN l (m.take (k + 1)) = Sp.rAdd (addsN l (m.take k)) m[k] := by
  unfold addsN
  rw [List.take_succ_eq_append_getElem h, List.foldl_append]
  rfl
theorem adds_comm {l m : List Sp} (hl : Sp.IsSet l) (hm : Sp.IsSet m) : addsN l m = addsN m l := by
  have h1 := adds_spec m l hl
  have h2 := adds_spec l m hm
  exact Sp.IsSet.ext h1.1 h2.1 (fun x => ((h1.2 x).trans Or.comm).trans (h2.2 x).symm)
theorem adds_in {l m : List Sp} {n : Int} (hl : SetIn l n) (hm : ∀ s ∈ m, s.1 < s.2 → 0 ≤ s.1 ∧ s.2 ≤ n) : SetIn (addsN l m) n := by
  have h := adds_spec m l hl.1
  refine SetIn.of_mem h.1 (fun x hx => ?_)
  rcases (h.2 x).1 hx with k | ⟨s, hs, k1, k2⟩
  · exact hl.mem k
  · have := hm s hs (by omega)
    omega
/-- The specification's Meet. -/
def rMeet (a b : List Sp) : List Sp := Sp.rMinus a (Sp.rMinus a b)
theorem rMeet_spec {a b : List Sp} (ha : Sp.IsSet a) : SetOf (fun x => Sp.mem a x ∧ Sp.mem b x) (rMeet a b) := by
  obtain ⟨_, h2⟩ := Sp.rMinus_spec b ha
  obtain ⟨h3, h4⟩ := Sp.rMinus_spec (Sp.rMinus a b) ha
  refine ⟨h3, fun x => ?_⟩
  rw [show rMeet a b = Sp.rMinus a (Sp.rMinus a b) from rfl, h4, h2]
  constructor
  · rintro ⟨k1, k2⟩
    exact ⟨k1, Classical.byContradiction fun k => k2 ⟨k1, k⟩⟩
  · rintro ⟨k1, k2⟩
    exact ⟨k1, fun k => k.2 k2⟩
theorem rMinus_in2 {a b : List Sp} {n : Int} (ha : SetIn a n) : SetIn (Sp.rMinus a b) n := by
  obtain ⟨h1, h2⟩ := Sp.rMinus_spec b ha.1
  exact SetIn.of_mem h1 (fun x hx => ha.mem ((h2 x).1 hx).1)
set_option maxHeartbeats 400000 in
theorem rmeet_any (A1 : Option Addr) (c1 : Nat) (a : List Sp) (A2 : Option Addr) (c2 : Nat) (b : List Sp) (w : World) (ha : SetIn a 1099511627776) (hlb : b.length ≤ 140737488340000) (hr1 : ReadsSp w w.heap.size A1 a) (hr2 : ReadsSp w w.heap.size A2 b) (z1 : A1 = none → c1 = 0) :
    Calls Tryz.prog 40 #[.slice A1 a.length c1, .slice A2 b.length c2] w fun e' w' => ∃ A' c' out, e' = .returned (.slice A' out.length c') ∧ Hid (out = rMeet a b) ∧ OwnsSp w.heap.size w' A' c' out ∧ Ext w w' := by
  have HR1 := Lib.hid hr1
  have HR2 := Lib.hid hr2
  have HZ1 := Lib.hid z1
  have HA := Lib.hid ha
  have hll : (Sp.rMinus a b).length ≤ 140737488340000 := by have := (rMinus_in2 (b := b) ha).small; omega
  clear hr1 hr2 z1 ha
  go_enter Tryz.func40, Tryz.ntmps40
  go_wp2_with (go_at_call 39; first
    | (with_reducible refine (rminus_any A1 c1 a A2 c2 b _ HA.out hlb (HR1.out.on (by (repeat (first | with_reducible exact Ext.refl _ | with_reducible exact Ext.refl _ | with_reducible refine Ext.drew ?_ | with_reducible refine Ext.drewN ?_ _ | with_reducible refine Ext.alloc ?_ _ | with_reducible refine Ext.onto ?_ _ | (with_reducible refine Ext.setCells ?_ ?_ _ _; rotate_left; focus (first | omega | (simp; done) | (simp; omega))) | (with_reducible refine Ext.setCell ?_ ?_ _; rotate_left; focus (first | omega | (simp; done) | (simp; omega))))))) (HR2.out.on (by (repeat (first | with_reducible exact Ext.refl _ | with_reducible exact Ext.refl _ | with_reducible refine Ext.drew ?_ | with_reducible refine Ext.drewN ?_ _ | with_reducible refine Ext.alloc ?_ _ | with_reducible refine Ext.onto ?_ _ | (with_reducible refine Ext.setCells ?_ ?_ _ _; rotate_left; focus (first | omega | (simp; done) | (simp; omega))) | (with_reducible refine Ext.setCell ?_ ?_ _; rotate_left; focus (first | omega | (simp; done) | (simp; omega))))))) HZ1.out).mono ?_; rintro e w4 ⟨A4, c4, l4, rfl, HL4, ho4, hx4⟩; have HO4 := Lib.hid ho4; have HX4 := Lib.hid hx4; clear ho4 hx4)
    | (refine (rminus_any A1 c1 a A4 c4 l4 _ HA.out (by rw [HL4.out]; exact hll) (HR1.out.on HX4.out) (HO4.out.reads spE) HZ1.out).mono ?_; rintro e w5 ⟨A5, c5, l5, rfl, HL5, ho5, hx5⟩; have HO5 := Lib.hid ho5; have HX5 := Lib.hid hx5; clear ho5 hx5))
  go_ret
  exact ⟨A5, c5, l5, rfl, Lib.hid (by rw [HL5.out, HL4.out]; rfl), HO5.out.lower HX4.out.size, HX4.out.trans HX5.out⟩
end Go.Proofs.YthhblgjbgjceiaaGreatDoor
