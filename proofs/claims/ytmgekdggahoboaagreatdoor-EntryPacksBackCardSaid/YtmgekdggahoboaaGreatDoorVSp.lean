/- Sets of bytes, plain: lists of spans with gaps between them are known by their bytes; joining, adding, cutting. -/
import Derived.Lib.Hide
set_option linter.unusedVariables false
set_option linter.unusedSimpArgs false
namespace Go.Proofs.Sp
abbrev Sp := Int × Int
def IsSet (l : List Sp) : Prop := l.Pairwise (fun a b => a.2 < b.1) ∧ ∀ s ∈ l, s.1 < s.2
def mem (l : List Sp) (x : Int) : Prop := ∃ s ∈ l, s.1 ≤ x ∧ x < s.2
theorem IsSet.nil : IsSet [] := ⟨List.Pairwise.nil, fun s hs => by cases hs⟩
theorem IsSet.one {s : Sp} (h : s.1 < s.2) : IsSet [s] := ⟨List.pairwise_singleton _ _, fun t ht => by simp at ht; subst ht; exact h⟩
theorem IsSet.tail {a : Sp} {l : List Sp} (h : IsSet (a :: l)) : IsSet l := ⟨(List.pairwise_cons.1 h.1).2, fun s hs => h.2 s (List.mem_cons_of_mem _ hs)⟩
theorem IsSet.gt {a : Sp} {l : List Sp} (h : IsSet (a :: l)) {x : Int} (hx : mem l x) : a.2 < x := by
 obtain ⟨s, hs, h1, h2⟩ := hx
 have := (List.pairwise_cons.1 h.1).1 s hs
 omega
theorem mem_nil (x : Int) : ¬ mem [] x := fun ⟨_, h, _⟩ => by cases h
theorem mem_cons (a : Sp) (l : List Sp) (x : Int) : mem (a :: l) x ↔ (a.1 ≤ x ∧ x < a.2) ∨ mem l x := by
 constructor
 ·rintro ⟨s, hs, h⟩
  rcases List.mem_cons.1 hs with rfl | hs
  ·exact .inl h
  ·exact .inr ⟨s, hs, h⟩
 ·rintro (h | ⟨s, hs, h⟩)
  ·exact ⟨a, List.mem_cons_self .., h⟩
  ·exact ⟨s, List.mem_cons_of_mem _ hs, h⟩
theorem mem_append (l m : List Sp) (x : Int) : mem (l ++ m) x ↔ mem l x ∨ mem m x := by
 induction l with
 | nil => exact ⟨.inr, fun h => h.elim (fun h => (mem_nil x h).elim) id⟩
 | cons a l ih => rw [List.cons_append, mem_cons, mem_cons, ih, or_assoc]
theorem mem_one (s : Sp) (x : Int) : mem [s] x ↔ s.1 ≤ x ∧ x < s.2 := by
 rw [mem_cons]
 exact ⟨fun h => h.elim id (fun h => (mem_nil x h).elim), .inl⟩
theorem isSet_concat {l : List Sp} {t : Sp} : IsSet (l ++ [t]) ↔ IsSet l ∧ t.1 < t.2 ∧ ∀ a ∈ l, a.2 < t.1 := by
 constructor
 ·rintro ⟨h, h4⟩
  obtain ⟨h1, _, h3⟩ := List.pairwise_append.1 h
  exact ⟨⟨h1, fun s hs => h4 s (List.mem_append.2 (.inl hs))⟩, h4 t (by simp), fun a ha => h3 a ha t (by simp)⟩
 ·rintro ⟨⟨h1, h2⟩, h3, h4⟩
  refine ⟨List.pairwise_append.2 ⟨h1, List.pairwise_singleton _ _, fun a ha b hb => ?_⟩, fun s hs => ?_⟩
  ·simp at hb; subst hb; exact h4 a ha
  ·rcases List.mem_append.1 hs with hs | hs
   ·exact h2 s hs
   ·simp at hs; subst hs; exact h3
theorem IsSet.ext : ∀ {l m : List Sp}, IsSet l → IsSet m → (∀ x, mem l x ↔ mem m x) → l = m
 | [], [], _, _, _ => rfl
 | [], b :: m, _, h2, h => by
  have hb := h2.2 b (List.mem_cons_self ..)
  exact absurd ((h b.1).2 ((mem_cons ..).2 (.inl ⟨by omega, hb⟩))) (mem_nil _)
 | a :: l, [], h1, _, h => by
  have ha := h1.2 a (List.mem_cons_self ..)
  exact absurd ((h a.1).1 ((mem_cons ..).2 (.inl ⟨by omega, ha⟩))) (mem_nil _)
 | a :: l, b :: m, h1, h2, h => by
  have ha := h1.2 a (List.mem_cons_self ..)
  have hb := h2.2 b (List.mem_cons_self ..)
  have e1 : a.1 = b.1 := by
   have k1 := (h a.1).1 ((mem_cons ..).2 (.inl ⟨by omega, ha⟩))
   have k2 := (h b.1).2 ((mem_cons ..).2 (.inl ⟨by omega, hb⟩))
   rw [mem_cons] at k1 k2
   rcases k1 with k1 | k1
   ·rcases k2 with k2 | k2
    ·omega
    ·have := h1.gt k2; omega
   ·have := h2.gt k1
    rcases k2 with k2 | k2
    ·omega
    ·have := h1.gt k2; omega
  have e2 : a.2 = b.2 := by
   by_cases c : a.2 < b.2
   ·have k := (h a.2).2 ((mem_cons ..).2 (.inl ⟨by omega, c⟩))
    rw [mem_cons] at k
    rcases k with k | k
    ·omega
    ·have := h1.gt k; omega
   ·by_cases c' : b.2 < a.2
    ·have k := (h b.2).1 ((mem_cons ..).2 (.inl ⟨by omega, c'⟩))
     rw [mem_cons] at k
     rcases k with k | k
     ·omega
     ·have := h2.gt k; omega
    ·omega
  have e : a = b := Prod.ext e1 e2
  subst e
  have : l = m := IsSet.ext h1.tail h2.tail fun x => by
   constructor
   ·intro k
    have g := h1.gt k
    have := (h x).1 ((mem_cons ..).2 (.inr k))
    rw [mem_cons] at this
    rcases this with t | t
    ·omega
    ·exact t
   ·intro k
    have g := h2.gt k
    have := (h x).2 ((mem_cons ..).2 (.inr k))
    rw [mem_cons] at this
    rcases this with t | t
    ·omega
    ·exact t
  rw [this]
def step (out : List Sp) (s : Sp) : List Sp :=
 if s.2 ≤ s.1 then out
 else match out.getLast? with
  | some t => if s.1 ≤ t.2 then out.dropLast ++ [(t.1, max t.2 s.2)] else out ++ [s]
  | none => out ++ [s]
def joined (l : List Sp) : List Sp := l.foldl step []
theorem step_empty {out : List Sp} {s : Sp} (h : s.2 ≤ s.1) : step out s = out := by rw [step, if_pos h]
theorem step_nil {s : Sp} (h : s.1 < s.2) : step [] s = [s] := by rw [step, if_neg (by omega)]; rfl
theorem step_join {l : List Sp} {t s : Sp} (h : s.1 < s.2) (k : s.1 ≤ t.2) : step (l ++ [t]) s = l ++ [(t.1, max t.2 s.2)] := by
 rw [step, if_neg (by omega)]
 simp [k]
theorem step_more {l : List Sp} {t s : Sp} (h : s.1 < s.2) (k : t.2 < s.1) : step (l ++ [t]) s = l ++ [t] ++ [s] := by
 rw [step, if_neg (by omega)]
 simp
 omega
theorem step_spec {out : List Sp} {s : Sp} (h : IsSet out) (hs : ∀ t ∈ out, t.1 ≤ s.1) : IsSet (step out s) ∧ (∀ x, mem (step out s) x ↔ mem out x ∨ (s.1 ≤ x ∧ x < s.2)) ∧ ∀ t ∈ step out s, t.1 ≤ s.1 := by
 by_cases h0 : s.2 ≤ s.1
 ·rw [step_empty h0]
  exact ⟨h, fun x => ⟨.inl, fun k => k.elim id (fun k => by omega)⟩, hs⟩
 rcases List.eq_nil_or_concat out with rfl | ⟨l, t, rfl⟩
 ·rw [step_nil (by omega)]
  refine ⟨IsSet.one (by omega), fun x => ?_, fun t ht => by simp at ht; subst ht; omega⟩
  rw [mem_one]
  exact ⟨.inr, fun k => k.elim (fun k => (mem_nil x k).elim) id⟩
 ·rw [List.concat_eq_append] at h hs ⊢
  obtain ⟨h1, h2, h3⟩ := isSet_concat.1 h
  have ht := hs t (by simp)
  by_cases hc : s.1 ≤ t.2
  ·rw [step_join (by omega) hc]
   refine ⟨isSet_concat.2 ⟨h1, by show t.1 < max t.2 s.2; omega, h3⟩, fun x => ?_, fun u hu => ?_⟩
   ·rw [mem_append, mem_append, mem_one, mem_one]
    constructor
    ·rintro (k | ⟨k1, k2⟩)
     ·exact .inl (.inl k)
     ·have k1' : t.1 ≤ x := k1
      have k2' : x < max t.2 s.2 := k2
      by_cases c : x < t.2
      ·exact .inl (.inr ⟨k1', c⟩)
      ·exact .inr ⟨by omega, by omega⟩
    ·rintro ((k | k) | k)
     ·exact .inl k
     ·exact .inr ⟨k.1, by show x < max t.2 s.2; omega⟩
     ·exact .inr ⟨by show t.1 ≤ x; omega, by show x < max t.2 s.2; omega⟩
   ·rcases List.mem_append.1 hu with hu | hu
    ·exact hs u (List.mem_append.2 (.inl hu))
    ·simp at hu; subst hu; exact ht
  ·rw [step_more (by omega) (by omega)]
   refine ⟨isSet_concat.2 ⟨h, by omega, fun a ha => ?_⟩, fun x => ?_, fun u hu => ?_⟩
   ·rcases List.mem_append.1 ha with ha | ha
    ·have := h3 a ha; omega
    ·simp at ha; subst ha; omega
   ·rw [mem_append, mem_one]
   ·rcases List.mem_append.1 hu with hu | hu
    ·exact hs u hu
    ·simp at hu; subst hu; omega
theorem foldl_spec : ∀ (l out : List Sp), IsSet out → (∀ t ∈ out, ∀ s ∈ l, t.1 ≤ s.1) → l.Pairwise (fun a b => a.1 ≤ b.1) → IsSet (l.foldl step out) ∧ ∀ x, mem (l.foldl step out) x ↔ mem out x ∨ mem l x
 | [], out, h, _, _ => ⟨h, fun x => ⟨.inl, fun k => k.elim id (fun k => (mem_nil x k).elim)⟩⟩
 | s :: l, out, h, hs, hp => by
  obtain ⟨hp1, hp2⟩ := List.pairwise_cons.1 hp
  obtain ⟨a1, a2, a3⟩ := step_spec h (fun t ht => hs t ht s (List.mem_cons_self ..))
  obtain ⟨b1, b2⟩ := foldl_spec l (step out s) a1 (fun t ht u hu => by have := a3 t ht; have := hp1 u hu; omega) hp2
  refine ⟨b1, fun x => ?_⟩
  rw [List.foldl_cons, b2, a2, mem_cons, or_assoc]
theorem joined_spec {l : List Sp} (hp : l.Pairwise (fun a b => a.1 ≤ b.1)) : IsSet (joined l) ∧ ∀ x, mem (joined l) x ↔ mem l x := by
 obtain ⟨h1, h2⟩ := foldl_spec l [] IsSet.nil (fun t ht => by cases ht) hp
 exact ⟨h1, fun x => (h2 x).trans ⟨fun k => k.elim (fun k => (mem_nil x k).elim) id, .inr⟩⟩
theorem mem_perm {l m : List Sp} (h : l.Perm m) (x : Int) : mem l x ↔ mem m x :=
 ⟨fun ⟨s, hs, k⟩ => ⟨s, h.mem_iff.1 hs, k⟩, fun ⟨s, hs, k⟩ => ⟨s, h.mem_iff.2 hs, k⟩⟩
def cutOne (a s : Sp) : List Sp :=
 (if min a.2 s.1 ≤ a.1 then [] else [(a.1, min a.2 s.1)]) ++ (if a.2 ≤ max a.1 s.2 then [] else [(max a.1 s.2, a.2)])
def rCut (l : List Sp) (s : Sp) : List Sp := if s.2 ≤ s.1 then l else l.flatMap (cutOne · s)
def rMinus (a b : List Sp) : List Sp := b.foldl rCut a
theorem mem_cutOne (a s : Sp) (x : Int) : mem (cutOne a s) x ↔ (a.1 ≤ x ∧ x < a.2) ∧ ¬ (s.1 ≤ x ∧ x < s.2) ∨ ((a.1 ≤ x ∧ x < a.2) ∧ s.2 ≤ s.1 ∧ False) := by
 unfold cutOne
 rw [mem_append]
 by_cases c1 : min a.2 s.1 ≤ a.1 <;> by_cases c2 : a.2 ≤ max a.1 s.2
 all_goals
  simp only [c1, c2, if_true, if_false, mem_one]
  try simp only [mem]
  simp
  omega
theorem cutOne_in {a s t : Sp} (h : t ∈ cutOne a s) : a.1 ≤ t.1 ∧ t.2 ≤ a.2 ∧ t.1 < t.2 := by
 unfold cutOne at h
 rcases List.mem_append.1 h with h | h
 ·split at h
  ·cases h
  ·simp at h; subst h
   show a.1 ≤ a.1 ∧ min a.2 s.1 ≤ a.2 ∧ a.1 < min a.2 s.1
   omega
 ·split at h
  ·cases h
  ·simp at h; subst h
   show a.1 ≤ max a.1 s.2 ∧ a.2 ≤ a.2 ∧ max a.1 s.2 < a.2
   omega
theorem cutOne_set (a : Sp) {s : Sp} (hs : s.1 < s.2) : IsSet (cutOne a s) := by
 refine ⟨?_, fun t ht => (cutOne_in ht).2.2⟩
 unfold cutOne
 refine List.pairwise_append.2 ⟨?_, ?_, fun t ht u hu => ?_⟩
 ·split <;> simp
 ·split <;> simp
 ·split at ht
  ·cases ht
  ·split at hu
   ·cases hu
   ·simp at ht hu; subst ht hu
    show min a.2 s.1 < max a.1 s.2
    omega
theorem rCut_spec {l : List Sp} (h : IsSet l) (s : Sp) : IsSet (rCut l s) ∧ ∀ x, mem (rCut l s) x ↔ mem l x ∧ ¬ (s.1 ≤ x ∧ x < s.2) := by
 unfold rCut
 by_cases h0 : s.2 ≤ s.1
 ·rw [if_pos h0]
  exact ⟨h, fun x => ⟨fun k => ⟨k, by omega⟩, fun k => k.1⟩⟩
 rw [if_neg h0]
 induction l with
 | nil => exact ⟨IsSet.nil, fun x => ⟨fun k => (mem_nil x k).elim, fun k => (mem_nil x k.1).elim⟩⟩
 | cons a l ih =>
  obtain ⟨i1, i2⟩ := ih h.tail
  rw [List.flatMap_cons]
  refine ⟨⟨List.pairwise_append.2 ⟨(cutOne_set a (by omega)).1, i1.1, fun t ht u hu => ?_⟩, fun t ht => ?_⟩, fun x => ?_⟩
  ·have k1 := cutOne_in ht
   obtain ⟨b, hb, hu⟩ := List.mem_flatMap.1 hu
   have k2 := cutOne_in hu
   have := (List.pairwise_cons.1 h.1).1 b hb
   omega
  ·rcases List.mem_append.1 ht with ht | ht
   ·exact (cutOne_in ht).2.2
   ·exact i1.2 t ht
  ·rw [mem_append, i2, mem_cutOne, mem_cons]
   constructor
   ·rintro ((k | k) | k)
    ·exact ⟨.inl k.1, k.2⟩
    ·exact k.2.2.elim
    ·exact ⟨.inr k.1, k.2⟩
   ·rintro ⟨k | k, k2⟩
    ·exact .inl (.inl ⟨k, k2⟩)
    ·exact .inr ⟨k, k2⟩
theorem rMinus_spec : ∀ (b : List Sp) {a : List Sp}, IsSet a → IsSet (rMinus a b) ∧ ∀ x, mem (rMinus a b) x ↔ mem a x ∧ ¬ mem b x
 | [], a, h => ⟨h, fun x => ⟨fun k => ⟨k, mem_nil x⟩, fun k => k.1⟩⟩
 | s :: b, a, h => by
  obtain ⟨c1, c2⟩ := rCut_spec h s
  obtain ⟨d1, d2⟩ := rMinus_spec b c1
  refine ⟨d1, fun x => ?_⟩
  have e : rMinus a (s :: b) = rMinus (rCut a s) b := rfl
  rw [e, d2, c2, mem_cons, not_or, and_assoc]
theorem rMinus_one {s : Sp} (h : s.1 < s.2) (b : List Sp) : IsSet (rMinus [s] b) ∧ ∀ x, mem (rMinus [s] b) x ↔ (s.1 ≤ x ∧ x < s.2) ∧ ¬ mem b x := by
 obtain ⟨h1, h2⟩ := rMinus_spec b (IsSet.one h)
 exact ⟨h1, fun x => by rw [h2, mem_one]⟩
def pieces : List Int → List Sp
 | a :: b :: r => (a, b) :: pieces (b :: r)
 | _ => []
theorem pieces_length : ∀ (l : List Int), (pieces l).length = l.length - 1
 | [] => rfl
 | [_] => rfl
 | a :: b :: r => by simp [pieces, pieces_length (b :: r)]
theorem pieces_get : ∀ (l : List Int) (n : Nat) (h : n + 1 < l.length), (pieces l)[n]? = some (l[n], l[n + 1])
 | [], n, h => by simp at h
 | [_], n, h => by simp at h
 | a :: b :: r, 0, h => rfl
 | a :: b :: r, n + 1, h => by
  rw [pieces, List.getElem?_cons_succ, pieces_get (b :: r) n (by simpa using h)]
  rfl
theorem pieces_none : ∀ {l : List Int}, l.Pairwise (· < ·) → ∀ s ∈ pieces l, s.1 < s.2 ∧ s.1 ∈ l ∧ s.2 ∈ l ∧ ∀ e ∈ l, e ≤ s.1 ∨ s.2 ≤ e
 | [], _, s, h => by cases h
 | [_], _, s, h => by cases h
 | a :: b :: r, hp, s, h => by
  obtain ⟨p1, p2⟩ := List.pairwise_cons.1 hp
  obtain ⟨q1, q2⟩ := List.pairwise_cons.1 p2
  rw [pieces] at h
  rcases List.mem_cons.1 h with rfl | h
  ·refine ⟨p1 b (List.mem_cons_self ..), List.mem_cons_self .., by simp, fun e he => ?_⟩
   rcases List.mem_cons.1 he with rfl | he
   ·exact .inl (Int.le_refl _)
   ·rcases List.mem_cons.1 he with rfl | he
    ·exact .inr (Int.le_refl _)
    ·exact .inr (by have := q1 e he; show b ≤ e; omega)
  ·obtain ⟨k1, k2, k3, k4⟩ := pieces_none p2 s h
   refine ⟨k1, List.mem_cons_of_mem _ k2, List.mem_cons_of_mem _ k3, fun e he => ?_⟩
   rcases List.mem_cons.1 he with rfl | he
   ·exact .inl (by have := p1 s.1 k2; omega)
   ·exact k4 e he
theorem pieces_cover : ∀ {l : List Int}, l.Pairwise (· < ·) → ∀ {x lo hi : Int}, lo ∈ l → hi ∈ l → lo ≤ x → x < hi → mem (pieces l) x
 | [], _, x, lo, hi, h, _, _, _ => by cases h
 | [c], _, x, lo, hi, h1, h2, h3, h4 => by simp at h1 h2; omega
 | a :: b :: r, hp, x, lo, hi, h1, h2, h3, h4 => by
  obtain ⟨p1, p2⟩ := List.pairwise_cons.1 hp
  rw [pieces, mem_cons]
  have hlo : a ≤ x := by
   rcases List.mem_cons.1 h1 with rfl | h1
   ·exact h3
   ·have := p1 lo h1; omega
  by_cases hx : x < b
  ·exact .inl ⟨hlo, hx⟩
  ·refine .inr (pieces_cover p2 (lo := b) (hi := hi) (List.mem_cons_self ..) ?_ (by omega) h4)
   rcases List.mem_cons.1 h2 with rfl | h2
   ·omega
   ·exact h2
def ends (l : List Sp) : List Int := l.flatMap fun s => [s.1, s.2]
theorem mem_ends {l : List Sp} {s : Sp} (h : s ∈ l) : s.1 ∈ ends l ∧ s.2 ∈ ends l :=
 ⟨List.mem_flatMap.2 ⟨s, h, by simp⟩, List.mem_flatMap.2 ⟨s, h, by simp⟩⟩
theorem mem_piece {l : List Sp} {E : List Int} {s : Sp} (hE : ∀ t ∈ l, t.1 ∈ E ∧ t.2 ∈ E) (hs : ∀ e ∈ E, e ≤ s.1 ∨ s.2 ≤ e) {x : Int} (h1 : s.1 ≤ x) (h2 : x < s.2) : mem l x ↔ mem l s.1 := by
 constructor
 ·rintro ⟨t, ht, a, b⟩
  have e1 := hs t.1 (hE t ht).1
  have e2 := hs t.2 (hE t ht).2
  exact ⟨t, ht, by omega, by omega⟩
 ·rintro ⟨t, ht, a, b⟩
  have e1 := hs t.1 (hE t ht).1
  have e2 := hs t.2 (hE t ht).2
  exact ⟨t, ht, by omega, by omega⟩
def skip (l : List Sp) (p : Int) : Nat → Nat
 | i => i
def past (l : List Sp) (p : Int) (i : Nat) : Prop := i ≤ l.length ∧ (∀ j (h : j < l.length), j < i → l[j].2 ≤ p) ∧ ∀ h : i < l.length, p < l[i].2
theorem past_mem {l : List Sp} (hl : IsSet l) {p : Int} {i : Nat} (h : past l p i) : mem l p ↔ ∃ h : i < l.length, l[i].1 ≤ p := by
 obtain ⟨h0, h1, h2⟩ := h
 constructor
 ·rintro ⟨t, ht, a, b⟩
  obtain ⟨j, hj, rfl⟩ := List.mem_iff_getElem.1 ht
  by_cases c : j < i
  ·have := h1 j hj c; omega
  ·have hi : i < l.length := by omega
   refine ⟨hi, ?_⟩
   by_cases e : j = i
   ·subst e; exact a
   ·have := List.pairwise_iff_getElem.1 hl.1 i j hi hj (by omega)
    have := hl.2 l[i] (List.getElem_mem hi)
    omega
 ·rintro ⟨hi, a⟩
  exact ⟨l[i], List.getElem_mem hi, a, h2 hi⟩
end Go.Proofs.Sp