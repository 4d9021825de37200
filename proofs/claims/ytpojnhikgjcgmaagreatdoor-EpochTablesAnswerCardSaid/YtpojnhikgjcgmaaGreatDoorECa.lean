/- Small letters: address.lower, and the specification's small. -/
import Derived.Lib.Split
import Derived.Lib.Join
import Derived.Lib.IndexMore
import Derived.Lib.IndexBytes
import Derived.Lib.SlicesCompact
import Derived.Sort.Walk0
import Derived.Lib.IndexLaws
import Derived.Lib.Strings
import Derived.WalkKit
import Derived.WalkSpells
import Derived.WalkLawsBesides
import Derived.Deep.QuietTactic
import Derived.BigQuiet
import Derived.Test.YtpojnhikgjcgmaaGreatDoorEBa
set_option maxRecDepth 100000
set_option maxHeartbeats 64000000
set_option linter.unusedVariables false
set_option linter.unusedSimpArgs false
namespace Go.Proofs.YtpojnhikgjcgmaaGreatDoor.Tg
open Go
abbrev Bs := List UInt8
structure Cut (sep : UInt8) (s : Bs) (l : List Bs) : Prop where
 some : l ≠ []
 free : ∀ p ∈ l, sep ∉ p
 join : Lib.join l [sep] = s
theorem tail_uniq (sep : UInt8) : ∀ {x y a b : Bs}, sep ∉ x → sep ∉ y → x ++ sep :: a = y ++ sep :: b → x = y ∧ a = b
 | [], [], a, b, _, _, h => by simpa using h
 | [], c :: y, a, b, _, hy, h => by
  simp only [List.nil_append, List.cons_append, List.cons.injEq] at h
  exact absurd (by rw [h.1]; simp) hy
 | c :: x, [], a, b, hx, _, h => by
  simp only [List.nil_append, List.cons_append, List.cons.injEq] at h
  exact absurd (by rw [h.1]; simp) hx
 | c :: x, d :: y, a, b, hx, hy, h => by
  simp only [List.cons_append, List.cons.injEq] at h
  obtain ⟨rfl, h⟩ := h
  obtain ⟨h1, h2⟩ := tail_uniq sep (fun k => hx (by simp [k])) (fun k => hy (by simp [k])) h
  exact ⟨by rw [h1], h2⟩
theorem join_two (x y : Bs) (r : List Bs) (sep : UInt8) : Lib.join (x :: y :: r) [sep] = x ++ sep :: Lib.join (y :: r) [sep] := by
 rw [Lib.join_cons, Lib.join_cons, Lib.joinTail]
 simp [Lib.joinTail]
theorem join_uniq (sep : UInt8) : ∀ {l m : List Bs}, l ≠ [] → m ≠ [] → (∀ p ∈ l, sep ∉ p) → (∀ p ∈ m, sep ∉ p) → Lib.join l [sep] = Lib.join m [sep] → l = m
 | [], _, h, _, _, _, _ => absurd rfl h
 | _, [], _, h, _, _, _ => absurd rfl h
 | [x], [y], _, _, _, _, h => by rw [Lib.join_one, Lib.join_one] at h; rw [h]
 | [x], y :: z :: r, _, _, hl, _, h => by
  rw [Lib.join_one, join_two] at h
  exact absurd (by rw [h]; simp) (hl x (by simp))
 | x :: z :: r, [y], _, _, _, hm, h => by
  rw [Lib.join_one, join_two] at h
  exact absurd (by rw [← h]; simp) (hm y (by simp))
 | x :: x' :: r, y :: y' :: t, _, _, hl, hm, h => by
  rw [join_two, join_two] at h
  obtain ⟨h1, h2⟩ := tail_uniq sep (hl x (by simp)) (hm y (by simp)) h
  rw [h1, join_uniq sep (by simp) (by simp) (fun p hp => hl p (List.mem_cons_of_mem _ hp)) (fun p hp => hm p (List.mem_cons_of_mem _ hp)) h2]
theorem Cut.uniq {sep : UInt8} {s : Bs} {l m : List Bs} (h : Cut sep s l) (k : Cut sep s m) : l = m := join_uniq sep h.some k.some h.free k.free (h.join.trans k.join.symm)
theorem Cut.cons {sep : UInt8} {x s : Bs} {l : List Bs} (hx : sep ∉ x) (h : Cut sep s l) : Cut sep (x ++ sep :: s) (x :: l) := by
 obtain ⟨h1, h2, h3⟩ := h
 match l, h1, h2, h3 with
 | y :: r, _, h2, h3 =>
  refine ⟨by simp, fun p hp => ?_, by rw [join_two, h3]⟩
  rcases List.mem_cons.1 hp with rfl | hp
  ·exact hx
  ·exact h2 p hp
theorem Cut.one {sep : UInt8} {s : Bs} (h : sep ∉ s) : Cut sep s [s] := ⟨by simp, fun p hp => by simp at hp; rwa [hp], Lib.join_one _ _⟩
theorem join_snoc (sep : UInt8) : ∀ (l : List Bs) (x : Bs), l ≠ [] → Lib.join (l ++ [x]) [sep] = Lib.join l [sep] ++ sep :: x
 | [], _, h => absurd rfl h
 | [y], x, _ => by rw [List.singleton_append, join_two, Lib.join_one, Lib.join_one]
 | y :: z :: r, x, _ => by
  rw [List.cons_append, List.cons_append, join_two, join_two, ← List.cons_append, join_snoc sep (z :: r) x (by simp)]
  simp
structure Under (sep : UInt8) (s : Bs) (done : List Bs) (cur rest : Bs) : Prop where
 free : ∀ p ∈ done, sep ∉ p
 fcur : sep ∉ cur
 all : s = (done.map (· ++ [sep])).flatten ++ cur ++ rest
theorem Under.start (sep : UInt8) (s : Bs) : Under sep s [] [] s := ⟨fun p hp => by simp at hp, by simp, by simp⟩
theorem Under.step {sep : UInt8} {s : Bs} {done : List Bs} {cur rest : Bs} {c : UInt8} (h : Under sep s done cur (c :: rest)) (hc : c ≠ sep) : Under sep s done (cur ++ [c]) rest :=
 ⟨h.free, by simp [h.fcur, Ne.symm hc], by rw [h.all]; simp⟩
theorem Under.cut {sep : UInt8} {s : Bs} {done : List Bs} {cur rest : Bs} (h : Under sep s done cur (sep :: rest)) : Under sep s (done ++ [cur]) [] rest :=
 ⟨fun p hp => by
  rcases List.mem_append.1 hp with hp | hp
  ·exact h.free p hp
  ·simp at hp; rw [hp]; exact h.fcur, by simp, by rw [h.all]; simp⟩
theorem flat_join (sep : UInt8) : ∀ (done : List Bs) (x : Bs), (done.map (· ++ [sep])).flatten ++ x = Lib.join (done ++ [x]) [sep]
 | [], x => by simp [Lib.join_one]
 | [y], x => by simp [join_two, Lib.join_one]
 | y :: z :: r, x => by
  have := flat_join sep (z :: r) x
  have e : y :: z :: r ++ [x] = y :: z :: (r ++ [x]) := rfl
  rw [List.map_cons, List.flatten_cons, List.append_assoc, this, e, join_two]
  simp
theorem Under.done {sep : UInt8} {s : Bs} {done : List Bs} {cur : Bs} (h : Under sep s done cur []) : Cut sep s (done ++ [cur]) :=
 ⟨by simp, fun p hp => by
  rcases List.mem_append.1 hp with hp | hp
  ·exact h.free p hp
  ·simp at hp; rw [hp]; exact h.fcur, by rw [← flat_join, h.all]; simp⟩
def letter (c : Nat) : Bool := (decide (97 ≤ c) && decide (c ≤ 122)) || (decide (48 ≤ c) && decide (c ≤ 57)) || c == 45 || c == 95 || c == 46
def wordB (s : Bs) : Bool := s != [] && decide (s.length ≤ 64) && s != [46] && s != [46, 46] && s.all fun c => letter c.toNat
def nameB (s : Bs) : Bool := wordB s && !(s.contains 46)
theorem nameB_no {s : Bs} (h : nameB s = true) {c : UInt8} (hc : letter c.toNat = false) : c ∉ s := fun hm => by
 simp only [nameB, wordB, Bool.and_eq_true, List.all_eq_true] at h
 rw [h.1.2 c hm] at hc
 cases hc
def Asc (l : List Bs) : Prop := l.Pairwise (· < ·)
theorem lt_irr (a : Bs) : ¬ a < a := List.lt_irrefl a
theorem lt_as {a b : Bs} (h : a < b) : ¬ b < a := List.lt_asymm h
theorem asc_uniq : ∀ {l m : List Bs}, Asc l → Asc m → (∀ x, x ∈ l ↔ x ∈ m) → l = m
 | [], [], _, _, _ => rfl
 | [], y :: m, _, _, h => absurd ((h y).2 (by simp)) (by simp)
 | x :: l, [], _, _, h => absurd ((h x).1 (by simp)) (by simp)
 | x :: l, y :: m, hl, hm, h => by
  unfold Asc at hl hm
  rw [List.pairwise_cons] at hl hm
  have e : x = y := by
   have h1 := (h x).1 (by simp)
   have h2 := (h y).2 (by simp)
   rcases List.mem_cons.1 h1 with h1 | h1
   ·exact h1
   rcases List.mem_cons.1 h2 with h2 | h2
   ·exact h2.symm
   exact absurd (hm.1 x h1) (lt_as (hl.1 y h2))
  subst e
  rw [asc_uniq (l := l) (m := m) hl.2 hm.2]
  intro z
  have := h z
  simp only [List.mem_cons] at this
  constructor
  ·intro hz
   rcases this.1 (.inr hz) with e | k
   ·subst e; exact absurd (hl.1 z hz) (lt_irr z)
   ·exact k
  ·intro hz
   rcases this.2 (.inr hz) with e | k
   ·subst e; exact absurd (hm.1 z hz) (lt_irr z)
   ·exact k
def Tags (s : Bs) : Prop := s = [] ∨ ∃ l, Cut 44 s l ∧ (∀ p ∈ l, nameB p = true) ∧ Asc l ∧ s.length ≤ 4096
theorem same_iff {s : Bs} {l m : List Bs} (hl : Cut 44 s l) (hn : ∀ p ∈ l, nameB p = true) (hm : Asc m) (h : ∀ x, x ∈ m ↔ x ∈ l) : Lib.join m [44] = s ↔ Asc l := by
 have hm0 : m ≠ [] := by
  intro e
  obtain ⟨x, hx⟩ := List.exists_mem_of_ne_nil l hl.some
  rw [← h x, e] at hx
  simp at hx
 constructor
 ·intro hj
  have := join_uniq 44 hm0 hl.some (fun p hp => hl.free p ((h p).1 hp)) hl.free (hj.trans hl.join.symm)
  rwa [← this]
 ·intro ha
  rw [asc_uniq hm ha h]
  exact hl.join
open Classical in
noncomputable def tagsB (s : Bs) : Bool := decide (Tags s)
theorem tags_nil : tagsB [] = true := by simp [tagsB, Tags]
theorem tags_of {s : Bs} {l m : List Bs} (hl : Cut 44 s l) (h0 : s ≠ []) (hn : ∀ p ∈ l, nameB p = true) (hm : Asc m) (h : ∀ x, x ∈ m ↔ x ∈ l) (hs : s.length ≤ 4096) : tagsB s = decide (Lib.join m [44] = s) := by
 have key : Tags s ↔ Lib.join m [44] = s := by
  rw [same_iff hl hn hm h]
  constructor
  ·rintro (e | ⟨k, hk, _, ha, _⟩)
   ·exact absurd e h0
   ·rwa [hl.uniq hk]
  ·exact fun ha => .inr ⟨l, hl, hn, ha, hs⟩
 unfold tagsB
 simp only [key]
theorem tags_no {s : Bs} {l : List Bs} (hl : Cut 44 s l) (h0 : s ≠ []) {p : Bs} (hp : p ∈ l) (hn : nameB p = false) : tagsB s = false := by
 unfold tagsB
 rw [decide_eq_false_iff_not]
 rintro (e | ⟨k, hk, hk2, _, _⟩)
 ·exact h0 e
 ·rw [hl.uniq hk] at hp
  rw [hk2 p hp] at hn
  cases hn
theorem tags_long {s : Bs} (h : 4096 < s.length) : tagsB s = false := by
 unfold tagsB
 rw [decide_eq_false_iff_not]
 rintro (e | ⟨k, _, _, _, hk⟩)
 ·subst e; simp at h
 ·omega
theorem compact_spec (zs : List Bs) (h : zs.Pairwise (· ≤ ·)) : Asc (Lib.compact zs) ∧ ∀ x, x ∈ Lib.compact zs ↔ x ∈ zs := by
 have key : ∀ m, m ≤ zs.length → Asc (Lib.compactUpTo zs.toArray m) ∧ ∀ x, x ∈ Lib.compactUpTo zs.toArray m ↔ ∃ j, ∃ hj : j < zs.length, j < m ∧ zs[j] = x := by
  intro m
  induction m with
  | zero => intro _; exact ⟨by simp [Lib.compactUpTo, Asc], fun x => by simp [Lib.compactUpTo]⟩
  | succ m ih =>
   intro hm
   obtain ⟨h1, h2⟩ := ih (by omega)
   have hg : zs.toArray[m]! = zs[m] := by rw [getElem!_pos zs.toArray m (by simpa using (by omega : m < zs.length))]; simp
   rw [Lib.compactUpTo_succ]
   by_cases hk : Lib.keeps zs.toArray m = true
   ·rw [if_pos hk, hg]
    refine ⟨?_, fun x => ?_⟩
    ·unfold Asc
     rw [List.pairwise_append]
     refine ⟨h1, List.pairwise_singleton _ _, fun a ha b hb => ?_⟩
     rw [List.mem_singleton] at hb
     subst hb
     obtain ⟨j, hj, hjm, rfl⟩ := (h2 a).1 ha
     have hle : zs[m - 1] ≤ zs[m] := by
      have hm1 : m - 1 < m := by omega
      exact List.pairwise_iff_getElem.1 h (m - 1) m (by omega) (by omega) hm1
     have hne : zs[m] ≠ zs[m - 1] := by
      simp only [Lib.keeps, decide_eq_true_eq] at hk
      rcases hk with hk | hk
      ·omega
      ·rw [hg, getElem!_pos zs.toArray (m - 1) (by simpa using (by omega : m - 1 < zs.length))] at hk
       simpa using hk
     have hlt : zs[m - 1] < zs[m] := by
      rcases List.le_iff_lt_or_eq.1 hle with k | k
      ·exact k
      ·exact absurd k.symm hne
     by_cases e : j = m - 1
     ·subst e; exact hlt
     ·have hle2 : zs[j] ≤ zs[m - 1] := List.pairwise_iff_getElem.1 h j (m - 1) hj (by omega) (by omega)
      rcases List.le_iff_lt_or_eq.1 hle2 with k | k
      ·exact List.lt_trans k hlt
      ·rw [k]; exact hlt
    ·rw [List.mem_append, h2 x, List.mem_singleton]
     constructor
     ·rintro (⟨j, hj, hjm, e⟩ | e)
      ·exact ⟨j, hj, by omega, e⟩
      ·exact ⟨m, by omega, by omega, e.symm⟩
     ·rintro ⟨j, hj, hjm, e⟩
      by_cases ej : j = m
      ·subst ej; exact .inr e.symm
      ·exact .inl ⟨j, hj, by omega, e⟩
   ·rw [if_neg hk, List.append_nil]
    refine ⟨h1, fun x => ?_⟩
    rw [h2 x]
    constructor
    ·rintro ⟨j, hj, hjm, e⟩; exact ⟨j, hj, by omega, e⟩
    ·rintro ⟨j, hj, hjm, e⟩
     by_cases ej : j = m
     ·subst ej
      have hkm : 0 < j ∧ zs[j] = zs[j - 1] := by
       have hk' : Lib.keeps zs.toArray j = false := by simpa using hk
       simp only [Lib.keeps, decide_eq_false_iff_not, not_or, Decidable.not_not] at hk'
       refine ⟨by omega, ?_⟩
       have h3 := hk'.2
       rw [hg, getElem!_pos zs.toArray (j - 1) (by simpa using (by omega : j - 1 < zs.length))] at h3
       simpa using h3
      exact ⟨j - 1, by omega, by omega, by rw [← hkm.2]; exact e⟩
     ·exact ⟨j, hj, by omega, e⟩
 obtain ⟨h1, h2⟩ := key zs.length (Nat.le_refl _)
 refine ⟨h1, fun x => ?_⟩
 unfold Lib.compact
 rw [h2 x]
 constructor
 ·rintro ⟨j, hj, _, rfl⟩; exact List.getElem_mem hj
 ·intro hx
  obtain ⟨j, hj, e⟩ := List.getElem_of_mem hx
  exact ⟨j, hj, hj, e⟩
theorem splitK_cut (sep : UInt8) : ∀ (k : Nat) (s : Bs), s.count sep ≤ k → Cut sep s (Lib.splitK [sep] 0 k s)
 | 0, s, h => Cut.one (List.count_eq_zero.1 (by omega))
 | k + 1, s, h => by
  unfold Lib.splitK
  rw [Lib.index_one]
  have hib : ∀ (t : Bs), (Lib.indexByte t sep = -1 ∧ sep ∉ t) ∨ ∃ i : Nat, Lib.indexByte t sep = i ∧ sep ∉ t.take i ∧ t = t.take i ++ sep :: t.drop (i + 1) := by
   intro t
   induction t with
   | nil => exact .inl ⟨rfl, by simp⟩
   | cons c t ih =>
    unfold Lib.indexByte
    by_cases e : c = sep
    ·subst e
     exact .inr ⟨0, by simp, by simp, by simp⟩
    ·rw [if_neg (by simpa using e)]
     rcases ih with ⟨h1, h2⟩ | ⟨i, h1, h2, h3⟩
     ·rw [h1]
      exact .inl ⟨by simp, by simp [h2, Ne.symm e]⟩
     ·rw [h1, if_neg (by simp)]
      refine .inr ⟨i + 1, by omega, by simp [h2, Ne.symm e], ?_⟩
      rw [List.take_succ_cons, List.drop_succ_cons, List.cons_append]
      exact congrArg (c :: ·) h3
  rcases hib s with ⟨h1, h2⟩ | ⟨i, h1, h2, h3⟩
  ·rw [h1, if_pos (by simp)]
   exact Cut.one h2
  ·rw [h1, if_neg (by simp)]
   have hc : (s.drop (i + 1)).count sep ≤ k := by
    have : s.count sep = (s.take i ++ sep :: s.drop (i + 1)).count sep := by rw [← h3]
    rw [List.count_append, List.count_cons_self] at this
    omega
   have := Cut.cons (x := s.take i) h2 (splitK_cut sep k (s.drop (i + 1)) hc)
   rw [← h3] at this
   simpa using this
def ins (s : Bs) : List Bs → List Bs
 | [] => [s]
 | x :: t => if s ≤ x then (if x = s then s :: t else s :: x :: t) else x :: ins s t
def insStep (s : Bs) (st : List Bs × Bool) (x : Bs) : List Bs × Bool :=
 let st1 := if st.2 = false ∧ s ≤ x then (st.1 ++ [s], true) else st
 if x = s then st1 else (st1.1 ++ [x], st1.2)
theorem not_le_lt {a b : Bs} (h : ¬ a ≤ b) : b < a := by
 rcases List.le_total a b with k | k
 ·exact absurd k h
 ·exact Classical.byContradiction fun n => h (List.not_lt.1 n)
theorem le_ne_lt {a b : Bs} (h : a ≤ b) (n : a ≠ b) : a < b := Classical.byContradiction fun k => n (List.le_antisymm h (List.not_lt.1 k))
theorem ins_true (s : Bs) : ∀ (l : List Bs) (out : List Bs), (∀ x ∈ l, s < x) → l.foldl (insStep s) (out, true) = (out ++ l, true)
 | [], out, _ => by simp
 | x :: t, out, h => by
  have hx : x ≠ s := fun e => List.lt_irrefl s (by have := h x (by simp); rwa [e] at this)
  rw [List.foldl_cons, show insStep s (out, true) x = (out ++ [x], true) by simp [insStep, hx], ins_true s t _ (fun y hy => h y (by simp [hy]))]
  simp
theorem ins_false (s : Bs) : ∀ (l : List Bs) (out : List Bs), Asc l → (l.foldl (insStep s) (out, false)).1 ++ (if (l.foldl (insStep s) (out, false)).2 then [] else [s]) = out ++ ins s l
 | [], out, _ => by simp [ins]
 | x :: t, out, h => by
  have ht : ∀ y ∈ t, x < y := (List.pairwise_cons.1 h).1
  have ha : Asc t := (List.pairwise_cons.1 h).2
  rw [List.foldl_cons]
  by_cases h1 : s ≤ x
  ·by_cases h2 : x = s
   ·have e : insStep s (out, false) x = (out ++ [s], true) := by simp [insStep, h2]
    rw [e, ins_true s t _ (fun y hy => by rw [← h2]; exact ht y hy), ins, if_pos h1, if_pos h2]
    simp
   ·have e : insStep s (out, false) x = (out ++ [s] ++ [x], true) := by simp [insStep, h1, h2]
    have hs : s < x := le_ne_lt h1 (fun e => h2 e.symm)
    rw [e, ins_true s t _ (fun y hy => List.lt_trans hs (ht y hy)), ins, if_pos h1, if_neg h2]
    simp
  ·have h2 : x ≠ s := fun e => h1 (by rw [e]; exact List.le_refl s)
   have e : insStep s (out, false) x = (out ++ [x], false) := by simp [insStep, h1, h2]
   rw [e, ins_false s t _ ha, ins, if_neg h1]
   simp
theorem ins_mem (s : Bs) : ∀ (l : List Bs) (y : Bs), y ∈ ins s l ↔ y = s ∨ y ∈ l
 | [], y => by simp [ins]
 | x :: t, y => by
  unfold ins
  split
  ·split
   ·rename_i h; subst h; simp
   ·simp
  ·simp [ins_mem s t y]
   exact ⟨fun h => by rcases h with h | h | h <;> simp [h], fun h => by rcases h with h | h | h <;> simp [h]⟩
theorem ins_asc (s : Bs) : ∀ {l : List Bs}, Asc l → Asc (ins s l)
 | [], _ => by simp [ins, Asc]
 | x :: t, h => by
  have ht : ∀ y ∈ t, x < y := (List.pairwise_cons.1 h).1
  have ha : Asc t := (List.pairwise_cons.1 h).2
  unfold ins
  split
  ·rename_i h1
   split
   ·rename_i h2; rw [← h2]; exact h
   ·rename_i h2
    have hs : s < x := le_ne_lt h1 (fun e => h2 e.symm)
    exact List.pairwise_cons.2 ⟨fun y hy => by rcases List.mem_cons.1 hy with k | k; exact k ▸ hs; exact List.lt_trans hs (ht y k), h⟩
  ·rename_i h1
   refine List.pairwise_cons.2 ⟨fun y hy => ?_, ins_asc s ha⟩
   rcases (ins_mem s t y).1 hy with k | k
   ·rw [k]; exact not_le_lt h1
   ·exact ht y k
def insAll (l : List Bs) : List Bs := l.foldl (fun o s => ins s o) []
theorem insAll_snoc (l : List Bs) (s : Bs) : insAll (l ++ [s]) = ins s (insAll l) := by simp [insAll]
theorem insAll_spec (l : List Bs) : Asc (insAll l) ∧ ∀ x, x ∈ insAll l ↔ x ∈ l := by
 have key : ∀ (l o : List Bs), Asc o → Asc (l.foldl (fun o s => ins s o) o) ∧ ∀ x, x ∈ l.foldl (fun o s => ins s o) o ↔ x ∈ o ∨ x ∈ l := by
  intro l
  induction l with
  | nil => intro o h; exact ⟨h, by simp⟩
  | cons s t ih =>
   intro o h
   obtain ⟨h1, h2⟩ := ih (ins s o) (ins_asc s h)
   refine ⟨h1, fun x => ?_⟩
   rw [List.foldl_cons, h2, ins_mem, List.mem_cons]
   exact ⟨fun k => by rcases k with (k | k) | k <;> simp [k], fun k => by rcases k with k | k | k <;> simp [k]⟩
 obtain ⟨h1, h2⟩ := key l [] (by simp [Asc])
 exact ⟨h1, fun x => by rw [insAll, h2]; simp⟩
end Go.Proofs.YtpojnhikgjcgmaaGreatDoor.Tg

namespace Go.Proofs.YtpojnhikgjcgmaaGreatDoor.Ad
open Go
abbrev Bs := List UInt8
def low (c : UInt8) : UInt8 := if 65 ≤ c.toNat ∧ c.toNat ≤ 90 then c + 32 else c
def lowers (s : Bs) : Bs := s.map low
def cutB (c : UInt8) : Bs → Bs × Bs × Bool
 | [] => ([], [], false)
 | x :: r => if x = c then ([], r, true) else (x :: (cutB c r).1, (cutB c r).2.1, (cutB c r).2.2)
theorem cutB_hit {c : UInt8} : ∀ {s : Bs} {i : Nat} (h : i < s.length), s[i] = c → (∀ j (hj : j < s.length), j < i → s[j] ≠ c) → cutB c s = (s.take i, s.drop (i + 1), true)
 | [], i, h, _, _ => by simp at h
 | x :: r, 0, h, h1, _ => by
  have e : x = c := by simpa using h1
  simp [cutB, e]
 | x :: r, i + 1, h, h1, h2 => by
  have e : ¬ x = c := by
   have := h2 0 (by simp) (by omega)
   rw [List.getElem_cons_zero] at this
   exact this
  have hr := cutB_hit (c := c) (s := r) (i := i) (by simpa using h) (by simpa using h1) (fun j hj hji => by
   have := h2 (j + 1) (by simpa using hj) (by omega)
   simpa using this)
  simp only [cutB, if_neg e, hr, List.take_succ_cons, List.drop_succ_cons]
theorem cutB_miss {c : UInt8} : ∀ {s : Bs}, c ∉ s → cutB c s = (s, [], false)
 | [], _ => rfl
 | x :: r, h => by
  have e : ¬ x = c := fun k => h (by simp [k])
  have hr := cutB_miss (c := c) (s := r) (fun k => h (by simp [k]))
  simp only [cutB, if_neg e, hr]
theorem cutB_index (c : UInt8) (s : Bs) : (Lib.indexByte s c = -1 ∧ cutB c s = (s, [], false) ∧ c ∉ s) ∨ ∃ i : Nat, Lib.indexByte s c = i ∧ i < s.length ∧ cutB c s = (s.take i, s.drop (i + 1), true) ∧ c ∉ s.take i ∧ s = s.take i ++ c :: s.drop (i + 1) := by
 have h0 := Lib.indexByte_ge s c
 by_cases hn : Lib.indexByte s c = -1
 ·refine .inl ⟨hn, ?_⟩
  have hm : c ∉ s := fun hm => by
   obtain ⟨k, hk, e⟩ := List.mem_iff_getElem.1 hm
   exact Lib.indexByte_none hn k (by rw [List.getElem?_eq_getElem hk, e])
  exact ⟨cutB_miss hm, hm⟩
 ·obtain ⟨i, hi⟩ : ∃ i : Nat, Lib.indexByte s c = i := ⟨(Lib.indexByte s c).toNat, by omega⟩
  obtain ⟨h1, h2⟩ := Lib.indexByte_some hi
  obtain ⟨hlt, e⟩ := List.getElem?_eq_some_iff.1 h1
  refine .inr ⟨i, hi, hlt, cutB_hit hlt e (fun j hj hji k => h2 j hji (by rw [List.getElem?_eq_getElem hj, k])), ?_, ?_⟩
  ·intro hm
   obtain ⟨k, hk, e'⟩ := List.mem_iff_getElem.1 hm
   rw [List.length_take] at hk
   rw [List.getElem_take] at e'
   exact h2 k (by omega) (by rw [List.getElem?_eq_getElem (by omega), e'])
  ·conv => lhs; rw [← List.take_append_drop i s]
   rw [List.drop_eq_getElem_cons hlt, e]
def pieces (c : UInt8) : Bs → List Bs
 | [] => [[]]
 | x :: r => if x = c then [] :: pieces c r else match pieces c r with
  | [] => [[x]]
  | p :: q => (x :: p) :: q
theorem pieces_cut (c : UInt8) : ∀ s : Bs, Tg.Cut c s (pieces c s)
 | [] => Tg.Cut.one (by simp)
 | x :: r => by
  have h := pieces_cut c r
  by_cases e : x = c
  ·have := Tg.Cut.cons (x := []) (by simp) h
   rw [List.nil_append] at this
   rw [pieces, if_pos e, e]
   exact this
  ·rw [pieces, if_neg e]
   generalize pieces c r = l at h
   obtain ⟨h1, h2, h3⟩ := h
   match l, h1, h2, h3 with
   | [p], _, h2, h3 =>
    rw [Lib.join_one] at h3
    refine ⟨by simp, fun q hq => ?_, by rw [Lib.join_one, h3]⟩
    simp at hq
    subst hq
    intro hm
    rcases List.mem_cons.1 hm with k | k
    ·exact e k.symm
    ·exact h2 p (by simp) k
   | p :: p2 :: q, _, h2, h3 =>
    rw [Tg.join_two] at h3
    refine ⟨by simp, fun t ht => ?_, by rw [Tg.join_two, List.cons_append, h3]⟩
    rcases List.mem_cons.1 ht with k | k
    ·subst k
     intro hm
     rcases List.mem_cons.1 hm with k | k
     ·exact e k.symm
     ·exact h2 p (by simp) k
    ·exact h2 t (List.mem_cons_of_mem _ k)
theorem pieces_of {c : UInt8} {s : Bs} {l : List Bs} (h : Tg.Cut c s l) : l = pieces c s := h.uniq (pieces_cut c s)
theorem pieces_one {c : UInt8} {s : Bs} (h : c ∉ s) : pieces c s = [s] := (pieces_of (Tg.Cut.one h)).symm
theorem pieces_hit {c : UInt8} {s x r : Bs} (h : c ∉ x) (e : s = x ++ c :: r) : pieces c s = x :: pieces c r := by
 subst e
 exact (pieces_of (Tg.Cut.cons h (pieces_cut c r))).symm
theorem pieces_len (c : UInt8) : ∀ s : Bs, (pieces c s).length ≤ s.length + 1
 | [] => by simp [pieces]
 | x :: r => by
  have h := pieces_len c r
  by_cases e : x = c
  ·rw [pieces, if_pos e]
   simpa using h
  ·rw [pieces, if_neg e]
   generalize pieces c r = l at *
   match l, h with
   | [], _ => simp
   | p :: q, h => simp only [List.length_cons] at h ⊢; omega
def trim1 (s : Bs) : Bs := Lib.trimSuffix s [47]
theorem trim1_len (s : Bs) : (trim1 s).length ≤ s.length := by
 unfold trim1 Lib.trimSuffix
 split
 ·simp
 ·exact Nat.le_refl _
def resIn (out : List Bs) (p : Bs) : Option (List Bs) := if p = [46] then some out else if p = [46, 46] then (if out = [] then none else some out.dropLast) else if Tg.wordB p then some (out ++ [p]) else none
def resStep (o : Option (List Bs)) (p : Bs) : Option (List Bs) := o.bind fun out => resIn out p
def resAll (l : List Bs) : Option (List Bs) := l.foldl resStep (some [])
theorem res_none (l : List Bs) : l.foldl resStep none = none := by
 induction l with
 | nil => rfl
 | cons x l ih => exact ih
theorem res_snoc (l : List Bs) (p : Bs) : resAll (l ++ [p]) = resStep (resAll l) p := by simp [resAll]
theorem res_app (l m : List Bs) : resAll (l ++ m) = m.foldl resStep (resAll l) := by simp [resAll]
theorem dots_not2 : Tg.wordB [46, 46] = false := by decide
theorem resIn_len {o out : List Bs} {p : Bs} (h : resIn o p = some out) (hw : ∀ q ∈ o, Tg.wordB q = true) : out.length ≤ o.length + 1 ∧ ∀ q ∈ out, Tg.wordB q = true := by
 unfold resIn at h
 split at h
 ·injection h with h
  subst h
  exact ⟨by omega, hw⟩
 ·split at h
  ·split at h
   ·cases h
   ·injection h with h
    subst h
    exact ⟨by rw [List.length_dropLast]; omega, fun q hq => hw q (List.dropLast_subset _ hq)⟩
  ·split at h
   ·rename_i hp
    injection h with h
    subst h
    refine ⟨by simp, fun q hq => ?_⟩
    rcases List.mem_append.1 hq with k | k
    ·exact hw q k
    ·simp at k; rw [k]; exact hp
   ·cases h
theorem res_from : ∀ (l : List Bs) (o out : List Bs), l.foldl resStep (some o) = some out → (∀ p ∈ o, Tg.wordB p = true) → out.length ≤ o.length + l.length ∧ ∀ p ∈ out, Tg.wordB p = true := by
 intro l
 induction l with
 | nil =>
  intro o out h hw
  injection h with h
  subst h
  exact ⟨by simp, hw⟩
 | cons p l ih =>
  intro o out h hw
  rw [List.foldl_cons] at h
  have e : resStep (some o) p = resIn o p := rfl
  rw [e] at h
  cases hr : resIn o p with
  | none =>
   rw [hr, res_none] at h
   cases h
  | some o2 =>
   rw [hr] at h
   have h1 := resIn_len hr hw
   have h2 := ih o2 out h h1.2
   simp only [List.length_cons]
   exact ⟨by omega, h2.2⟩
theorem res_len {l : List Bs} {out : List Bs} (h : resAll l = some out) : out.length ≤ l.length ∧ ∀ p ∈ out, Tg.wordB p = true := by
 have := res_from l [] out h (by simp)
 simpa using this
abbrev Pr := Bs × Bs
def putP (p : Pr) : List Pr → List Pr
 | [] => [p]
 | q :: r => if p.1 < q.1 then p :: q :: r else if p.1 = q.1 then p :: r else q :: putP p r
def pairOf (q : Bs) : Option Pr := if (cutB 61 q).2.2 = true ∧ Tg.nameB (cutB 61 q).1 = true ∧ Tg.wordB (cutB 61 q).2.1 = true then some ((cutB 61 q).1, (cutB 61 q).2.1) else none
def qIn (l : List Pr) (q : Bs) : Option (List Pr) := (pairOf q).map fun p => putP p l
def qStep (o : Option (List Pr)) (q : Bs) : Option (List Pr) := o.bind fun l => qIn l q
def qAll (l : List Bs) : Option (List Pr) := l.foldl qStep (some [])
def quN (s : Bs) : Option (List Pr) := if s = [] then some [] else qAll (pieces 38 s)
theorem q_none (l : List Bs) : l.foldl qStep none = none := by
 induction l with
 | nil => rfl
 | cons x l ih => exact ih
theorem q_snoc (l : List Bs) (p : Bs) : qAll (l ++ [p]) = qStep (qAll l) p := by simp [qAll]
def AscP (l : List Pr) : Prop := (l.map (·.1)).Pairwise (· < ·)
theorem not_le_lt {a b : Bs} (h : ¬ a ≤ b) : b < a := Classical.byContradiction fun k => h (List.not_lt.1 k)
theorem lt_of {a b : Bs} (h : ¬ a < b) (n : ¬ a = b) : b < a := Classical.byContradiction fun k => n (List.le_antisymm (List.not_lt.1 k) (List.not_lt.1 h))
theorem putP_keys (p : Pr) : ∀ (l : List Pr) (k : Bs), k ∈ (putP p l).map (·.1) ↔ k = p.1 ∨ k ∈ l.map (·.1)
 | [], k => by simp [putP]
 | q :: r, k => by
  unfold putP
  split
  ·simp
  ·split
   ·rename_i e
    simp [e]
   ·have := putP_keys p r k
    simp only [List.map_cons, List.mem_cons, this]
    constructor
    ·rintro (h | h | h)
     ·exact .inr (.inl h)
     ·exact .inl h
     ·exact .inr (.inr h)
    ·rintro (h | h | h)
     ·exact .inr (.inl h)
     ·exact .inl h
     ·exact .inr (.inr h)
theorem putP_asc (p : Pr) : ∀ {l : List Pr}, AscP l → AscP (putP p l)
 | [], _ => by simp [AscP, putP]
 | q :: r, h => by
  have hq := List.pairwise_cons.1 h
  unfold putP
  split
  ·rename_i hlt
   refine List.pairwise_cons.2 ⟨fun k hk => ?_, h⟩
   rcases List.mem_cons.1 hk with e | e
   ·rw [e]; exact hlt
   ·exact List.lt_trans hlt (hq.1 k e)
  ·rename_i hlt
   split
   ·rename_i e
    refine List.pairwise_cons.2 ⟨fun k hk => ?_, hq.2⟩
    show p.1 < k
    rw [e]
    exact hq.1 k hk
   ·rename_i hne
    refine List.pairwise_cons.2 ⟨fun k hk => ?_, putP_asc p hq.2⟩
    rcases (putP_keys p r k).1 hk with e | e
    ·rw [e]; exact lt_of hlt hne
    ·exact hq.1 k e
theorem putP_len (p : Pr) : ∀ l : List Pr, (putP p l).length ≤ l.length + 1
 | [] => by simp [putP]
 | q :: r => by
  unfold putP
  split
  ·simp
  ·split
   ·simp
   ·have := putP_len p r
    simp only [List.length_cons]
    omega
def goodP (p : Pr) : Bool := Tg.nameB p.1 && Tg.wordB p.2
theorem pairOf_good {q : Bs} {p : Pr} (h : pairOf q = some p) : goodP p = true := by
 unfold pairOf at h
 split at h
 ·rename_i hh
  injection h with h
  subst h
  simp [goodP, hh.2.1, hh.2.2]
 ·cases h
theorem putP_mem (p : Pr) : ∀ (l : List Pr) (x : Pr), x ∈ putP p l → x = p ∨ x ∈ l
 | [], x, h => by simpa [putP] using h
 | q :: r, x, h => by
  unfold putP at h
  split at h
  ·simpa using h
  ·split at h
   ·rcases List.mem_cons.1 h with e | e
    ·exact .inl e
    ·exact .inr (List.mem_cons_of_mem _ e)
   ·rcases List.mem_cons.1 h with e | e
    ·exact .inr (by rw [e]; simp)
    ·rcases putP_mem p r x e with k | k
     ·exact .inl k
     ·exact .inr (List.mem_cons_of_mem _ k)
theorem qAll_ok : ∀ (l : List Bs) (o out : List Pr), l.foldl qStep (some o) = some out → AscP o → (∀ p ∈ o, goodP p = true) → AscP out ∧ (∀ p ∈ out, goodP p = true) ∧ out.length ≤ o.length + l.length := by
 intro l
 induction l with
 | nil =>
  intro o out h ha hg
  injection h with h
  subst h
  exact ⟨ha, hg, by simp⟩
 | cons q l ih =>
  intro o out h ha hg
  rw [List.foldl_cons] at h
  have e : qStep (some o) q = qIn o q := rfl
  rw [e] at h
  unfold qIn at h
  cases hp : pairOf q with
  | none =>
   rw [hp, Option.map_none, q_none] at h
   cases h
  | some p =>
   rw [hp, Option.map_some] at h
   have h2 := ih _ out h (putP_asc p ha) (fun x hx => by
    rcases putP_mem p o x hx with k | k
    ·rw [k]; exact pairOf_good hp
    ·exact hg x k)
   have h3 := putP_len p o
   simp only [List.length_cons]
   exact ⟨h2.1, h2.2.1, by omega⟩
theorem quN_ok {s : Bs} {out : List Pr} (h : quN s = some out) : AscP out ∧ (∀ p ∈ out, goodP p = true) ∧ out.length ≤ (pieces 38 s).length := by
 unfold quN at h
 split at h
 ·injection h with h
  subst h
  exact ⟨by simp [AscP], by simp, by simp⟩
 ·have := qAll_ok _ [] out h (by simp [AscP]) (by simp)
  simpa using this
structure Adr where
 cust : Bs
 path : List Bs
 query : List Pr
def noAdr : Adr := ⟨[], [], []⟩
def headN (s : Bs) : Bs × Bs × Bool := cutB 63 (lowers s)
def leftN (s : Bs) : Bs × Bs × Bool := cutB 47 (trim1 (headN s).1)
def pathN (s : Bs) : Option (List Bs) := if (leftN s).2.2 = true then resAll (pieces 47 (leftN s).2.1) else some []
def parseE (s : Bs) : Int :=
 if 4096 < s.length then 2 else if Tg.nameB (leftN s).1 = true ∧ (pathN s).isSome = true ∧ (quN (headN s).2.1).isSome = true then
  (if 32 < ((pathN s).getD []).length ∨ 16 < ((quN (headN s).2.1).getD []).length then 2 else 0) else 3
def parseA (s : Bs) : Adr := if parseE s = 0 then ⟨(leftN s).1, (pathN s).getD [], (quN (headN s).2.1).getD []⟩ else noAdr
def pathT (l : List Bs) : Bs := l.flatMap fun p => 47 :: p
def pairT (p : Pr) : Bs := p.1 ++ 61 :: p.2
def quT : List Pr → Bs
 | [] => []
 | p :: r => 63 :: pairT p ++ r.flatMap fun q => 38 :: pairT q
def textT (a : Adr) : Bs := a.cust ++ pathT a.path ++ quT a.query
def canonE (s : Bs) : Int := if parseE s = 0 then (if 4096 < (textT (parseA s)).length then 1 else 0) else parseE s
def canonT (s : Bs) : Bs := if canonE s = 0 then textT (parseA s) else []
def canonB (s : Bs) : Bool := decide (canonE s = 0) && decide (canonT s = s)
theorem parseA_good {s : Bs} (h : parseE s = 0) : Tg.nameB (parseA s).cust = true ∧ (parseA s).path.length ≤ 32 ∧ (parseA s).query.length ≤ 16 ∧ (∀ p ∈ (parseA s).path, Tg.wordB p = true) ∧ AscP (parseA s).query ∧ ∀ p ∈ (parseA s).query, goodP p = true := by
 have hA : parseA s = ⟨(leftN s).1, (pathN s).getD [], (quN (headN s).2.1).getD []⟩ := if_pos h
 rw [hA]
 unfold parseE at h
 split at h
 ·cases h
 ·split at h
  ·rename_i h0 h1
   obtain ⟨h1, h2, h3⟩ := h1
   split at h
   ·cases h
   ·rename_i h4
    obtain ⟨p, hp⟩ := Option.isSome_iff_exists.1 h2
    obtain ⟨q, hq⟩ := Option.isSome_iff_exists.1 h3
    have hq2 := quN_ok hq
    rw [hp, hq] at h4
    simp only [Option.getD_some] at h4
    rw [hp, hq]
    refine ⟨h1, by show p.length ≤ _; omega, by show q.length ≤ _; omega, ?_, hq2.1, hq2.2.1⟩
    unfold pathN at hp
    split at hp
    ·exact (res_len hp).2
    ·injection hp with hp
     subst hp
     simp
  ·cases h
end Go.Proofs.YtpojnhikgjcgmaaGreatDoor.Ad

namespace Go.Proofs.YtpojnhikgjcgmaaGreatDoor
open Go.RowKit Go.Shelf
open Go.Proofs
def lowZ (x : Int) : Int := if 65 ≤ x ∧ x ≤ 90 then x + 32 else x
def lowTo (l : List Int) (k : Nat) : List Int := (l.take k).map lowZ ++ l.drop k
theorem lowTo_len (l : List Int) (k : Nat) : (lowTo l k).length = l.length := by simp [lowTo]; omega
theorem lowTo_zero (l : List Int) : lowTo l 0 = l := by simp [lowTo]
theorem lowTo_all (l : List Int) : lowTo l l.length = l.map lowZ := by simp [lowTo]
theorem lowTo_at (l : List Int) (k : Nat) (h : k < l.length) : (lowTo l k).getD k 0 = l.getD k 0 := by
 unfold lowTo
 rw [List.getD_eq_getElem?_getD, List.getElem?_append_right (by simp; omega)]
 simp [List.getD_eq_getElem?_getD, Nat.min_eq_left (Nat.le_of_lt h)]
theorem lowTo_succ (l : List Int) (k : Nat) (h : k < l.length) (j : Nat) : (lowTo l (k + 1)).getD j 0 = if j = k then lowZ (l.getD k 0) else (lowTo l k).getD j 0 := by
 have e1 : ∀ k j, (lowTo l k).getD j 0 = if j < l.length then (if j < k then lowZ (l.getD j 0) else l.getD j 0) else 0 := by
  intro k j
  unfold lowTo
  by_cases hj : j < l.length
  ·rw [if_pos hj]
   by_cases hk : j < k
   ·rw [if_pos hk, List.getD_eq_getElem?_getD, List.getElem?_append_left (by simp; omega)]
    simp [hj, hk]
   ·rw [if_neg hk, List.getD_eq_getElem?_getD, List.getElem?_append_right (by simp; omega)]
    simp only [List.length_map, List.length_take, List.getElem?_drop]
    rw [Nat.min_eq_left (show k ≤ l.length by omega), show k + (j - k) = j by omega, List.getD_eq_getElem?_getD]
  ·rw [if_neg hj, List.getD_eq_getElem?_getD, List.getElem?_eq_none (by simp; omega)]
   rfl
 rw [e1, e1]
 by_cases hj : j = k
 ·subst hj
  rw [if_pos h, if_pos (by omega), if_pos rfl]
 ·rw [if_neg hj]
  by_cases h1 : j < l.length
  ·rw [if_pos h1, if_pos h1]
   by_cases h2 : j < k
   ·rw [if_pos h2, if_pos (by omega)]
   ·rw [if_neg h2, if_neg (by omega)]
  ·rw [if_neg h1, if_neg h1]
theorem ByteAt.low {w : World} {b : Nat} {l : List Int} {k : Nat} (h : ByteAt w b (lowTo l k)) (hk : k < l.length) (u : Int) (hu : u = lowZ (l.getD k 0)) : ByteAt (w.setCell ⟨b, k, none⟩ (.int .u8 u)) b (lowTo l (k + 1)) := by
 subst hu
 refine ⟨by simpa [World.setCell] using h.1, fun j hj => ?_⟩
 rw [lowTo_len] at hj
 obtain ⟨k1, k2⟩ := h.2 j (by rw [lowTo_len]; exact hj)
 rw [lowTo_succ l k hk]
 refine ⟨?_, by rw [World.frozen?_setCell]; exact k2⟩
 rw [set_cell_if]
 by_cases e : j = k
 ·subst e
  rw [if_pos ⟨rfl, rfl⟩, if_pos rfl, k1]
  rfl
 ·rw [if_neg (by rintro ⟨_, e2⟩; exact e e2.symm), if_neg e, k1]
theorem ByteAt.lowKeep {w : World} {b : Nat} {l : List Int} {k : Nat} (h : ByteAt w b (lowTo l k)) (hk : k < l.length) (hu : lowZ (l.getD k 0) = l.getD k 0) : ByteAt w b (lowTo l (k + 1)) := by
 refine ⟨h.1, fun j hj => ?_⟩
 rw [lowTo_len] at hj
 obtain ⟨k1, k2⟩ := h.2 j (by rw [lowTo_len]; exact hj)
 rw [lowTo_succ l k hk]
 refine ⟨?_, k2⟩
 by_cases e : j = k
 ·subst e
  rw [if_pos rfl, k1, lowTo_at l j hk, hu]
 ·rw [if_neg e, k1]
theorem lows_bs (s : ByteArray) : (strOfNums ((bts s).map lowZ)).data.toList = Ad.lowers s.data.toList := by
 rw [strOfNums_data]
 unfold bts Ad.lowers
 rw [List.map_map, List.map_map]
 apply List.map_congr_left
 intro x hx
 have hx := x.toNat_lt
 simp only [Function.comp]
 unfold lowZ Ad.low
 by_cases h : 65 ≤ x.toNat ∧ x.toNat ≤ 90
 ·rw [if_pos (by omega), if_pos h]
  apply UInt8.toNat_inj.1
  rw [UInt8.toNat_add]
  simp
  omega
 ·rw [if_neg (by omega), if_neg h]
  simp
theorem lows_nil {s : ByteArray} (h : s.size = 0) : (ByteArray.empty).data.toList = Ad.lowers s.data.toList := by
 have e : s.data.toList = [] := List.eq_nil_of_length_eq_zero (by simpa using h)
 rw [e]
 rfl
def SmallIs (s : ByteArray) (e : Ending) : Prop := ∃ t : ByteArray, e = .returned (.string t) ∧ t.data.toList = Ad.lowers s.data.toList ∧ t.size = s.size
theorem lows_size (s : ByteArray) : (strOfNums ((bts s).map lowZ)).size = s.size := by
 have h := congrArg List.length (lows_bs s)
 simpa [Ad.lowers] using h
theorem conv_nobytes (w : World) (A : Option Addr) (c : Nat) : (convert 103 9 (.slice A 0 c)).run Tryz.prog w = .ok (.string ByteArray.empty) w := by
 rw [run_convert_bytes_string w 103 9 5 A 0 c (by kernel_rfl) (by kernel_rfl) (by kernel_rfl)]
 cases A with
 | none => simp [Conv.bytesToString, go_sem]
 | some a => simp [Conv.bytesToString, loadCellsFrom, go_sem]
attribute [local go_sem] strConv
theorem lower_any (s : ByteArray) (w : World) (hs : s.size ≤ 900000) :
  Calls Tryz.prog 214 #[.string s] w fun e w' => SmallIs s e ∧ Ext w w' := by
 have hbl := bts_length s
 have hbb := lh (bts_byte s)
 have hba := lh (bytes_at w 5 s)
 go_enter Tryz.func214, Tryz.ntmps214
 go_wp2
 refine wp_world (fun W => Ext w W ∧ ByteAt W w.heap.size (lowTo (bts s) 0)) ⟨ext_bytes _ _ _, by rw [lowTo_zero]; exact hba.out⟩ ?_
 rintro W1 ⟨x1, b1⟩
 have HX1 := lh x1
 have HB1 := lh b1
 clear x1 b1
 generalize grownCap w s.size 0 5 = gc
 go_loopw [10] (fun i wr => ∃ k : Nat, k ≤ s.size ∧ i = .int .i64 k ∧ Hid (ByteAt wr w.heap.size (lowTo (bts s) k)) ∧ Hid (Ext w wr)) (fun i _ => s.size - (intOf i).toNat)
 case atStart => exact ⟨0, Nat.zero_le _, rfl, HB1, HX1⟩
 case round =>
  obtain ⟨k, hk, rfl, HB, HX⟩ := hrel
  clear HX1 HB1
  have hlt0 := HB.out.1
  by_cases hlt : k < s.size
  ·have hc := (HB.out.2 k (by rw [lowTo_len]; omega)).1
   have hf := (HB.out.2 k (by rw [lowTo_len]; omega)).2
   rw [lowTo_at _ _ (by omega)] at hc
   have hby := getD_byte hbb.out k
   have HN := lh (fun h => ByteAt.lowKeep HB.out (by omega) h)
   have HL := lh (fun u h => ByteAt.low HB.out (by omega) u h)
   generalize (bts s).getD k 0 = x at *
   obtain ⟨hx0, hx1⟩ := hby
   by_cases h1 : 65 ≤ x
   ·have d1 : decide (65 ≤ x) = true := by simpa using h1
    by_cases h2 : x ≤ 90
    ·have d2 : decide (x ≤ 90) = true := by simpa using h2
     have HB2 := lh (HL.out (x + 97 - 65) (by unfold lowZ; rw [if_pos ⟨h1, h2⟩]; omega))
     clear HN HL
     go_wp2
     go_roundw
     case rel => exact ⟨k + 1, by omega, by go_num, HB2, lh (HX.out.setCell (Nat.le_refl _) _)⟩
     case measure => simp [intOf]; omega
    ·have d2 : decide (x ≤ 90) = false := by simpa using h2
     have HB2 := lh (HN.out (by unfold lowZ; rw [if_neg (by omega)]))
     clear HN HL
     go_wp2
     go_roundw
     case rel => exact ⟨k + 1, by omega, by go_num, HB2, HX⟩
     case measure => simp [intOf]; omega
   ·have d1 : decide (65 ≤ x) = false := by simpa using h1
    have HB2 := lh (HN.out (by unfold lowZ; rw [if_neg (by omega)]))
    clear HN HL
    go_wp2
    go_roundw
    case rel => exact ⟨k + 1, by omega, by go_num, HB2, HX⟩
    case measure => simp [intOf]; omega
  ·have e : k = s.size := by omega
   subst e
   have HB2 : Hid (ByteAt wr w.heap.size ((bts s).map lowZ)) := lh (by rw [← lowTo_all, hbl]; exact HB.out)
   by_cases h0 : s.size = 0
   ·have HS : Hid (SmallIs s (.returned (.string ByteArray.empty))) := lh ⟨_, rfl, lows_nil h0, h0.symm⟩
    have hcv := conv_nobytes wr (some ⟨w.heap.size, 0, none⟩) gc
    rw [h0]
    clear hbl
    go_wp2
    go_ret
    exact ⟨HS.out, HX.out⟩
   ·have HS : Hid (SmallIs s (.returned (.string (strOfNums ((bts s).map lowZ))))) := lh ⟨_, rfl, lows_bs s, lows_size s⟩
    have hl2 : ((bts s).map lowZ).length = s.size := by rw [List.length_map, hbl]
    have hcv := conv_bytes gc HB2.out.reads (by omega)
    rw [hl2] at hcv
    clear hbl hl2
    go_wp2
    go_ret
    exact ⟨HS.out, HX.out⟩
end Go.Proofs.YtpojnhikgjcgmaaGreatDoor