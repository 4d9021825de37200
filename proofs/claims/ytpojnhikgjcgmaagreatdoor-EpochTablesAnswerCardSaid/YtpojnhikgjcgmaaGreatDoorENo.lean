/- What purges can name, in the order in which the program goes over it: plain. -/
import Derived.WalkKit
import Derived.WalkSpells
import Derived.WalkLawsBesides
import Derived.Deep.QuietTactic
import Derived.BigQuiet
import Derived.Test.YtpojnhikgjcgmaaGreatDoorENx
import Derived.Lib.IndexAny
set_option linter.unusedVariables false
set_option linter.unusedSimpArgs false
namespace Go.Proofs.YtpojnhikgjcgmaaGreatDoor
open Go.RowKit Go.Shelf
open Go.Proofs
open Ad (Bs cutB)
theorem takeWhile_all {p : UInt8 → Bool} {l : Bs} (h : ∀ x ∈ l, p x = true) : l.takeWhile p = l := by
 have := List.takeWhile_append_of_pos (l₂ := []) h
 simpa using this
theorem cut_take (c : UInt8) (a : Bs) : (cutB c a).1 = a.takeWhile (fun x => x != c) := by
  rcases Ad.cutB_index c a with ⟨_, h, hm⟩ | ⟨i, hi, _, h, hm, e⟩
  ·rw [h]
   show a = _
   rw [takeWhile_all]
   intro x hx
   simp only [bne_iff_ne, ne_eq]
   rintro rfl
   exact hm hx
  ·rw [h]
   show a.take i = _
   have ht : ∀ x ∈ a.take i, (x != c) = true := by
    intro x hx
    simp only [bne_iff_ne, ne_eq]
    rintro rfl
    exact hm hx
   conv => rhs; rw [e]
   rw [List.takeWhile_append_of_pos ht, List.takeWhile_cons_of_neg (by simp), List.append_nil]
theorem cust_cuts (a : Bs) : (cutB 63 (cutB 47 a).1).1 = custB a := by
 rw [cut_take, cut_take]
 unfold custB
 induction a with
 | nil => rfl
 | cons x t ih =>
  by_cases h1 : x = 47
  ·subst h1; rfl
  ·have e1 : (x != 47) = true := by simpa using h1
   rw [List.takeWhile_cons_of_pos (by exact e1)]
   by_cases h2 : x = 63
   ·subst h2; rfl
   ·have e2 : (x != 63) = true := by simpa using h2
    rw [List.takeWhile_cons_of_pos (by exact e2), List.takeWhile_cons_of_pos (by rw [e1, e2]; rfl), ih]
theorem cust_index : ∀ a : Bs, (Lib.indexAny a [47, 63] = -1 ∧ custB a = a) ∨ ∃ i : Nat, i < a.length ∧ Lib.indexAny a [47, 63] = i ∧ custB a = a.take i
 | [] => .inl ⟨rfl, rfl⟩
 | x :: t => by
  by_cases hc : x = 47 ∨ x = 63
  ·right
   refine ⟨0, by simp, ?_, ?_⟩
   ·rw [Lib.indexAny, if_pos (by rcases hc with rfl | rfl <;> decide)]; rfl
   ·unfold custB; rcases hc with rfl | rfl <;> rfl
  ·have n1 : x ≠ 47 := fun h => hc (.inl h)
   have n2 : x ≠ 63 := fun h => hc (.inr h)
   have hf : ([47, 63] : List UInt8).contains x = false := by simp [n1, n2]
   have hcu : custB (x :: t) = x :: custB t := by unfold custB; rw [List.takeWhile_cons_of_pos (by simp [n1, n2])]
   rw [Lib.indexAny, if_neg (by rw [hf]; exact Bool.false_ne_true), hcu]
   rcases cust_index t with ⟨h1, h2⟩ | ⟨i, hi, h1, h2⟩
   ·left
    rw [h1, h2]
    exact ⟨rfl, rfl⟩
   ·right
    refine ⟨i + 1, by simpa using hi, ?_, by rw [h2]; rfl⟩
    rw [h1, if_neg (by simp)]
    simp
theorem letter_ascii {c : UInt8} (h : Tg.letter c.toNat = true) : c.toNat < 128 := by
 simp only [Tg.letter, Bool.or_eq_true, Bool.and_eq_true, decide_eq_true_eq, beq_iff_eq] at h
 omega
theorem word_ascii {s : Bs} (h : Tg.wordB s = true) : ∀ c ∈ s, c.toNat < 128 := by
 simp only [Tg.wordB, Bool.and_eq_true, List.all_eq_true] at h
 intro c hc
 exact letter_ascii (h.2 c hc)
theorem name_word {s : Bs} (h : Tg.nameB s = true) : Tg.wordB s = true := by
 simp only [Tg.nameB, Bool.and_eq_true] at h
 exact h.1
theorem canon_text {s : Bs} (h : Ad.canonB s = true) : Ad.parseE s = 0 ∧ s = Ad.textT (Ad.parseA s) ∧ s.length ≤ 4096 := by
 simp only [Ad.canonB, Bool.and_eq_true, decide_eq_true_eq] at h
 have h1 := h.1
 have h2 := h.2
 unfold Ad.canonT at h2
 rw [if_pos h1] at h2
 unfold Ad.canonE at h1
 split at h1
 ·next h3 =>
  split at h1
  ·cases h1
  ·next h4 => exact ⟨h3, h2.symm, by rw [← h2]; omega⟩
 ·next h3 => exact absurd h1 h3
theorem pair_ascii {p : Ad.Pr} (h : Ad.goodP p = true) : ∀ c ∈ Ad.pairT p, c.toNat < 128 := by
 simp only [Ad.goodP, Bool.and_eq_true] at h
 intro c hc
 unfold Ad.pairT at hc
 rcases List.mem_append.1 hc with hc | hc
 ·exact word_ascii (name_word h.1) c hc
 ·rcases List.mem_cons.1 hc with rfl | hc
  ·decide
  ·exact word_ascii h.2 c hc
theorem canon_ascii {s : Bs} (h : Ad.canonB s = true) : ∀ c ∈ s, c.toNat < 128 := by
 obtain ⟨h1, h2, _⟩ := canon_text h
 obtain ⟨g1, _, _, g4, _, g6⟩ := Ad.parseA_good h1
 intro c hc
 rw [h2] at hc
 generalize Ad.parseA s = A at *
 obtain ⟨cu, pa, qu⟩ := A
 unfold Ad.textT at hc
 rcases List.mem_append.1 hc with hc | hc
 ·rcases List.mem_append.1 hc with hc | hc
  ·exact word_ascii (name_word g1) c hc
  ·unfold Ad.pathT at hc
   obtain ⟨p, hp, hq⟩ := List.mem_flatMap.1 hc
   rcases List.mem_cons.1 hq with rfl | hq
   ·decide
   ·exact word_ascii (g4 p hp) c hq
 ·match qu, g6, hc with
  | p :: r, g6, hc =>
   replace hc : c ∈ 63 :: (Ad.pairT p ++ r.flatMap fun q => 38 :: Ad.pairT q) := hc
   rcases List.mem_cons.1 hc with rfl | hc
   ·decide
   ·rcases List.mem_append.1 hc with hc | hc
    ·exact pair_ascii (g6 p (by simp)) c hc
    ·obtain ⟨q, hq, hh⟩ := List.mem_flatMap.1 hc
     rcases List.mem_cons.1 hh with rfl | hh
     ·decide
     ·exact pair_ascii (g6 q (by simp [hq])) c hh
theorem word_no {s : Bs} (h : Tg.wordB s = true) {c : UInt8} (hc : Tg.letter c.toNat = false) : c ∉ s := fun hm => by
 simp only [Tg.wordB, Bool.and_eq_true, List.all_eq_true] at h
 rw [h.2 c hm] at hc
 cases hc
theorem canon_query {s : Bs} (h : Ad.canonB s = true) : decide (((Ad.parseA s).query.length : Int) > 0) = s.contains 63 := by
 obtain ⟨h1, h2, _⟩ := canon_text h
 obtain ⟨g1, _, _, g4, _, g6⟩ := Ad.parseA_good h1
 conv => rhs; rw [h2]
 generalize Ad.parseA s = A at *
 obtain ⟨cu, pa, qu⟩ := A
 unfold Ad.textT
 have n1 : (63 : UInt8) ∉ cu := Tg.nameB_no g1 (by decide)
 have n2 : (63 : UInt8) ∉ Ad.pathT pa := by
  unfold Ad.pathT
  intro hc
  obtain ⟨p, hp, hq⟩ := List.mem_flatMap.1 hc
  rcases List.mem_cons.1 hq with hq | hq
  ·exact absurd hq (by decide)
  ·exact word_no (g4 p hp) (by decide) hq
 match qu with
 | [] =>
  show decide ((0 : Int) > 0) = _
  unfold Ad.quT
  rw [List.append_nil]
  have : ¬ (63 : UInt8) ∈ cu ++ Ad.pathT pa := by simp [n1, n2]
  simp [n1, n2]
 | p :: r =>
  have e1 : decide ((((p :: r).length : Nat) : Int) > 0) = true := by simp
  have e2 : (cu ++ Ad.pathT pa ++ Ad.quT (p :: r)).contains 63 = true := by
   rw [List.contains_iff_mem]
   refine List.mem_append_right _ ?_
   show (63 : UInt8) ∈ 63 :: (Ad.pairT p ++ r.flatMap fun q => 38 :: Ad.pairT q)
   exact List.mem_cons_self
  rw [e2]
  exact e1
def slashes (p : Bs) (i : Nat) : List Bs := ((List.range i).filter fun j => p.getD j 0 == 47).map fun j => p.take j
theorem slashes_succ (p : Bs) (i : Nat) : slashes p (i + 1) = slashes p i ++ (if p.getD i 0 = 47 then [p.take i] else []) := by
 unfold slashes
 rw [List.range_succ, List.filter_append, List.map_append]
 congr 1
 by_cases h : p.getD i 0 = 47
 ·rw [if_pos h, List.filter_cons_of_pos (by simpa using h)]; rfl
 ·rw [if_neg h, List.filter_cons_of_neg (by simpa using h)]; rfl
theorem slashes_pre (p : Bs) (i : Nat) : ∀ n, i ≤ n → ∃ r, slashes p n = slashes p i ++ r
 | 0, h => ⟨[], by rw [Nat.le_zero.1 h]; rfl⟩
 | n + 1, h => by
  by_cases e : i = n + 1
  ·subst e; exact ⟨[], by simp⟩
  ·obtain ⟨r, hr⟩ := slashes_pre p i n (by omega)
   exact ⟨r ++ (if p.getD n 0 = 47 then [p.take n] else []), by rw [slashes_succ, hr, List.append_assoc]⟩
def prefD (a p : Bs) (i : Nat) : List (Int × Bs) := ((1 : Int), a) :: ((slashes p i).map fun x => ((2 : Int), x))
noncomputable def tagD (a t : Bs) (k : Nat) : List (Int × Bs) := prefD a (pathB a) (pathB a).length ++ (((2 : Int), pathB a) :: (((splitT t).take k).map fun x => ((3 : Int), custB a ++ 58 :: x)))
theorem names_is (a t : Bs) : namesB a t = prefD a (pathB a) (pathB a).length ++ (((2 : Int), pathB a) :: ((splitT t).map fun x => ((3 : Int), custB a ++ 58 :: x))) := by
 unfold namesB prefs prefD slashes
 rw [List.map_append]
 simp
theorem prefD_hit {a p : Bs} {i : Nat} (h : p.getD i 0 = 47) : prefD a p (i + 1) = prefD a p i ++ [((2 : Int), p.take i)] := by
 unfold prefD
 rw [slashes_succ, if_pos h, List.map_append]
 rfl
theorem prefD_miss {a p : Bs} {i : Nat} (h : p.getD i 0 ≠ 47) : prefD a p (i + 1) = prefD a p i := by
 unfold prefD
 rw [slashes_succ, if_neg h, List.append_nil]
theorem prefD_pre (a p : Bs) {i n : Nat} (h : i ≤ n) : ∃ r, prefD a p n = prefD a p i ++ r := by
 obtain ⟨r, hr⟩ := slashes_pre p i n h
 exact ⟨r.map fun x => ((2 : Int), x), by unfold prefD; rw [hr, List.map_append]; rfl⟩
def NextIn (a t : Bs) (done : List (Int × Bs)) (x : Int × Bs) : Prop := ∃ rest, namesB a t = done ++ x :: rest
theorem next_first (a t : Bs) : NextIn a t [] ((1 : Int), a) := ⟨_, rfl⟩
theorem next_pref {a t : Bs} {i : Nat} (hi : i < (pathB a).length) (h : (pathB a).getD i 0 = 47) : NextIn a t (prefD a (pathB a) i) ((2 : Int), (pathB a).take i) := by
 obtain ⟨r, hr⟩ := prefD_pre a (pathB a) (i := i + 1) (n := (pathB a).length) (by omega)
 exact ⟨r ++ _, by rw [names_is, hr, prefD_hit h, List.append_assoc, List.append_assoc]; rfl⟩
theorem next_path (a t : Bs) : NextIn a t (prefD a (pathB a) (pathB a).length) ((2 : Int), pathB a) := ⟨_, names_is a t⟩
theorem tagD_succ {a t : Bs} {k : Nat} (h : k < (splitT t).length) : tagD a t (k + 1) = tagD a t k ++ [((3 : Int), custB a ++ 58 :: (splitT t)[k])] := by
 unfold tagD
 rw [List.take_succ_eq_append_getElem h, List.map_append, List.append_assoc]
 rfl
theorem next_tag {a t : Bs} {k : Nat} (h : k < (splitT t).length) : NextIn a t (tagD a t k) ((3 : Int), custB a ++ 58 :: (splitT t)[k]) := by
 refine ⟨((splitT t).drop (k + 1)).map fun x => ((3 : Int), custB a ++ 58 :: x), ?_⟩
 rw [names_is]
 unfold tagD
 conv => lhs; rw [← List.take_append_drop k (splitT t), List.drop_eq_getElem_cons h, List.map_append]
 rw [List.append_assoc]
 rfl
theorem names_end (a t : Bs) : tagD a t (splitT t).length = namesB a t := by
 rw [names_is]
 unfold tagD
 rw [List.take_length]
def missD (l : List Ep) (soft : Bool) (lo : Int) (done : List (Int × Bs)) : Prop := ∀ n ∈ done, lateB (untilB l n.1 n.2 soft) lo = false
theorem miss_nil (l : List Ep) (soft : Bool) (lo : Int) : missD l soft lo [] := fun n h => by simp at h
theorem miss_snoc {l : List Ep} {soft : Bool} {lo : Int} {done : List (Int × Bs)} {x : Int × Bs} (h : missD l soft lo done) (hx : lateB (untilB l x.1 x.2 soft) lo = false) : missD l soft lo (done ++ [x]) := by
 intro n hn
 rcases List.mem_append.1 hn with hn | hn
 ·exact h n hn
 ·rw [List.mem_singleton] at hn; rw [hn]; exact hx
theorem miss_hit {l : List Ep} {soft : Bool} {lo : Int} {a t : Bs} (h : missD l soft lo (namesB a t)) : hitT l soft lo a t = false := by
 unfold hitT
 rw [List.any_eq_false]
 intro n hn
 rw [h n hn]
 exact Bool.false_ne_true
theorem next_hit {l : List Ep} {soft : Bool} {lo : Int} {a t : Bs} {done : List (Int × Bs)} {x : Int × Bs} (hx : NextIn a t done x) (h : lateB (untilB l x.1 x.2 soft) lo = true) : hitT l soft lo a t = true := by
 unfold hitT
 rw [List.any_eq_true]
 obtain ⟨rest, hr⟩ := hx
 exact ⟨x, by rw [hr]; simp, h⟩
end Go.Proofs.YtpojnhikgjcgmaaGreatDoor