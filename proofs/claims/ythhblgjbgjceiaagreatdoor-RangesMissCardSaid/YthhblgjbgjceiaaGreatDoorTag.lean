/- Tag lists, plain: texts cut at a separator, names, sorted lists. -/
import Derived.Lib.Split
import Derived.Lib.Join
import Derived.Lib.IndexMore
import Derived.Lib.IndexBytes
import Derived.Lib.SlicesCompact
import Derived.Sort.Walk0
set_option linter.unusedVariables false
set_option linter.unusedSimpArgs false
namespace Go.Proofs.YthhblgjbgjceiaaGreatDoor.Tg
open Go

abbrev Bs := List UInt8
/-- A text cut at a separator: sep-free pieces, put together with it they are the text. -/
structure Cut (sep : UInt8) (s : Bs) (l : List Bs) : Prop where
  some : l ≠ []
  free : ∀ p ∈ l, sep ∉ p
  join : Lib.join l [sep] = s
theorem tail_uniq (sep : UInt8) : ∀ {x y a b : Bs}, sep ∉ x → sep ∉ y → x ++ sep :: a = y ++ sep :: b → x = y ∧ a = b
  | [], [], a, b, _, _, h => by simpa using h
  | [], c :: y, a, b, _, hy, h => by
    simp only [List.nil_append, List.cons_append, List.cons.injEq] at h
    exact absurd (by rw [h.1]; simp) hy
  | c :: x, [], a, b, hx, _, h => by
    simp only [List.nil_append, List.cons_append, List.cons.injEq] at h
    exact absurd (by rw [h.1]; simp) hx
  | c :: x, d :: y, a, b, hx, hy, h => by
    simp only [List.cons_append, List.cons.injEq] at h
    obtain ⟨rfl, h⟩ := h
    obtain ⟨h1, h2⟩ := tail_uniq sep (fun k => hx (by simp [k])) (fun k => hy (by simp [k])) h
    exact ⟨by rw [h1], h2⟩
theorem join_two (x y : Bs) (r : List Bs) (sep : UInt8) : Lib.join (x :: y :: r) [sep] = x ++ sep :: Lib.join (y :: r) [sep] := by
  rw [Lib.join_cons, Lib.join_cons, Lib.joinTail]
  simp [Lib.joinTail]
theorem join_uniq (sep : UInt8) : ∀ {l m : List Bs}, l ≠ [] → m ≠ [] → (∀ p ∈ l, sep ∉ p) → (∀ p ∈ m, sep ∉ p) → Lib.join l [sep] = Lib.join m [sep] → l = m
  | [], _, h, _, _, _, _ => absurd rfl h
  | _, [], _, h, _, _, _ => absurd rfl h
  | [x], [y], _, _, _, _, h => by rw [Lib.join_one, Lib.join_one] at h; rw [h]
  | [x], y :: z :: r, _, _, hl, _, h => by
    rw [Lib.join_one, join_two] at h
    exact absurd (by rw [h]; simp) (hl x (by simp))
  | x :: z :: r, [y], _, _, _, hm, h => by
    rw [Lib.join_one, join_two] at h
    exact absurd (by rw [← h]; simp) (hm y (by simp))
  | x :: x' :: r, y :: y' :: t, _, _, hl, hm, h => by
    rw [join_two, join_two] at h
    obtain ⟨h1, h2⟩ := tail_uniq sep (hl x (by simp)) (hm y (by simp)) h
    rw [h1, join_uniq sep (by simp) (by simp) (fun p hp => hl p (List.mem_cons_of_mem _ hp)) (fun p hp => hm p (List.mem_cons_of_mem _ hp)) h2]
theorem Cut.uniq {sep : UInt8} {s : Bs} {l m : List Bs} (h : Cut sep s l) (k : Cut sep s m) : l = m := join_uniq sep h.some k.some h.free k.free (h.join.trans k.join.symm)
/-- Step by step: what is cut off, and the rest. -/
theorem Cut.cons {sep : UInt8} {x s : Bs} {l : List Bs} (hx : sep ∉ x) (h : Cut sep s l) : Cut sep (x ++ sep :: s) (x :: l) := by
  obtain ⟨h1, h2, h3⟩ := h
  match l, h1, h2, h3 with
  | y :: r, _, h2, h3 =>
    refine ⟨by simp, fun p hp => ?_, by rw [join_two, h3]⟩
    rcases List.mem_cons.1 hp with rfl | hp
    · exact hx
    · exact h2 p hp
theorem Cut.one {sep : UInt8} {s : Bs} (h : sep ∉ s) : Cut sep s [s] := ⟨by simp, fun p hp => by simp at hp; rwa [hp], Lib.join_one _ _⟩
theorem join_snoc (sep : UInt8) : ∀ (l : List Bs) (x : Bs), l ≠ [] → Lib.join (l ++ [x]) [sep] = Lib.join l [sep] ++ sep :: x
  | [], _, h => absurd rfl h
  | [y], x, _ => by rw [List.singleton_append, join_two, Lib.join_one, Lib.join_one]
  | y :: z :: r, x, _ => by
    rw [List.cons_append, List.cons_append, join_two, join_two, ← List.cons_append, join_snoc sep (z :: r) x (by simp)]
    simp
/-- From the left: pieces that are cut off already, the piece under way, and the rest. -/
structure Under (sep : UInt8) (s : Bs) (done : List Bs) (cur rest : Bs) : Prop where
  free : ∀ p ∈ done, sep ∉ p
  fcur : sep ∉ cur
  all : s = (done.map (· ++ [sep])).flatten ++ cur ++ rest
theorem Under.start (sep : UInt8) (s : Bs) : Under sep s [] [] s := ⟨fun p hp => by simp at hp, by simp, by simp⟩
theorem Under.step {sep : UInt8} {s : Bs} {done : List Bs} {cur rest : Bs} {c : UInt8} (h : Under sep s done cur (c :: rest)) (hc : c ≠ sep) : Under sep s done (cur ++ [c]) rest :=
  ⟨h.free, by simp [h.fcur, Ne.symm hc], by rw [h.all]; simp⟩
theorem Under.cut {sep : UInt8} {s : Bs} {done : List Bs} {cur rest : Bs} (h : Under sep s done cur (sep :: rest)) : Under sep s (done ++ [cur]) [] rest :=
  ⟨fun p hp => by
    rcases List.mem_append.1 hp with hp | hp
    · exact h.free p hp
    · simp at hp; rw [hp]; exact h.fcur, by simp, by rw [h.all]; simp⟩
theorem flat_join (sep : UInt8) : ∀ (done : List Bs) (x : Bs), (done.map (· ++ [sep])).flatten ++ x = Lib.join (done ++ [x]) [sep]
  | [], x => by simp [Lib.join_one]
  | [y], x => by simp [join_two, Lib.join_one]
  | y :: z :: r, x => by
    have := flat_join sep (z :: r) x
    have e : y :: z :: r ++ [x] = y :: z :: (r ++ [x]) := rfl
    rw [List.map_cons, List.flatten_cons, List.append_assoc, this, e, join_two]
    simp
theorem Under.done {sep : UInt8} {s : Bs} {done : List Bs} {cur : Bs} (h : Under sep s done cur []) : Cut sep s (done ++ [cur]) :=
  ⟨by simp, fun p hp => by
    rcases List.mem_append.1 hp with hp | hp
    · exact h.free p hp
    · simp at hp; rw [hp]; exact h.fcur, by rw [← flat_join, h.all]; simp⟩

/-! ### Words and names -/
def letter (c : Nat) : Bool := (decide (97 ≤ c) && decide (c ≤ 122)) || (decide (48 ≤ c) && decide (c ≤ 57)) || c == 45 || c == 95 || c == 46
def wordB (s : Bs) : Bool := s != [] && decide (s.length ≤ 64) && s != [46] && s != [46, 46] && s.all fun c => letter c.toNat
def nameB (s : Bs) : Bool := wordB s && !(s.contains 46)
theorem nameB_no {s : Bs} (h : nameB s = true) {c : UInt8} (hc : letter c.toNat = false) : c ∉ s := fun hm => by
  simp only [nameB, wordB, Bool.and_eq_true, List.all_eq_true] at h
  rw [h.1.2 c hm] at hc
  cases hc

/-! ### Sorted lists without repetitions -/
def Asc (l : List Bs) : Prop := l.Pairwise (· < ·)
theorem lt_irr (a : Bs) : ¬ a < a := List.lt_irrefl a
theorem lt_as {a b : Bs} (h : a < b) : ¬ b < a := List.lt_asymm h
theorem asc_uniq : ∀ {l m : List Bs}, Asc l → Asc m → (∀ x, x ∈ l ↔ x ∈ m) → l = m
  | [], [], _, _, _ => rfl
  | [], y :: m, _, _, h => absurd ((h y).2 (by simp)) (by simp)
  | x :: l, [], _, _, h => absurd ((h x).1 (by simp)) (by simp)
  | x :: l, y :: m, hl, hm, h => by
    unfold Asc at hl hm
    rw [List.pairwise_cons] at hl hm
    have e : x = y := by
      have h1 := (h x).1 (by simp)
      have h2 := (h y).2 (by simp)
      rcases List.mem_cons.1 h1 with h1 | h1
      · exact h1
      rcases List.mem_cons.1 h2 with h2 | h2
      · exact h2.symm
      exact absurd (hm.1 x h1) (lt_as (hl.1 y h2))
    subst e
    rw [asc_uniq (l := l) (m := m) hl.2 hm.2]
    intro z
    have := h z
    simp only [List.mem_cons] at this
    constructor
    · intro hz
      rcases this.1 (.inr hz) with e | k
      · subst e; exact absurd (hl.1 z hz) (lt_irr z)
      · exact k
    · intro hz
      rcases this.2 (.inr hz) with e | k
      · subst e; exact absurd (hm.1 z hz) (lt_irr z)
      · exact k
/-- Whether a text is a tag list. -/
def Tags (s : Bs) : Prop := s = [] ∨ ∃ l, Cut 44 s l ∧ (∀ p ∈ l, nameB p = true) ∧ Asc l ∧ s.length ≤ 4096
/-- Of names that are a text's pieces: sorted, each once, and put together: this is the text just if they are sorted, each once. -/
theorem same_iff {s : Bs} {l m : List Bs} (hl : Cut 44 s l) (hn : ∀ p ∈ l, nameB p = true) (hm : Asc m) (h : ∀ x, x ∈ m ↔ x ∈ l) : Lib.join m [44] = s ↔ Asc l := by
  have hm0 : m ≠ [] := by
    intro e
    obtain ⟨x, hx⟩ := List.exists_mem_of_ne_nil l hl.some
    rw [← h x, e] at hx
    simp at hx
  constructor
  · intro hj
    have := join_uniq 44 hm0 hl.some (fun p hp => hl.free p ((h p).1 hp)) hl.free (hj.trans hl.join.symm)
    rwa [← this]
  · intro ha
    rw [asc_uniq hm ha h]
    exact hl.join

open Classical in
noncomputable def tagsB (s : Bs) : Bool := decide (Tags s)
theorem tags_nil : tagsB [] = true := by simp [tagsB, Tags]
theorem tags_of {s : Bs} {l m : List Bs} (hl : Cut 44 s l) (h0 : s ≠ []) (hn : ∀ p ∈ l, nameB p = true) (hm : Asc m) (h : ∀ x, x ∈ m ↔ x ∈ l) (hs : s.length ≤ 4096) : tagsB s = decide (Lib.join m [44] = s) := by
  have key : Tags s ↔ Lib.join m [44] = s := by
    rw [same_iff hl hn hm h]
    constructor
    · rintro (e | ⟨k, hk, _, ha, _⟩)
      · exact absurd e h0
      · rwa [hl.uniq hk]
    · exact fun ha => .inr ⟨l, hl, hn, ha, hs⟩
  unfold tagsB
  simp only [key]
theorem tags_no {s : Bs} {l : List Bs} (hl : Cut 44 s l) (h0 : s ≠ []) {p : Bs} (hp : p ∈ l) (hn : nameB p = false) : tagsB s = false := by
  unfold tagsB
  rw [decide_eq_false_iff_not]
  rintro (e | ⟨k, hk, hk2, _, _⟩)
  · exact h0 e
  · rw [hl.uniq hk] at hp
    rw [hk2 p hp] at hn
    cases hn
theorem tags_long {s : Bs} (h : 4096 < s.length) : tagsB s = false := by
  unfold tagsB
  rw [decide_eq_false_iff_not]
  rintro (e | ⟨k, _, _, _, hk⟩)
  · subst e; simp at h
  · omega

/-! ### slices.Compact of what is sorted -/
theorem compact_spec (zs : List Bs) (h : zs.Pairwise (· ≤ ·)) : Asc (Lib.compact zs) ∧ ∀ x, x ∈ Lib.compact zs ↔ x ∈ zs := by
  have key : ∀ m, m ≤ zs.length → Asc (Lib.compactUpTo zs.toArray m) ∧ ∀ x, x ∈ Lib.compactUpTo zs.toArray m ↔ ∃ j, ∃ hj : j < zs.length, j < m ∧ zs[j] = x := by
    intro m
    induction m with
    | zero => intro _; exact ⟨by simp [Lib.compactUpTo, Asc], fun x => by simp [Lib.compactUpTo]⟩
    | succ m ih =>
      intro hm
      obtain ⟨h1, h2⟩ := ih (by omega)
      have hg : zs.toArray[m]! = zs[m] := by rw [getElem!_pos zs.toArray m (by simpa using (by omega : m < zs.length))]; simp
      rw [Lib.compactUpTo_succ]
      by_cases hk : Lib.keeps zs.toArray m = true
      · rw [if_pos hk, hg]
        refine ⟨?_, fun x => ?_⟩
        · unfold Asc
          rw [List.pairwise_append]
          refine ⟨h1, List.pairwise_singleton _ _, fun a ha b hb => ?_⟩
          rw [List.mem_singleton] at hb
          subst hb
          obtain ⟨j, hj, hjm, rfl⟩ := (h2 a).1 ha
          have hle : zs[m - 1] ≤ zs[m] := by
            have hm1 : m - 1 < m := by omega
            exact List.pairwise_iff_getElem.1 h (m - 1) m (by omega) (by omega) hm1
          have hne : zs[m] ≠ zs[m - 1] := by
            simp only [Lib.keeps, decide_eq_true_eq] at hk
            rcases hk with hk | hk
            · omega
            · rw [hg, getElem!_pos zs.toArray (m - 1) (by simpa using (by omega : m - 1 < zs.length))] at hk
              simpa using hk
          have hlt : zs[m - 1] < zs[m] := by
            rcases List.le_iff_lt_or_eq.1 hle with k | k
            · exact k
            · exact absurd k.symm hne
          by_cases e : j = m - 1
          · subst e; exact hlt
          · have hle2 : zs[j] ≤ zs[m - 1] := List.pairwise_iff_getElem.1 h j (m - 1) hj (by omega) (by omega)
            rcases List.le_iff_lt_or_eq.1 hle2 with k | k
            · exact List.lt_trans k hlt
            · rw [k]; exact hlt
        · rw [List.mem_append, h2 x, List.mem_singleton]
          constructor
          · rintro (⟨j, hj, hjm, e⟩ | e)
            · exact ⟨j, hj, by omega, e⟩
            · exact ⟨m, by omega, by omega, e.symm⟩
          · rintro ⟨j, hj, hjm, e⟩
            by_cases ej : j = m
            · subst ej; exact .inr e.symm
            · exact .inl ⟨j, hj, by omega, e⟩
      · rw [if_neg hk, List.append_nil]
        refine ⟨h1, fun x => ?_⟩
        rw [h2 x]
        constructor
        · rintro ⟨j, hj, hjm, e⟩; exact ⟨j, hj, by omega, e⟩
        · rintro ⟨j, hj, hjm, e⟩
          by_cases ej : j = m
          · subst ej
            have hkm : 0 < j ∧ zs[j] = zs[j - 1] := by
              have hk' : Lib.keeps zs.toArray j = false := by simpa using hk
              simp only [Lib.keeps, decide_eq_false_iff_not, not_or, Decidable.not_not] at hk'
              refine ⟨by omega, ?_⟩
              have h3 := hk'.2
              rw [hg, getElem!_pos zs.toArray (j - 1) (by simpa using (by omega : j - 1 < zs.length))] at h3
              simpa using h3
            exact ⟨j - 1, by omega, by omega, by rw [← hkm.2]; exact e⟩
          · exact ⟨j, hj, by omega, e⟩
  obtain ⟨h1, h2⟩ := key zs.length (Nat.le_refl _)
  refine ⟨h1, fun x => ?_⟩
  unfold Lib.compact
  rw [h2 x]
  constructor
  · rintro ⟨j, hj, _, rfl⟩; exact List.getElem_mem hj
  · intro hx
    obtain ⟨j, hj, e⟩ := List.getElem_of_mem hx
    exact ⟨j, hj, hj, e⟩

/-! ### strings.Split's pieces -/
theorem splitK_cut (sep : UInt8) : ∀ (k : Nat) (s : Bs), s.count sep ≤ k → Cut sep s (Lib.splitK [sep] 0 k s)
  | 0, s, h => Cut.one (List.count_eq_zero.1 (by omega))
  | k + 1, s, h => by
    unfold Lib.splitK
    rw [Lib.index_one]
    have hib : ∀ (t : Bs), (Lib.indexByte t sep = -1 ∧ sep ∉ t) ∨ ∃ i : Nat, Lib.indexByte t sep = i ∧ sep ∉ t.take i ∧ t = t.take i ++ sep :: t.drop (i + 1) := by
      intro t
      induction t with
      | nil => exact .inl ⟨rfl, by simp⟩
      | cons c t ih =>
        unfold Lib.indexByte
        by_cases e : c = sep
        · subst e
          exact .inr ⟨0, by simp, by simp, by simp⟩
        · rw [if_neg (by simpa using e)]
          rcases ih with ⟨h1, h2⟩ | ⟨i, h1, h2, h3⟩
          · rw [h1]
            exact .inl ⟨by simp, by simp [h2, Ne.symm e]⟩
          · rw [h1, if_neg (by simp)]
            refine .inr ⟨i + 1, by omega, by simp [h2, Ne.symm e], ?_⟩
            rw [List.take_succ_cons, List.drop_succ_cons, List.cons_append]
            exact congrArg (c :: ·) h3
    rcases hib s with ⟨h1, h2⟩ | ⟨i, h1, h2, h3⟩
    · rw [h1, if_pos (by simp)]
      exact Cut.one h2
    · rw [h1, if_neg (by simp)]
      have hc : (s.drop (i + 1)).count sep ≤ k := by
        have : s.count sep = (s.take i ++ sep :: s.drop (i + 1)).count sep := by rw [← h3]
        rw [List.count_append, List.count_cons_self] at this
        omega
      have := Cut.cons (x := s.take i) h2 (splitK_cut sep k (s.drop (i + 1)) hc)
      rw [← h3] at this
      simpa using this
end Go.Proofs.YthhblgjbgjceiaaGreatDoor.Tg
