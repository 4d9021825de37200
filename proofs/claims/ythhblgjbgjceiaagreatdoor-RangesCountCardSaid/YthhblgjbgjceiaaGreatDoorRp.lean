/- Requests of ranges, plain: what the program reads is what the specification reads. -/
import Derived.Test.YthhblgjbgjceiaaGreatDoorTag
import Derived.Test.YthhblgjbgjceiaaGreatDoorSp
import Derived.Lib.Atoi
import Derived.Lib.SlTrimSet
import Derived.Lib.SplitLaws
import Derived.Lib.Bytes2
set_option linter.unusedVariables false
set_option linter.unusedSimpArgs false
namespace Go.Proofs.YthhblgjbgjceiaaGreatDoor.Rp
open Go
open Go.Proofs.YthhblgjbgjceiaaGreatDoor.Tg (Cut Bs)
open Go.Proofs.Sp (Sp)

def isDig (b : UInt8) : Bool := decide (48 ≤ b.toNat) && decide (b.toNat ≤ 57)
def valF (n : Int) (l : Bs) : Int := l.foldl (fun n b => 10 * n + ((b.toNat : Int) - 48)) n
def numOk (l : Bs) : Bool := decide (1 ≤ l.length) && decide (l.length ≤ 15) && (decide (l.length = 1) || !(l.head? == some 48))
/-- The program's number. -/
def numP (l : Bs) : Option Int := if numOk l = true ∧ l.all isDig = true then some (valF 0 l) else none
/-- The specification's: the number at the beginning, and its length (0 for none). -/
def digs (s : Bs) : Bs := (s.takeWhile isDig).take 16
def numR (s : Bs) : Int × Nat := if numOk (digs s) = true then (valF 0 (digs s), (digs s).length) else (0, 0)

theorem tw_all {d t : Bs} (h : d.all isDig = true) (ht : ∀ c, t.head? = some c → isDig c = false) : (d ++ t).takeWhile isDig = d := by
  induction d with
  | nil =>
    cases t with
    | nil => rfl
    | cons c t => rw [List.nil_append, List.takeWhile_cons, if_neg (by rw [ht c rfl]; decide)]
  | cons c d ih =>
    simp only [List.all_cons, Bool.and_eq_true] at h
    rw [List.cons_append, List.takeWhile_cons, if_pos h.1, ih h.2]
theorem tw_no : ∀ {p : Bs} (t : Bs), p.all isDig = false → (p ++ t).takeWhile isDig = p.takeWhile isDig ∧ (p.takeWhile isDig).length < p.length
  | [], _, h => by cases h
  | c :: p, t, h => by
    rw [List.cons_append, List.takeWhile_cons, List.takeWhile_cons]
    by_cases hc : isDig c = true
    · rw [if_pos hc, if_pos hc]
      simp only [List.all_cons, hc, Bool.true_and] at h
      obtain ⟨h1, h2⟩ := tw_no t h
      exact ⟨by rw [h1], by simp only [List.length_cons]; omega⟩
    · rw [if_neg hc, if_neg hc]
      exact ⟨rfl, by simp⟩
theorem numR_all {d t : Bs} (h : d.all isDig = true) (ht : ∀ c, t.head? = some c → isDig c = false) : numR (d ++ t) = match numP d with | some n => (n, d.length) | none => (0, 0) := by
  unfold numR digs numP
  rw [tw_all h ht]
  by_cases hl : d.length ≤ 15
  · rw [List.take_of_length_le (by omega)]
    by_cases hk : numOk d = true
    · rw [if_pos hk, if_pos ⟨hk, h⟩]
    · rw [if_neg hk, if_neg (fun e => hk e.1)]
  · have h1 : ¬ numOk (d.take 16) = true := by
      intro e
      simp only [numOk, Bool.and_eq_true, decide_eq_true_eq, List.length_take] at e
      omega
    have h2 : ¬ numOk d = true := by
      intro e
      simp only [numOk, Bool.and_eq_true, decide_eq_true_eq] at e
      omega
    rw [if_neg h1, if_neg (fun e => h2 e.1)]
theorem numR_no {p : Bs} (t : Bs) (h : p.all isDig = false) : (numR (p ++ t)).2 < p.length := by
  obtain ⟨h1, h2⟩ := tw_no t h
  unfold numR digs
  rw [h1]
  split
  · show (List.take 16 _).length < _
    rw [List.length_take]; omega
  · show 0 < p.length
    omega
theorem numP_no {p : Bs} (h : p.all isDig = false) : numP p = none := if_neg (fun e => by rw [h] at e; cases e.2)
theorem numP_nil : numP [] = none := if_neg (fun e => by simp [numOk] at e)
theorem numP_some {p : Bs} {n : Int} (h : numP p = some n) : numOk p = true ∧ p.all isDig = true ∧ valF 0 p = n := by
  unfold numP at h
  split at h
  · rename_i k; exact ⟨k.1, k.2, Option.some.inj h⟩
  · cases h

/-- Whether nothing stands there, or a comma. -/
def Tail (t : Bs) : Prop := t = [] ∨ ∃ r, t = 44 :: r
theorem Tail.dig {t : Bs} (h : Tail t) : ∀ c, t.head? = some c → isDig c = false := by
  rcases h with rfl | ⟨r, rfl⟩
  · intro c e; cases e
  · intro c e
    simp only [List.head?_cons, Option.some.injEq] at e
    subst e; decide
theorem Tail.ne {t : Bs} (h : Tail t) : t.head? ≠ some 45 := by
  rcases h with rfl | ⟨r, rfl⟩
  · simp
  · simp

/-- What a piece of the text says: the text before and behind the first dash. -/
def readP (size : Int) (a b : Bs) : Option Sp :=
  if a = [] then (numP b).map fun n => (max 0 (size - n), size)
  else if b = [] then (numP a).map fun n => (n, size)
  else (numP a).bind fun n => (numP b).bind fun m => if m < n then none else some (n, min size (m + 1))
def partP (size : Int) (p : Bs) : Option Sp :=
  if (Lib.cut p [45]).2.2 = true then readP size (Lib.cut p [45]).1 (Lib.cut p [45]).2.1 else none
/-- The specification's part. -/
def partR (size : Int) (s : Bs) : Sp × Nat :=
  if s.head? = some 45 then (if (numR s.tail).2 = 0 then ((0, 0), 0) else ((max 0 (size - (numR s.tail).1), size), 1 + (numR s.tail).2))
  else if (numR s).2 = 0 ∨ s.length ≤ (numR s).2 ∨ s[(numR s).2]? ≠ some 45 then ((0, 0), 0)
  else if (numR (s.drop ((numR s).2 + 1))).2 = 0 then
    (if s.drop ((numR s).2 + 1) ≠ [] ∧ (s.drop ((numR s).2 + 1)).head? ≠ some 44 then ((0, 0), 0) else (((numR s).1, size), (numR s).2 + 1))
  else if (numR (s.drop ((numR s).2 + 1))).1 < (numR s).1 then ((0, 0), 0)
  else (((numR s).1, min size ((numR (s.drop ((numR s).2 + 1))).1 + 1)), (numR s).2 + 1 + (numR (s.drop ((numR s).2 + 1))).2)

theorem occ_one {s : Bs} {j : Nat} {c : UInt8} (h : Lib.occAt s [c] j = true) : c ∈ s := by
  have := Lib.occAt_head rfl h
  obtain ⟨hl, e⟩ := List.getElem?_eq_some_iff.1 this
  rw [← e]; exact List.getElem_mem hl
theorem cut_at {a b : Bs} (h : (45 : UInt8) ∉ a) : Lib.cut (a ++ 45 :: b) [45] = (a, b, true) := by
  have hi : Lib.index (a ++ 45 :: b) [45] = a.length := by
    refine Lib.index_first (by simp) ?_ (fun j hj => ?_)
    · rw [Lib.occAt_iff_take _ _ _ (by simp)]
      simp
    · cases ho : Lib.occAt (a ++ 45 :: b) [45] j with
      | false => rfl
      | true =>
        have := Lib.occAt_head rfl ho
        rw [List.getElem?_append_left hj, List.getElem?_eq_getElem hj] at this
        exact absurd (by rw [← Option.some.inj this]; exact List.getElem_mem hj) h
  unfold Lib.cut
  rw [hi, if_pos (by omega)]
  simp
theorem cut_no {p : Bs} (h : (45 : UInt8) ∉ p) : Lib.cut p [45] = (p, [], false) := by
  have hi : Lib.index p [45] = -1 := Lib.index_none (fun j _ => by
    cases ho : Lib.occAt p [45] j with
    | false => rfl
    | true => exact absurd (occ_one ho) h)
  unfold Lib.cut
  rw [hi, if_neg (by omega)]
theorem split_dash : ∀ (p : Bs), (45 : UInt8) ∉ p ∨ ∃ a b, p = a ++ 45 :: b ∧ (45 : UInt8) ∉ a
  | [] => .inl (by simp)
  | c :: p => by
    by_cases hc : c = 45
    · exact .inr ⟨[], p, by rw [hc]; rfl, by simp⟩
    · rcases split_dash p with h | ⟨a, b, rfl, h⟩
      · exact .inl (by simp [h, Ne.symm hc])
      · exact .inr ⟨c :: a, b, rfl, by simp [h, Ne.symm hc]⟩

/-- THE PIECE: what the program reads of it the specification reads, up to its end; where the program reads nothing, the specification reads nothing, or stops inside the piece. -/
theorem part_alike (size : Int) {p t : Bs} (hc : (44 : UInt8) ∉ p) (ht : Tail t) :
    (∀ s, partP size p = some s → partR size (p ++ t) = (s, p.length) ∧ 0 < p.length) ∧ (partP size p = none → (partR size (p ++ t)).2 < p.length ∨ (partR size (p ++ t)).2 = 0) := by
  rcases split_dash p with h | ⟨a, b, rfl, h⟩
  · -- no dash
    have e : partP size p = none := by unfold partP; rw [cut_no h]; rfl
    refine ⟨fun s hs => (by rw [e] at hs; cases hs), fun _ => .inr ?_⟩
    have h0 : (p ++ t).head? ≠ some 45 := by
      cases p with
      | nil => exact ht.ne
      | cons c p => simp only [List.cons_append, List.head?_cons, ne_eq, Option.some.injEq]; rintro rfl; simp at h
    unfold partR
    rw [if_neg h0]
    have hk : (numR (p ++ t)).2 ≤ p.length := by
      by_cases hd : p.all isDig = true
      · rw [numR_all hd ht.dig]
        split
        · exact Nat.le_refl _
        · exact Nat.zero_le _
      · exact Nat.le_of_lt (numR_no t (by simpa using hd))
    have hne : (p ++ t)[(numR (p ++ t)).2]? ≠ some 45 := by
      generalize (numR (p ++ t)).2 = k at hk
      by_cases hlt : k < p.length
      · rw [List.getElem?_append_left hlt, List.getElem?_eq_getElem hlt]
        intro e
        exact h (by rw [← Option.some.inj e]; exact List.getElem_mem hlt)
      · rw [show k = p.length by omega, List.getElem?_append_right (Nat.le_refl _), Nat.sub_self, ← List.head?_eq_getElem?]
        exact ht.ne
    rw [if_pos (.inr (.inr hne))]
  · have hca : (44 : UInt8) ∉ a := fun k => hc (by simp [k])
    have hcb : (44 : UInt8) ∉ b := fun k => hc (by simp [k])
    have e : partP size (a ++ 45 :: b) = readP size a b := by unfold partP; rw [cut_at h]; rfl
    rw [e]
    have e1 : a ++ 45 :: b ++ t = a ++ 45 :: (b ++ t) := by simp
    rw [e1]
    have hpl : (a ++ 45 :: b).length = a.length + 1 + b.length := by simp; omega
    have hb44 : b ≠ [] → (b ++ t).head? ≠ some 44 := by
      intro hb
      cases b with
      | nil => exact absurd rfl hb
      | cons c b => simp only [List.cons_append, List.head?_cons, ne_eq, Option.some.injEq]; rintro rfl; simp at hcb
    by_cases ha : a = []
    · subst ha
      unfold readP partR
      rw [if_pos rfl, List.nil_append, List.head?_cons, if_pos rfl, List.tail_cons]
      by_cases hd : b.all isDig = true
      · rw [numR_all hd ht.dig]
        cases hb : numP b with
        | none => exact ⟨fun s hs => (by cases hs), fun _ => .inr rfl⟩
        | some n =>
          have hl : 1 ≤ b.length := by
            have := (numP_some hb).1
            simp only [numOk, Bool.and_eq_true, decide_eq_true_eq] at this
            exact this.1.1
          refine ⟨fun s hs => ?_, fun k => by cases k⟩
          simp only [Option.map_some, Option.some.injEq] at hs
          subst hs
          rw [if_neg (show ¬ b.length = 0 by omega)]
          exact ⟨by simp only [List.nil_append, List.length_cons, Prod.mk.injEq, true_and]; omega, by simp⟩
      · have hd' : b.all isDig = false := by simpa using hd
        have hk := numR_no t hd'
        rw [numP_no hd']
        refine ⟨fun s hs => (by cases hs), fun _ => ?_⟩
        split
        · exact .inr rfl
        · left
          show 1 + (numR (b ++ t)).2 < _
          simp only [List.nil_append, List.length_cons]; omega
    · have h0 : (a ++ 45 :: (b ++ t)).head? ≠ some 45 := by
        cases a with
        | nil => exact absurd rfl ha
        | cons c a => simp only [List.cons_append, List.head?_cons, ne_eq, Option.some.injEq]; rintro rfl; simp at h
      unfold readP partR
      rw [if_neg ha, if_neg h0]
      by_cases hd : a.all isDig = true
      · rw [numR_all hd (t := 45 :: (b ++ t)) (fun c e => by simp only [List.head?_cons, Option.some.injEq] at e; subst e; decide)]
        cases hna : numP a with
        | none =>
          refine ⟨fun s hs => ?_, fun _ => .inr ?_⟩
          · split at hs <;> cases hs
          · show (if (0 : Nat) = 0 ∨ _ then _ else _ : Sp × Nat).2 = 0
            rw [if_pos (.inl rfl)]
        | some n =>
          have hl : 1 ≤ a.length := by
            have := (numP_some hna).1
            simp only [numOk, Bool.and_eq_true, decide_eq_true_eq] at this
            exact this.1.1
          have hno : ¬ (a.length = 0 ∨ (a ++ 45 :: (b ++ t)).length ≤ a.length ∨ (a ++ 45 :: (b ++ t))[a.length]? ≠ some 45) := by
            rintro (k | k | k)
            · omega
            · simp at k; omega
            · exact k (by rw [List.getElem?_append_right (Nat.le_refl _), Nat.sub_self]; rfl)
          have hdr : (a ++ 45 :: (b ++ t)).drop (a.length + 1) = b ++ t := by
            rw [List.drop_append, List.drop_of_length_le (by omega), show a.length + 1 - a.length = 1 by omega]; rfl
          simp only []
          rw [if_neg hno, hdr]
          by_cases hb : b = []
          · subst hb
            rw [if_pos rfl, List.nil_append]
            have hz : numR t = (0, 0) := by
              have := numR_all (d := []) rfl ht.dig
              rw [List.nil_append, numP_nil] at this
              exact this
            rw [hz, if_pos rfl, if_neg (by
              rintro ⟨k1, k2⟩
              rcases ht with rfl | ⟨r, rfl⟩
              · exact k1 rfl
              · exact k2 rfl)]
            refine ⟨fun s hs => ?_, fun k => by cases k⟩
            simp only [Option.map_some, Option.some.injEq] at hs
            subst hs
            exact ⟨by simp, by simp⟩
          · rw [if_neg hb]
            have hbt : b ++ t ≠ [] := by simp [hb]
            by_cases hdb : b.all isDig = true
            · rw [numR_all hdb ht.dig]
              cases hnb : numP b with
              | none =>
                refine ⟨fun s hs => (by cases hs), fun _ => .inr ?_⟩
                simp only []
                rw [if_pos trivial, if_pos ⟨hbt, hb44 hb⟩]
              | some m =>
                have hlb : 1 ≤ b.length := by
                  have := (numP_some hnb).1
                  simp only [numOk, Bool.and_eq_true, decide_eq_true_eq] at this
                  exact this.1.1
                simp only [Option.bind_some]
                rw [if_neg (show ¬ b.length = 0 by omega)]
                by_cases hmn : m < n
                · rw [if_pos hmn, if_pos hmn]
                  exact ⟨fun s hs => (by cases hs), fun _ => .inr rfl⟩
                · rw [if_neg hmn, if_neg hmn]
                  refine ⟨fun s hs => ?_, fun k => by cases k⟩
                  simp only [Option.some.injEq] at hs
                  subst hs
                  exact ⟨by rw [hpl], by omega⟩
            · have hdb' : b.all isDig = false := by simpa using hdb
              have hk := numR_no t hdb'
              rw [numP_no hdb']
              refine ⟨fun s hs => (by cases hs), fun _ => ?_⟩
              split
              · rw [if_pos ⟨hbt, hb44 hb⟩]; exact .inr rfl
              · split
                · exact .inr rfl
                · left
                  show a.length + 1 + (numR (b ++ t)).2 < _
                  omega
      · have hd' : a.all isDig = false := by simpa using hd
        have hk := numR_no (45 :: (b ++ t)) hd'
        have hnone : numP a = none := numP_no hd'
        rw [hnone]
        refine ⟨fun s hs => ?_, fun _ => .inr ?_⟩
        · split at hs <;> cases hs
        · rw [if_pos]
          right; right
          generalize (numR (a ++ 45 :: (b ++ t))).2 = k at hk
          rw [List.getElem?_append_left hk, List.getElem?_eq_getElem hk]
          intro e
          exact h (by rw [← Option.some.inj e]; exact List.getElem_mem hk)

/-- The specification's way over the text. -/
def scanR (size : Int) : Nat → Bs → List Sp → Option (List Sp)
  | 0, _, _ => none
  | f + 1, s, acc =>
    if (partR size s).2 = 0 then none
    else if s.drop (partR size s).2 = [] then some (Sp.rAdd acc (partR size s).1)
    else if (s.drop (partR size s).2).head? ≠ some 44 then none
    else scanR size f (s.drop ((partR size s).2 + 1)) (Sp.rAdd acc (partR size s).1)
/-- The program's pieces. -/
def readAll (size : Int) : List Bs → Option (List Sp)
  | [] => some []
  | p :: ps => (partP size p).bind fun s => (readAll size ps).map (s :: ·)
theorem join_len (p : Bs) (ps : List Bs) : p.length ≤ (Lib.join (p :: ps) [44]).length := by
  cases ps with
  | nil => rw [Lib.join_one]; exact Nat.le_refl _
  | cons q ps => rw [Tg.join_two]; simp
theorem scan_alike (size : Int) : ∀ (ps : List Bs) (f : Nat) (acc : List Sp), ps ≠ [] → (∀ p ∈ ps, (44 : UInt8) ∉ p) → (Lib.join ps [44]).length < f → scanR size f (Lib.join ps [44]) acc = (readAll size ps).map fun l => l.foldl Sp.rAdd acc
  | [], _, _, h, _, _ => absurd rfl h
  | [p], 0, _, _, _, h => by omega
  | [p], f + 1, acc, _, hc, _ => by
    have hp := hc p (by simp)
    obtain ⟨h1, h2⟩ := part_alike size (t := []) hp (.inl rfl)
    rw [List.append_nil] at h1 h2
    rw [Lib.join_one]
    unfold scanR readAll
    cases hs : partP size p with
    | some s =>
      obtain ⟨k1, k2⟩ := h1 s hs
      rw [k1]
      simp only []
      rw [if_neg (by omega), if_pos (by simp)]
      rfl
    | none =>
      rcases h2 hs with k | k
      · by_cases k0 : (partR size p).2 = 0
        · rw [if_pos k0]; rfl
        · rw [if_neg k0, if_neg (by rw [List.drop_eq_nil_iff]; omega), if_pos]
          · rfl
          · rw [List.head?_drop]
            rw [List.getElem?_eq_getElem k]
            intro e
            exact hp (by rw [← Option.some.inj e]; exact List.getElem_mem k)
      · rw [if_pos k]; rfl
  | p :: q :: ps, 0, _, _, _, h => by omega
  | p :: q :: ps, f + 1, acc, _, hc, hf => by
    have hp := hc p (by simp)
    have ih := scan_alike size (q :: ps) f
    rw [Tg.join_two] at hf ⊢
    have hlen : (Lib.join (q :: ps) [44]).length < f := by
      rw [List.length_append, List.length_cons] at hf; omega
    obtain ⟨h1, h2⟩ := part_alike size (t := 44 :: Lib.join (q :: ps) [44]) hp (.inr ⟨_, rfl⟩)
    unfold scanR
    rw [readAll]
    cases hs : partP size p with
    | some s =>
      obtain ⟨k1, k2⟩ := h1 s hs
      rw [k1]
      simp only []
      have d0 : (p ++ 44 :: Lib.join (q :: ps) [44]).drop p.length = 44 :: Lib.join (q :: ps) [44] := by simp
      have d1 : (p ++ 44 :: Lib.join (q :: ps) [44]).drop (p.length + 1) = Lib.join (q :: ps) [44] := by
        rw [List.drop_append, List.drop_of_length_le (by omega), show p.length + 1 - p.length = 1 by omega]; rfl
      rw [if_neg (by omega), d0, if_neg (by simp), if_neg (by simp), d1, ih _ (by simp) (fun x hx => hc x (List.mem_cons_of_mem _ hx)) hlen]
      simp only [Option.bind_some, Option.map_map]
      rfl
    | none =>
      rcases h2 hs with k | k
      · by_cases k0 : (partR size (p ++ 44 :: Lib.join (q :: ps) [44])).2 = 0
        · rw [if_pos k0]; rfl
        · rw [if_neg k0]
          generalize (partR size (p ++ 44 :: Lib.join (q :: ps) [44])).2 = n at *
          have hh : ((p ++ 44 :: Lib.join (q :: ps) [44]).drop n).head? ≠ some 44 := by
            rw [List.head?_drop, List.getElem?_append_left k, List.getElem?_eq_getElem k]
            intro e
            exact hp (by rw [← Option.some.inj e]; exact List.getElem_mem k)
          rw [if_neg (by rw [List.drop_eq_nil_iff, List.length_append]; omega), if_pos hh]
          rfl
      · rw [if_pos k]; rfl

/-! ### The union, span by span -/
theorem foldl_spec : ∀ (l : List Sp) (acc : List Sp), Sp.IsSet acc → Sp.IsSet (l.foldl Sp.rAdd acc) ∧ ∀ x, Sp.mem (l.foldl Sp.rAdd acc) x ↔ Sp.mem acc x ∨ Sp.mem l x
  | [], acc, h => ⟨h, fun x => ⟨.inl, fun k => k.elim id (fun k => (Sp.mem_nil x k).elim)⟩⟩
  | s :: l, acc, h => by
    obtain ⟨h1, h2⟩ := Sp.rAdd_spec h s
    obtain ⟨h3, h4⟩ := foldl_spec l (Sp.rAdd acc s) h1
    exact ⟨h3, fun x => by rw [List.foldl_cons, h4, h2, Sp.mem_cons, or_assoc]⟩
/-- What the program unites at once. -/
theorem union_alike {l m : List Sp} (h : Sp.IsSet m) (hm : ∀ x, Sp.mem m x ↔ Sp.mem l x) : m = l.foldl Sp.rAdd [] := by
  obtain ⟨h1, h2⟩ := foldl_spec l [] Sp.IsSet.nil
  exact Sp.IsSet.ext h h1 (fun x => (hm x).trans ⟨fun k => (h2 x).2 (.inr k), fun k => ((h2 x).1 k).elim (fun e => (Sp.mem_nil x e).elim) id⟩)
/-! ### Numbers, as the library reads them -/
theorem dec_dig : ∀ (l : Bs) (acc : Nat), l.all isDig = true → ∃ n : Nat, Lib.decFrom acc l = some n ∧ (n : Int) = valF acc l
  | [], acc, _ => ⟨acc, rfl, rfl⟩
  | b :: l, acc, h => by
    simp only [List.all_cons, Bool.and_eq_true] at h
    have hb := h.1
    simp only [isDig, Bool.and_eq_true, decide_eq_true_eq] at hb
    obtain ⟨n, h1, h2⟩ := dec_dig l (acc * 10 + (b.toNat - 48)) h.2
    refine ⟨n, ?_, ?_⟩
    · unfold Lib.decFrom
      rw [show Lib.digitVal b = some (b.toNat - 48) by unfold Lib.digitVal; rw [if_pos hb]]
      exact h1
    · rw [h2]
      show valF _ l = valF (10 * (acc : Int) + ((b.toNat : Int) - 48)) l
      congr 1
      omega
theorem atoi_dig {l : Bs} (h : l.all isDig = true) (h0 : l ≠ []) : Lib.atoi l = some (valF 0 l) := by
  cases l with
  | nil => exact absurd rfl h0
  | cons b r =>
    obtain ⟨n, h1, h2⟩ := dec_dig (b :: r) 0 h
    simp only [List.all_cons, Bool.and_eq_true, isDig, decide_eq_true_eq] at h
    have e1 : (b == 45) = false := by
      rw [beq_eq_false_iff_ne]; rintro rfl; exact absurd h.1.1 (by decide)
    have e2 : (b == 43) = false := by
      rw [beq_eq_false_iff_ne]; rintro rfl; exact absurd h.1.1 (by decide)
    simp only [Lib.atoi, e1, e2, Bool.false_eq_true, if_false]
    unfold Lib.decNat
    rw [show (b :: r).isEmpty = false from rfl, if_neg (by decide), h1]
    rw [Option.map_some, h2]
    rfl
theorem dropWh_nil (p : UInt8 → Bool) : ∀ l : Bs, l.dropWhile p = [] ↔ ∀ b ∈ l, p b = true
  | [] => ⟨fun _ b h => (by cases h), fun _ => rfl⟩
  | a :: l => by
    rw [List.dropWhile_cons]
    by_cases h : p a = true
    · rw [if_pos h, dropWh_nil p l]
      exact ⟨fun k b hb => (List.mem_cons.1 hb).elim (fun e => e ▸ h) (k b), fun k b hb => k b (List.mem_cons_of_mem _ hb)⟩
    · rw [if_neg h]
      exact ⟨fun k => (by cases k), fun k => absurd (k a (by simp)) h⟩
theorem dropWh_head (p : UInt8 → Bool) : ∀ (l : Bs) (a : UInt8) (t : Bs), l.dropWhile p = a :: t → p a = false
  | [], _, _, h => (by cases h)
  | b :: l, a, t, h => by
    rw [List.dropWhile_cons] at h
    by_cases hb : p b = true
    · rw [if_pos hb] at h; exact dropWh_head p l a t h
    · rw [if_neg hb] at h
      injection h with h1 _
      subst h1
      simpa using hb
theorem dropWh_mem (p : UInt8 → Bool) : ∀ (l : Bs) (a : UInt8), a ∈ l.dropWhile p → a ∈ l
  | [], _, h => (by cases h)
  | b :: l, a, h => by
    rw [List.dropWhile_cons] at h
    by_cases hb : p b = true
    · rw [if_pos hb] at h; exact List.mem_cons_of_mem _ (dropWh_mem p l a h)
    · rw [if_neg hb] at h; exact h
theorem trimS_nil (l cs : Bs) : Lib.trimS l cs = [] ↔ ∀ b ∈ l, cs.contains b = true := by
  unfold Lib.trimS Lib.trimLeftS Lib.trimRightS
  rw [dropWh_nil]
  constructor
  · intro h
    cases hr : l.reverse.dropWhile (cs.contains ·) with
    | nil =>
      rw [dropWh_nil] at hr
      exact fun b hb => hr b (by simpa using hb)
    | cons a t =>
      have h1 := dropWh_head _ _ _ _ hr
      have h2 := h a (by rw [hr]; simp)
      rw [h2] at h1; cases h1
  · intro h b hb
    exact h b (by simpa using dropWh_mem (cs.contains ·) l.reverse b (by simpa using hb))
def digits10 : Bs := [48, 49, 50, 51, 52, 53, 54, 55, 56, 57]
theorem dig_in (b : UInt8) : digits10.contains b = isDig b := by
  have h : ∀ n : Nat, n < 256 → digits10.contains (UInt8.ofNat n) = isDig (UInt8.ofNat n) := by decide +kernel
  have := h b.toNat b.toNat_lt
  rwa [UInt8.ofNat_toNat] at this
theorem trim_dig (l : Bs) : Lib.trimS l digits10 = [] ↔ l.all isDig = true := by
  rw [trimS_nil, List.all_eq_true]
  simp only [dig_in]
/-! ### What is read of a request -/
def pre : Bs := [98, 121, 116, 101, 115, 61]
def piecesOf (s : Bs) : List Bs := Lib.split s [44]
theorem pieces_cut (s : Bs) : Cut 44 s (piecesOf s) := Tg.splitK_cut 44 _ s (Nat.le_of_eq (Lib.count_one 44 s).symm)
def unionN (l : List Sp) : List Sp := l.foldl Sp.rAdd []
def endN (o : Option (List Sp)) : List Sp × Int := match o with | none => ([], 3) | some u => if u = [] then ([], 70) else (u, 0)
def parseN (size : Int) (t : Bs) : List Sp × Int :=
  if size < 0 ∨ 1099511627776 < size then ([], 1)
  else if 10000 < t.length then ([], 2)
  else if Lib.hasPrefix t pre = false then ([], 3)
  else endN ((readAll size (piecesOf (t.drop 6))).map unionN)
theorem parse_scan (size : Int) (s : Bs) (f : Nat) (h : s.length < f) : scanR size f s [] = (readAll size (piecesOf s)).map unionN := by
  have hc := pieces_cut s
  have := scan_alike size (piecesOf s) f [] hc.some hc.free (by rw [hc.join]; exact h)
  rw [hc.join] at this
  exact this
theorem valF_bd : ∀ (l : Bs) (a : Int), l.all isDig = true → 0 ≤ a → 0 ≤ valF a l ∧ valF a l < (a + 1) * 10 ^ l.length
  | [], a, _, ha => by simp [valF]; omega
  | b :: l, a, hl, ha => by
    simp only [List.all_cons, Bool.and_eq_true] at hl
    have hb := hl.1
    simp only [isDig, Bool.and_eq_true, decide_eq_true_eq] at hb
    have := valF_bd l (10 * a + ((b.toNat : Int) - 48)) hl.2 (by omega)
    refine ⟨this.1, Int.lt_of_lt_of_le this.2 ?_⟩
    rw [List.length_cons, Int.pow_succ, Int.mul_comm (10 ^ l.length) 10, ← Int.mul_assoc]
    exact Int.mul_le_mul_of_nonneg_right (by omega) (Int.le_of_lt (Int.pow_pos (by omega)))
theorem valF_le {l : Bs} {k : Nat} (h : l.all isDig = true) (hk : l.length ≤ k) : 0 ≤ valF 0 l ∧ valF 0 l < 10 ^ k := by
  have hb := valF_bd l 0 h (Int.le_refl _)
  refine ⟨hb.1, Int.lt_of_lt_of_le hb.2 ?_⟩
  have : (10 : Int) ^ l.length ≤ 10 ^ k := by exact_mod_cast Nat.pow_le_pow_right (by omega : 0 < 10) hk
  omega
theorem num_bd {l : Bs} {n : Int} (h : numP l = some n) : 0 ≤ n ∧ n < 1000000000000000 := by
  obtain ⟨h1, h2, h3⟩ := numP_some h
  simp only [numOk, Bool.and_eq_true, decide_eq_true_eq] at h1
  have := valF_le h2 h1.1.2
  rw [h3] at this
  exact this
theorem valF_snoc (l : Bs) (k : Nat) (h : k < l.length) : valF 0 (l.take (k + 1)) = 10 * valF 0 (l.take k) + ((l[k].toNat : Int) - 48) := by
  unfold valF
  rw [List.take_succ_eq_append_getElem h, List.foldl_append]
  rfl
theorem dig_snoc (l : Bs) (k : Nat) (h : k < l.length) : (l.take (k + 1)).all isDig = ((l.take k).all isDig && isDig l[k]) := by
  rw [List.take_succ_eq_append_getElem h, List.all_append, List.all_cons, List.all_nil, Bool.and_true]
/-- Where the reading stops: at the end, at sixteen digits, or at a byte that is none. -/
theorem digs_at {l : Bs} {k : Nat} (hk : k ≤ l.length) (h16 : k ≤ 16) (hd : (l.take k).all isDig = true) (hstop : k = l.length ∨ k = 16 ∨ ∃ h : k < l.length, isDig l[k] = false) : digs l = l.take k := by
  have e : l = l.take k ++ l.drop k := (List.take_append_drop k l).symm
  have hlen : (l.take k).length = k := by rw [List.length_take]; omega
  unfold digs
  rcases hstop with h | h | ⟨h, hn⟩
  · subst h
    rw [List.take_length] at hd ⊢
    have := tw_all (t := []) hd (fun c hc => by cases hc)
    rw [List.append_nil] at this
    rw [this, List.take_of_length_le h16]
  · have : ∀ m : Bs, (m.take k).all isDig = true → k ≤ m.length → (m.takeWhile isDig).take k = m.take k := by
      clear hd hk h h16 e hlen
      intro m
      induction k generalizing m with
      | zero => intro _ _; simp
      | succ k ih =>
        intro h1 h2
        cases m with
        | nil => simp at h2
        | cons c m =>
          simp only [List.take_succ_cons, List.all_cons, Bool.and_eq_true] at h1
          rw [List.takeWhile_cons, if_pos h1.1, List.take_succ_cons, List.take_succ_cons, ih m h1.2 (by simpa using h2)]
    subst h
    exact this l hd hk
  · have ht : ∀ c, (l.drop k).head? = some c → isDig c = false := by
      intro c hc
      rw [List.head?_drop, List.getElem?_eq_getElem h] at hc
      rw [← Option.some.inj hc]; exact hn
    have h2 := tw_all hd ht
    rw [← e] at h2
    rw [h2, List.take_of_length_le (by rw [hlen]; exact h16)]
theorem numR_at {l : Bs} {k : Nat} {v : Int} (hk : k ≤ l.length) (h16 : k ≤ 16) (hd : (l.take k).all isDig = true) (hv : v = valF 0 (l.take k)) (hstop : k = l.length ∨ k = 16 ∨ ∃ h : k < l.length, isDig l[k] = false) :
    numR l = if k = 0 ∨ 15 < k ∨ (1 < k ∧ l.head? = some 48) then (0, 0) else (v, k) := by
  have hlen : (l.take k).length = k := by rw [List.length_take]; omega
  unfold numR
  rw [digs_at hk h16 hd hstop, hlen, ← hv]
  have hh : 0 < k → (l.take k).head? = l.head? := fun h => by rw [List.head?_take, if_neg (by omega)]
  by_cases hc : k = 0 ∨ 15 < k ∨ (1 < k ∧ l.head? = some 48)
  · rw [if_pos hc, if_neg]
    intro e
    simp only [numOk, hlen, Bool.and_eq_true, Bool.or_eq_true, decide_eq_true_eq, Bool.not_eq_true', beq_eq_false_iff_ne] at e
    obtain ⟨⟨e1, e2⟩, e3⟩ := e
    rw [hh (by omega)] at e3
    rcases hc with h | h | ⟨h, h'⟩
    · omega
    · omega
    · rcases e3 with e3 | e3
      · omega
      · exact e3 h'
  · rw [if_neg hc, if_pos]
    simp only [numOk, hlen, Bool.and_eq_true, Bool.or_eq_true, decide_eq_true_eq, Bool.not_eq_true', beq_eq_false_iff_ne]
    refine ⟨⟨by omega, by omega⟩, ?_⟩
    by_cases h1 : k = 1
    · exact .inl h1
    · right
      rw [hh (by omega)]
      exact fun e => hc (.inr (.inr ⟨by omega, e⟩))
end Go.Proofs.YthhblgjbgjceiaaGreatDoor.Rp
