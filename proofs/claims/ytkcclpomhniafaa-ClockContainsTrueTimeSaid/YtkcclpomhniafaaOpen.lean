/- Slices that came in, opened to lists. -/
import Derived.Test.YtkcclpomhniafaaRow
import Derived.Test.YtkcclpomhniafaaCkE
import Derived.Deep.Slices
set_option linter.unusedVariables false
set_option linter.unusedSimpArgs false
namespace Go.Proofs.Ytkcclpomhniafaa
open Go.ChangeShapes Go.WideShapes Go.ChangeAt Go.RowKit Go.Joins Go.Deep

theorem list_of_each {α : Type} (d : α) (Q : Nat → α → Prop) : ∀ n : Nat, (∀ i, i < n → ∃ x, Q i x) → ∃ l : List α, l.length = n ∧ ∀ i, i < n → Q i (l.getD i d)
  | 0, _ => ⟨[], rfl, fun i h => by omega⟩
  | n + 1, h => by
    obtain ⟨l, hl, hq⟩ := list_of_each d Q n (fun i hi => h i (by omega))
    obtain ⟨x, hx⟩ := h n (by omega)
    refine ⟨l ++ [x], by simp [hl], fun i hi => ?_⟩
    by_cases e : i = n
    · subst e; rw [List.getD_eq_getElem?_getD, List.getElem?_append_right (by omega), hl, Nat.sub_self]; exact hx
    · have hin : i < n := by omega
      have := hq i hin
      rw [List.getD_eq_getElem?_getD] at this ⊢
      rwa [List.getElem?_append_left (by omega)]

theorem addr_of_cell {w : World} {a : Addr} {v : Value} (h : w.cell? a = some v) : a.spot = none ∧ a.block < w.heap.size := by
  unfold World.cell? at h
  cases ho : w.heap[a.block]? with
  | none => simp [ho] at h
  | some o =>
    refine ⟨?_, (Array.getElem?_eq_some_iff.1 ho).1⟩
    cases hs : a.spot with
    | none => rfl
    | some s => cases o <;> simp [ho, hs] at h

section
variable {H : Type} {enc : TypeId × Value → H} {w : World} {spare : Nat → Bool} {held : Bool}

theorem open_paces {r : Reach} {b0 : Nat} {v : Value} {d : DataW H} {p : List MemPlace} (hv : Value.okWide Try.prog w r b0 46 v) (h : DataW.Trod enc Try.prog w 0 (fun _ => true) held 46 v d p) :
    ∃ (A : Option Addr) (c : Nat) (ps : List (Int × Int)), v = .slice A ps.length c ∧ ps.length ≤ maxLen ∧ PReads w w.heap.size A ps := by
  obtain ⟨a0, len, cap, rfl⟩ := okWide_slice Try.underlying46 hv
  obtain ⟨fuel, hf⟩ := h
  have hC : Try.prog.cellsOf 70 = 2 := by kernel_rfl
  have hC1 : Try.prog.cellsOf 3 = 1 := by kernel_rfl
  rcases open_slice Try.underlying46 hf with ⟨hcs, _⟩ | ⟨a, len', cap', m, n, D, Pl, hcs, hb, hl, hm, hmm, hx, hi⟩
  · simp [Value.cells] at hcs
    obtain ⟨rfl, rfl, rfl⟩ := hcs
    exact ⟨none, 0, [], rfl, by simp, fun h => by simp at h⟩
  · simp [Value.cells] at hcs
    obtain ⟨rfl, rfl, rfl⟩ := hcs
    have hlm : len ≤ m := by rw [hmm]; simp; omega
    obtain ⟨ps, hpl, hq⟩ := list_of_each ((0 : Int), (0 : Int)) (fun i x => w.cell? (a.add (i * 2)) = some (.int .i64 x.1) ∧ w.cell? (a.add (i * 2 + 1)) = some (.int .i64 x.2)) len (fun i hil => by
      obtain ⟨cs', hc, ht⟩ := hi i (by omega)
      rw [hC] at hc
      obtain ⟨_, hcl, hat⟩ := World.cells?_some hc
      obtain ⟨ys, n', _, _, _, hyl, hg⟩ := DataW.trod_struct Try.underlying70 ht
      have g0 := hg 0 _ rfl
      have g1 := hg 1 _ rfl
      simp only [List.getElem_toArray, List.getElem_cons_succ, List.getElem_cons_zero, hC1] at g0 g1
      have hl2 : ys.length = 2 := hyl
      rw [List.getElem?_eq_getElem (by omega)] at g0 g1
      obtain ⟨x0, e0, _, _⟩ := DataW.trod_int Try.underlying3 g0
      obtain ⟨x1, e1, _, _⟩ := DataW.trod_int Try.underlying3 g1
      match cs', hcl with
      | [c0, c1], _ =>
        simp at e0 e1
        subst e0 e1
        have a0 := hat 0 (by omega)
        have a1 := hat 1 (by omega)
        rw [add_add] at a0 a1
        exact ⟨(x0, x1), by simpa using a0, by simpa using a1⟩)
    refine ⟨some a, cap, ps, by rw [hpl], by rw [hpl]; omega, ?_⟩
    intro h0
    have h00 := (hq 0 (by omega)).1
    obtain ⟨hs, hlt⟩ := addr_of_cell h00
    have ea : a.add (0 * 2) = a := by simp [Addr.add]
    rw [ea] at hs hlt
    refine ⟨a.block, a.off, by cases a; simp at hs; simp [hs], hlt, fun i hi => ?_⟩
    have e1 : a.add (i * 2) = ⟨a.block, a.off + i * 2, none⟩ := by
      unfold Addr.add
      by_cases h : i * 2 = 0
      · rw [if_pos h, h]; cases a; simp at hs; simp [hs]
      · rw [if_neg h]
    have e2 : a.add (i * 2 + 1) = ⟨a.block, a.off + i * 2 + 1, none⟩ := by
      unfold Addr.add
      rw [if_neg (by omega)]; simp [Nat.add_assoc]
    rw [← e1, ← e2]
    exact hq i (by omega)
end
end Go.Proofs.Ytkcclpomhniafaa
