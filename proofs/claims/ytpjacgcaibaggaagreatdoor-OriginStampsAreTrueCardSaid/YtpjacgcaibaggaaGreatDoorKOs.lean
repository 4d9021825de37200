/- Stamps and faults that came in, opened. -/
import Derived.Test.YtpjacgcaibaggaaGreatDoorKOv
set_option linter.unusedVariables false
set_option linter.unusedSimpArgs false
namespace Go.Proofs.YtpjacgcaibaggaaGreatDoor
open Go.ChangeShapes Go.WideShapes Go.ChangeAt Go.RowKit Go.Joins Go.Deep
open Go.Proofs

section
variable {H : Type} {enc : TypeId × Value → H} {w : World} {base : Nat} {spare : Nat → Bool} {held : Bool}
set_option maxRecDepth 100000 in
theorem open_stampO {r : Reach} {b0 : Nat} {v : Value} {d : DataW H} {p : List MemPlace} (hv : Value.okWide Tryz.prog w r b0 48 v) (h : DataW.Trod enc Tryz.prog w base spare held 48 v d p) :
    ∃ s : St, v = .agg (stmC s) ∧ s.body.length = 16 ∧ Byt s.body ∧ s.addr.size ≤ maxLen ∧ s.var.size ≤ maxLen ∧ s.tags.size ≤ maxLen ∧ s.seal_.length = 16 ∧ Byt s.seal_ := by
  obtain ⟨cs, rfl, hsz⟩ := okWide_struct Tryz.underlying48 hv
  obtain ⟨fuel, hf⟩ := h
  obtain ⟨s, e0, l1, l2, l3, l4, l5, l6, l7⟩ := stm_of_trod hf
  have hcs : cs = stmC s := by
    apply Array.toList_inj.1
    exact e0
  exact ⟨s, by rw [hcs], l1, l2, l3, l4, l5, l6, l7⟩
theorem fau_of_trod {m : Nat} {L : List Value} {x : DataW H × List MemPlace} (h : DataW.trod enc Tryz.prog w base spare held m 99 L = some x) : ∃ v : Fau, L = fauL v ∧ True := by
  obtain ⟨xs, n, _, _, hlen, hxl, hg⟩ := DataW.trod_struct Tryz.underlying99 h
  have hC : Tryz.prog.cellsOf 99 = 4 := by kernel_rfl
  have ci : Tryz.prog.cellsOf 3 = 1 := by kernel_rfl
  rw [hC] at hlen
  have hx9 : xs.length = 4 := hxl
  have g0 := hg 0 _ rfl
  have g1 := hg 1 _ rfl
  have g2 := hg 2 _ rfl
  have g3 := hg 3 _ rfl
  simp only [List.getElem_toArray, List.getElem_cons_succ, List.getElem_cons_zero, ci] at g0 g1 g2 g3
  rw [List.getElem?_eq_getElem (by omega)] at g0 g1 g2 g3
  obtain ⟨n0, e0, _, _⟩ := DataW.trod_int Tryz.underlying3 g0
  obtain ⟨n1, e1, _, _⟩ := DataW.trod_int Tryz.underlying3 g1
  obtain ⟨n2, e2, _, _⟩ := DataW.trod_int Tryz.underlying3 g2
  obtain ⟨n3, e3, _, _⟩ := DataW.trod_int Tryz.underlying3 g3
  refine ⟨⟨n0, n1, n2, n3⟩, ?_, trivial⟩
  have e : L = L.drop 0 := rfl
  rw [e, seg e0, seg e1, seg e2, seg e3, List.drop_eq_nil_of_le (show L.length ≤ 3 + 1 by omega)]
  rfl
set_option maxRecDepth 100000 in
theorem open_faults {r : Reach} {b0 : Nat} {v : Value} {d : DataW H} {p : List MemPlace} (hv : Value.okWide Tryz.prog w r b0 68 v) (h : DataW.Trod enc Tryz.prog w 0 (fun _ => true) held 68 v d p) :
    ∃ (A : Option Addr) (c : Nat) (l : List Fau), v = .slice A l.length c ∧ l.length ≤ c ∧ c ≤ maxLen ∧ ReadsFau w w.heap.size A l := by
  unfold Value.okWide at hv
  rw [Tryz.underlying68] at hv
  simp only [] at hv
  obtain ⟨fuel, hf⟩ := h
  cases v with
  | slice A n c =>
    obtain ⟨A', c', l, e, h1, h2, h3, _, _⟩ := slice_of_trod fauE noFau (fun _ => True) Tryz.underlying68 (by kernel_rfl) (by omega) (fun h => fau_of_trod h) hf
    injection e with e1 e2 e3
    subst e1 e2 e3
    exact ⟨A, c, l, rfl, h1, h2, h3⟩
  | _ =>
    exfalso
    unfold Cell.okWide at hv
    rw [Tryz.underlying68] at hv
    simp only [] at hv
    unfold Cell.ok at hv
    rw [Tryz.underlying68] at hv
    simp at hv
end
end Go.Proofs.YtpjacgcaibaggaaGreatDoor
