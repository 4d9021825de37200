/- Slices of integers that came in, opened to lists. -/
import Derived.Test.YtkcclpomhniafaaOpen
import Derived.Test.YtkcclpomhniafaaCkN
set_option linter.unusedVariables false
set_option linter.unusedSimpArgs false
namespace Go.Proofs.Ytkcclpomhniafaa
open Go.ChangeShapes Go.WideShapes Go.ChangeAt Go.RowKit Go.Joins Go.Deep

section
variable {H : Type} {enc : TypeId × Value → H} {P : Program} {w : World} {held : Bool}
theorem open_ilist {r : Reach} {b0 : Nat} {v : Value} {d : DataW H} {p : List MemPlace} {T E : TypeId} {k : IntKind} (hT : P.underlying T = some (.slice E)) (hE : P.underlying E = some (.int k)) (hC : P.cellsOf E = 1)
    (hv : Value.okWide P w r b0 T v) (h : DataW.Trod enc P w 0 (fun _ => true) held T v d p) :
    ∃ (A : Option Addr) (c : Nat) (zs : List Int), v = .slice A zs.length c ∧ zs.length ≤ maxLen ∧ IReads w w.heap.size A k zs ∧ ∀ i, i < zs.length → (Lit.int k (zs.getD i 0)).wf = true := by
  obtain ⟨a0, len, cap, rfl⟩ := okWide_slice hT hv
  obtain ⟨fuel, hf⟩ := h
  rcases open_slice hT hf with ⟨hcs, _⟩ | ⟨a, len', cap', m, n, D, Pl, hcs, hb, hl, hm, hmm, hx, hi⟩
  · simp [Value.cells] at hcs
    obtain ⟨rfl, rfl, rfl⟩ := hcs
    exact ⟨none, 0, [], rfl, by simp, fun h => by simp at h, fun i h => by simp at h⟩
  · simp [Value.cells] at hcs
    obtain ⟨rfl, rfl, rfl⟩ := hcs
    have hlm : len ≤ m := by rw [hmm]; simp; omega
    obtain ⟨zs, hpl, hq⟩ := list_of_each (0 : Int) (fun i x => w.cell? (a.add i) = some (.int k x) ∧ (Lit.int k x).wf = true) len (fun i hil => by
      obtain ⟨cs', hc, ht⟩ := hi i (by omega)
      rw [hC] at hc
      obtain ⟨_, hcl, hat⟩ := World.cells?_some hc
      obtain ⟨x, e, _, wx⟩ := DataW.trod_int hE ht
      subst e
      have a0 := hat 0 (by omega)
      rw [add_add] at a0
      exact ⟨x, by simpa using a0, wx⟩)
    refine ⟨some a, cap, zs, by rw [hpl], by rw [hpl]; omega, ?_, fun i hi => (hq i (by omega)).2⟩
    intro h0
    have h00 := (hq 0 (by omega)).1
    obtain ⟨hs, hlt⟩ := addr_of_cell h00
    have ea : a.add 0 = a := by simp [Addr.add]
    rw [ea] at hs hlt
    refine ⟨a.block, a.off, by cases a; simp at hs; simp [hs], hlt, fun i hi => ?_⟩
    have e1 : a.add i = ⟨a.block, a.off + i, none⟩ := by
      unfold Addr.add
      by_cases h : i = 0
      · rw [if_pos h, h]; cases a; simp at hs; simp [hs]
      · rw [if_neg h]
    rw [← e1]
    exact (hq i (by omega)).1
end
theorem wf_u32 {n : Int} (h : (Lit.int .u32 n).wf = true) : 0 ≤ n ∧ n ≤ 4294967295 := by simpa [Lit.wf, IntKind.min, IntKind.max, IntKind.signed, IntKind.bits] using h
theorem wf_u16 {n : Int} (h : (Lit.int .u16 n).wf = true) : 0 ≤ n ∧ n ≤ 65535 := by simpa [Lit.wf, IntKind.min, IntKind.max, IntKind.signed, IntKind.bits] using h
end Go.Proofs.Ytkcclpomhniafaa
