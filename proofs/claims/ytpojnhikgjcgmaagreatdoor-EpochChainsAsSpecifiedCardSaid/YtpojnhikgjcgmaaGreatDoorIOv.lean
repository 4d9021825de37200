/- Versions, faults, digests, answers and keys that came in, opened. -/
import Derived.WalkKit
import Derived.WalkSpells
import Derived.WalkLawsBesides
import Derived.Deep.QuietTactic
import Derived.BigQuiet
import Derived.Test.YtpojnhikgjcgmaaGreatDoorIVw
set_option linter.unusedVariables false
set_option linter.unusedSimpArgs false
namespace Go.Proofs.YtpojnhikgjcgmaaGreatDoor
open Go.ChangeShapes Go.WideShapes Go.ChangeAt Go.RowKit Go.Joins Go.Deep
open Go.Proofs
section
variable {H : Type} {enc : TypeId × Value → H} {w : World} {base : Nat} {spare : Nat → Bool} {held : Bool}
theorem slice_of_trod {α : Type} {S T : TypeId} {size : Nat} {en : α → List Value} (E : EncTy en size) (d : α) (Q : α → Prop) (hS : Tryz.prog.underlying S = some (.slice T)) (hC : Tryz.prog.cellsOf T = size) (hp : 0 < size)
  (hel : ∀ {m : Nat} {cs : List Value} {x : DataW H × List MemPlace}, DataW.trod enc Tryz.prog w 0 (fun _ => true) held m T cs = some x → ∃ s : α, cs = en s ∧ Q s)
  {m : Nat} {v : Value} {x : DataW H × List MemPlace} (h : DataW.trod enc Tryz.prog w 0 (fun _ => true) held m S [v] = some x) :
  ∃ (A : Option Addr) (c : Nat) (l : List α), v = .slice A l.length c ∧ l.length ≤ c ∧ c ≤ maxLen ∧ Reads size en w w.heap.size A l ∧ (∀ s ∈ l, Q s) ∧ (A = none → c = 0) := by
 rcases open_slice hS h with ⟨hcs, _⟩ | ⟨a, len, cap, m, n, D, Pl, hcs, hb, hl, hm, hmm, hx, hi⟩
 ·simp at hcs
  subst hcs
  exact ⟨none, 0, [], rfl, by simp, by simp, Reads.nil _ _ _ _ _, by simp, fun _ => rfl⟩
 ·simp at hcs
  subst hcs
  have hlm : len ≤ m := by rw [hmm]; simp; omega
  obtain ⟨l, hll, hq⟩ := list_each d (fun i s => (∀ j, j < size → w.cell? (a.add (i * size + j)) = (en s)[j]?) ∧ Q s) len (fun i hil => by
   obtain ⟨cs', hc, ht⟩ := hi i (by omega)
   rw [hC] at hc
   obtain ⟨_, hcl, hat⟩ := World.cells?_some hc
   obtain ⟨s, rfl, hQ⟩ := hel ht
   exact ⟨s, fun j hj => by rw [← add_add]; exact hat j hj, hQ⟩)
  have hq2 : ∀ i (hi : i < l.length), (∀ j, j < size → w.cell? (a.add (i * size + j)) = (en l[i])[j]?) ∧ Q l[i] := fun i hi => by
   have := hq i (by omega)
   rwa [List.getD_eq_getElem?_getD, List.getElem?_eq_getElem hi, Option.getD_some] at this
  refine ⟨some a, cap, l, by rw [hll], by rw [hll]; omega, hm, ?_, fun s hs => by
   obtain ⟨i, hi, rfl⟩ := List.getElem_of_mem hs
   exact (hq2 i hi).2, fun k => by cases k⟩
  intro h0
  have h00 := (hq2 0 h0).1 0 hp
  have ea : a.add (0 * size + 0) = a := by simp [Addr.add]
  have hlen := E.len l[0]
  rw [ea, List.getElem?_eq_getElem (by omega)] at h00
  have hlt := cell_there h00
  have hs : a.spot = none := by
   unfold World.cell? at h00
   cases ho : w.heap[a.block]? with
   | none => simp [ho] at h00
   | some o => cases hs : a.spot with
    | none => rfl
    | some s => cases o <;> simp [ho, hs] at h00
  refine ⟨a.block, a.off, by cases a; simp at hs; simp [hs], hlt, fun i hi j v hv => ?_⟩
  have hj : j < size := by
   have := (List.getElem?_eq_some_iff.1 hv).1
   rwa [E.len] at this
  have e2 : a.add (i * size + j) = ⟨a.block, a.off + i * size + j, none⟩ := by
   unfold Addr.add
   by_cases h : i * size + j = 0
   ·rw [if_pos h, Nat.add_assoc, h]; cases a; simp at hs; simp [hs]
   ·rw [if_neg h, Nat.add_assoc]
  have := (hq2 i hi).1 j hj
  rw [e2, hv] at this
  exact this
end
end Go.Proofs.YtpojnhikgjcgmaaGreatDoor