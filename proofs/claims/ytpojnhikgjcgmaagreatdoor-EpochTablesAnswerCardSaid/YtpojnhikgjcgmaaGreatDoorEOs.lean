/- Stamps and faults that came in, opened. -/
import Derived.WalkKit
import Derived.WalkSpells
import Derived.WalkLawsBesides
import Derived.Deep.QuietTactic
import Derived.BigQuiet
import Derived.Test.YtpojnhikgjcgmaaGreatDoorEVw
set_option maxRecDepth 100000
set_option maxHeartbeats 64000000
set_option linter.unusedVariables false
set_option linter.unusedSimpArgs false
namespace Go.Proofs.YtpojnhikgjcgmaaGreatDoor
open Go.ChangeShapes Go.WideShapes Go.ChangeAt Go.RowKit Go.Joins Go.Deep
open Go.Proofs
section
variable {H : Type} {enc : TypeId × Value → H} {w : World} {base : Nat} {spare : Nat → Bool} {held : Bool}
theorem slice_of_trod {α : Type} {S T : TypeId} {size : Nat} {en : α → List Value} (E : EncTy en size) (d : α) (Q : α → Prop) (hS : Tryz.prog.underlying S = some (.slice T)) (hC : Tryz.prog.cellsOf T = size) (hp : 0 < size)
  (hel : ∀ {m : Nat} {cs : List Value} {x : DataW H × List MemPlace}, DataW.trod enc Tryz.prog w 0 (fun _ => true) held m T cs = some x → ∃ s : α, cs = en s ∧ Q s)
  {m : Nat} {v : Value} {x : DataW H × List MemPlace} (h : DataW.trod enc Tryz.prog w 0 (fun _ => true) held m S [v] = some x) :
  ∃ (A : Option Addr) (c : Nat) (l : List α), v = .slice A l.length c ∧ l.length ≤ c ∧ c ≤ maxLen ∧ Reads size en w w.heap.size A l ∧ (∀ s ∈ l, Q s) ∧ (A = none → c = 0) := by
 rcases open_slice hS h with ⟨hcs, _⟩ | ⟨a, len, cap, m, n, D, Pl, hcs, hb, hl, hm, hmm, hx, hi⟩
 ·simp at hcs
  subst hcs
  exact ⟨none, 0, [], rfl, by simp, by simp, Reads.nil _ _ _ _ _, by simp, fun _ => rfl⟩
 ·simp at hcs
  subst hcs
  have hlm : len ≤ m := by rw [hmm]; simp; omega
  obtain ⟨l, hll, hq⟩ := list_each d (fun i s => (∀ j, j < size → w.cell? (a.add (i * size + j)) = (en s)[j]?) ∧ Q s) len (fun i hil => by
   obtain ⟨cs', hc, ht⟩ := hi i (by omega)
   rw [hC] at hc
   obtain ⟨_, hcl, hat⟩ := World.cells?_some hc
   obtain ⟨s, rfl, hQ⟩ := hel ht
   exact ⟨s, fun j hj => by rw [← add_add]; exact hat j hj, hQ⟩)
  have hq2 : ∀ i (hi : i < l.length), (∀ j, j < size → w.cell? (a.add (i * size + j)) = (en l[i])[j]?) ∧ Q l[i] := fun i hi => by
   have := hq i (by omega)
   rwa [List.getD_eq_getElem?_getD, List.getElem?_eq_getElem hi, Option.getD_some] at this
  refine ⟨some a, cap, l, by rw [hll], by rw [hll]; omega, hm, ?_, fun s hs => by
   obtain ⟨i, hi, rfl⟩ := List.getElem_of_mem hs
   exact (hq2 i hi).2, fun k => by cases k⟩
  intro h0
  have h00 := (hq2 0 h0).1 0 hp
  have ea : a.add (0 * size + 0) = a := by simp [Addr.add]
  have hlen := E.len l[0]
  rw [ea, List.getElem?_eq_getElem (by omega)] at h00
  have hlt := cell_there h00
  have hs : a.spot = none := by
   unfold World.cell? at h00
   cases ho : w.heap[a.block]? with
   | none => simp [ho] at h00
   | some o => cases hs : a.spot with
    | none => rfl
    | some s => cases o <;> simp [ho, hs] at h00
  refine ⟨a.block, a.off, by cases a; simp at hs; simp [hs], hlt, fun i hi j v hv => ?_⟩
  have hj : j < size := by
   have := (List.getElem?_eq_some_iff.1 hv).1
   rwa [E.len] at this
  have e2 : a.add (i * size + j) = ⟨a.block, a.off + i * size + j, none⟩ := by
   unfold Addr.add
   by_cases h : i * size + j = 0
   ·rw [if_pos h, Nat.add_assoc, h]; cases a; simp at hs; simp [hs]
   ·rw [if_neg h, Nat.add_assoc]
  have := (hq2 i hi).1 j hj
  rw [e2, hv] at this
  exact this
theorem open_digest {r : Reach} {b0 : Nat} {v : Value} {d : DataW H} {p : List MemPlace} (hv : Value.okWide Tryz.prog w r b0 23 v) (h : DataW.Trod enc Tryz.prog w base spare held 23 v d p) :
  ∃ b : List Int, v = .agg (dgC b) ∧ b.length = 16 ∧ Byt b := by
 have hv2 := hv
 unfold Value.okWide at hv2
 rw [Tryz.underlying23] at hv2
 simp only [] at hv2
 obtain ⟨cs, rfl, _⟩ := hv2
 obtain ⟨fuel, hf⟩ := h
 obtain ⟨b, e, h1, h2⟩ := dg_of_trod Tryz.underlying23 (by kernel_rfl) hf
 exact ⟨b, by rw [show cs = dgC b from Array.toList_inj.1 e], h1, h2⟩
end
end Go.Proofs.YtpojnhikgjcgmaaGreatDoor

namespace Go.Proofs.YtpojnhikgjcgmaaGreatDoor
open Go.ChangeShapes Go.WideShapes Go.ChangeAt Go.RowKit Go.Joins Go.Deep
open Go.Proofs
section
variable {H : Type} {enc : TypeId × Value → H} {w : World} {base : Nat} {spare : Nat → Bool} {held : Bool}
theorem open_stampO {r : Reach} {b0 : Nat} {v : Value} {d : DataW H} {p : List MemPlace} (hv : Value.okWide Tryz.prog w r b0 32 v) (h : DataW.Trod enc Tryz.prog w base spare held 32 v d p) :
  ∃ s : St, v = .agg (stmC s) ∧ s.body.length = 16 ∧ Byt s.body ∧ s.addr.size ≤ maxLen ∧ s.var.size ≤ maxLen ∧ s.tags.size ≤ maxLen ∧ s.seal_.length = 16 ∧ Byt s.seal_ := by
 obtain ⟨cs, rfl, hsz⟩ := okWide_struct Tryz.underlying32 hv
 obtain ⟨fuel, hf⟩ := h
 obtain ⟨s, e0, l1, l2, l3, l4, l5, l6, l7⟩ := stm_of_trod hf
 have hcs : cs = stmC s := by
  apply Array.toList_inj.1
  exact e0
 exact ⟨s, by rw [hcs], l1, l2, l3, l4, l5, l6, l7⟩
end
end Go.Proofs.YtpojnhikgjcgmaaGreatDoor