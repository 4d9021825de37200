/- Stamps and faults that came in, opened. -/
import Derived.Test.YtpfhmcdcmepfdaaGreatDoorKOw
import Derived.Test.YtpfhmcdcmepfdaaGreatDoorKWa
set_option linter.unusedVariables false
set_option linter.unusedSimpArgs false
namespace Go.Proofs.YtpfhmcdcmepfdaaGreatDoor
open Go.ChangeShapes Go.WideShapes Go.ChangeAt Go.RowKit Go.Joins Go.Deep
open Go.Proofs

section
variable {H : Type} {enc : TypeId × Value → H} {w : World} {base : Nat} {spare : Nat → Bool} {held : Bool}
/-- A slice of elements that are read as rows. -/
theorem slice_of_trod {α : Type} {S T : TypeId} {size : Nat} {en : α → List Value} (E : EncTy en size) (d : α) (Q : α → Prop) (hS : Tryz.prog.underlying S = some (.slice T)) (hC : Tryz.prog.cellsOf T = size) (hp : 0 < size)
    (hel : ∀ {m : Nat} {cs : List Value} {x : DataW H × List MemPlace}, DataW.trod enc Tryz.prog w 0 (fun _ => true) held m T cs = some x → ∃ s : α, cs = en s ∧ Q s)
    {m : Nat} {v : Value} {x : DataW H × List MemPlace} (h : DataW.trod enc Tryz.prog w 0 (fun _ => true) held m S [v] = some x) :
    ∃ (A : Option Addr) (c : Nat) (l : List α), v = .slice A l.length c ∧ l.length ≤ c ∧ c ≤ maxLen ∧ Reads size en w w.heap.size A l ∧ (∀ s ∈ l, Q s) ∧ (A = none → c = 0) := by
  rcases open_slice hS h with ⟨hcs, _⟩ | ⟨a, len, cap, m, n, D, Pl, hcs, hb, hl, hm, hmm, hx, hi⟩
  · simp at hcs
    subst hcs
    exact ⟨none, 0, [], rfl, by simp, by simp, Reads.nil _ _ _ _ _, by simp, fun _ => rfl⟩
  · simp at hcs
    subst hcs
    have hlm : len ≤ m := by rw [hmm]; simp; omega
    obtain ⟨l, hll, hq⟩ := list_each d (fun i s => (∀ j, j < size → w.cell? (a.add (i * size + j)) = (en s)[j]?) ∧ Q s) len (fun i hil => by
      obtain ⟨cs', hc, ht⟩ := hi i (by omega)
      rw [hC] at hc
      obtain ⟨_, hcl, hat⟩ := World.cells?_some hc
      obtain ⟨s, rfl, hQ⟩ := hel ht
      exact ⟨s, fun j hj => by rw [← add_add]; exact hat j hj, hQ⟩)
    have hq2 : ∀ i (hi : i < l.length), (∀ j, j < size → w.cell? (a.add (i * size + j)) = (en l[i])[j]?) ∧ Q l[i] := fun i hi => by
      have := hq i (by omega)
      rwa [List.getD_eq_getElem?_getD, List.getElem?_eq_getElem hi, Option.getD_some] at this
    refine ⟨some a, cap, l, by rw [hll], by rw [hll]; omega, hm, ?_, fun s hs => by
      obtain ⟨i, hi, rfl⟩ := List.getElem_of_mem hs
      exact (hq2 i hi).2, fun k => by cases k⟩
    intro h0
    have h00 := (hq2 0 h0).1 0 hp
    have ea : a.add (0 * size + 0) = a := by simp [Addr.add]
    have hlen := E.len l[0]
    rw [ea, List.getElem?_eq_getElem (by omega)] at h00
    have hlt := cell_there h00
    have hs : a.spot = none := by
      unfold World.cell? at h00
      cases ho : w.heap[a.block]? with
      | none => simp [ho] at h00
      | some o => cases hs : a.spot with
        | none => rfl
        | some s => cases o <;> simp [ho, hs] at h00
    refine ⟨a.block, a.off, by cases a; simp at hs; simp [hs], hlt, fun i hi j v hv => ?_⟩
    have hj : j < size := by
      have := (List.getElem?_eq_some_iff.1 hv).1
      rwa [E.len] at this
    have e2 : a.add (i * size + j) = ⟨a.block, a.off + i * size + j, none⟩ := by
      unfold Addr.add
      by_cases h : i * size + j = 0
      · rw [if_pos h, Nat.add_assoc, h]; cases a; simp at hs; simp [hs]
      · rw [if_neg h, Nat.add_assoc]
    have := (hq2 i hi).1 j hj
    rw [e2, hv] at this
    exact this
def Ver.In (v : Ver) : Prop := v.bytes.size ≤ maxLen ∧ v.tags.size ≤ maxLen
theorem ver_of_trod {m : Nat} {L : List Value} {x : DataW H × List MemPlace} (h : DataW.trod enc Tryz.prog w base spare held m 107 L = some x) : ∃ v : Ver, L = verL v ∧ v.In := by
  obtain ⟨xs, n, _, _, hlen, hxl, hg⟩ := DataW.trod_struct Tryz.underlying107 h
  have hC : Tryz.prog.cellsOf 107 = 4 := by kernel_rfl
  have cs : Tryz.prog.cellsOf 9 = 1 := by kernel_rfl
  have ci : Tryz.prog.cellsOf 3 = 1 := by kernel_rfl
  rw [hC] at hlen
  have hx9 : xs.length = 4 := hxl
  have g0 := hg 0 _ rfl
  have g1 := hg 1 _ rfl
  have g2 := hg 2 _ rfl
  have g3 := hg 3 _ rfl
  simp only [List.getElem_toArray, List.getElem_cons_succ, List.getElem_cons_zero, cs, ci] at g0 g1 g2 g3
  rw [List.getElem?_eq_getElem (by omega)] at g0 g1 g2 g3
  obtain ⟨n0, e0, _, _⟩ := DataW.trod_int Tryz.underlying3 g0
  obtain ⟨n1, e1, _, _⟩ := DataW.trod_int Tryz.underlying3 g1
  obtain ⟨s2, e2, _, z2⟩ := DataW.trod_string Tryz.underlying9 g2
  obtain ⟨s3, e3, _, z3⟩ := DataW.trod_string Tryz.underlying9 g3
  refine ⟨⟨n0, n1, s2, s3⟩, ?_, z2, z3⟩
  have e : L = L.drop 0 := rfl
  rw [e, seg e0, seg e1, seg e2, seg e3, List.drop_eq_nil_of_le (show L.length ≤ 3 + 1 by omega)]
  rfl
set_option maxRecDepth 100000 in
theorem open_versions {r : Reach} {b0 : Nat} {v : Value} {d : DataW H} {p : List MemPlace} (hv : Value.okWide Tryz.prog w r b0 102 v) (h : DataW.Trod enc Tryz.prog w 0 (fun _ => true) held 102 v d p) :
    ∃ (A : Option Addr) (c : Nat) (l : List Ver), v = .slice A l.length c ∧ l.length ≤ c ∧ c ≤ maxLen ∧ ReadsVer w w.heap.size A l ∧ (∀ s ∈ l, s.In) ∧ (A = none → c = 0) ∧ ∀ a, A = some a → a.spot = none := by
  unfold Value.okWide at hv
  rw [Tryz.underlying102] at hv
  simp only [] at hv
  obtain ⟨fuel, hf⟩ := h
  cases v with
  | slice A n c =>
    obtain ⟨A', c', l, e, h1, h2, h3, h4, h5⟩ := slice_of_trod verE noVer Ver.In Tryz.underlying102 (by kernel_rfl) (by omega) (fun h => ver_of_trod h) hf
    injection e with e1 e2 e3
    subst e1 e2 e3
    refine ⟨A, c, l, rfl, h1, h2, h3, h4, h5, fun a ha => ?_⟩
    subst ha
    unfold Cell.okWide at hv
    rw [Tryz.underlying102] at hv
    simp only [] at hv
    unfold Cell.ok at hv
    rw [Tryz.underlying102] at hv
    simp only [] at hv
    obtain ⟨_, _, _, hs, _⟩ := hv
    exact hs
  | _ =>
    exfalso
    unfold Cell.okWide at hv
    rw [Tryz.underlying102] at hv
    simp only [] at hv
    unfold Cell.ok at hv
    rw [Tryz.underlying102] at hv
    simp at hv
set_option maxRecDepth 100000 in
theorem open_digest {r : Reach} {b0 : Nat} {v : Value} {d : DataW H} {p : List MemPlace} (hv : Value.okWide Tryz.prog w r b0 25 v) (h : DataW.Trod enc Tryz.prog w base spare held 25 v d p) :
    ∃ b : List Int, v = .agg (dgC b) ∧ b.length = 16 ∧ Byt b := by
  have hv2 := hv
  unfold Value.okWide at hv2
  rw [Tryz.underlying25] at hv2
  simp only [] at hv2
  obtain ⟨cs, rfl, _⟩ := hv2
  obtain ⟨fuel, hf⟩ := h
  obtain ⟨b, e, h1, h2⟩ := dg_of_trod Tryz.underlying25 (by kernel_rfl) hf
  exact ⟨b, by rw [show cs = dgC b from Array.toList_inj.1 e], h1, h2⟩
set_option maxRecDepth 100000 in
theorem open_spanI {r : Reach} {b0 : Nat} {v : Value} {d : DataW H} {p : List MemPlace} (hv : Value.okWide Tryz.prog w r b0 113 v) (h : DataW.Trod enc Tryz.prog w base spare held 113 v d p) :
    ∃ a b : Int, v = .agg #[.int .i64 a, .int .i64 b] := by
  obtain ⟨c0, c1, y0, y1, m, rfl, _, _, hy0, hy1⟩ := open_agg2 Tryz.underlying113 (by kernel_rfl) (by kernel_rfl) hv h
  obtain ⟨a, e0, _, wa⟩ := DataW.trod_int Tryz.underlying3 hy0
  obtain ⟨b, e1, _, wb⟩ := DataW.trod_int Tryz.underlying3 hy1
  simp at e0 e1
  subst e0 e1
  exact ⟨a, b, rfl⟩
end
end Go.Proofs.YtpfhmcdcmepfdaaGreatDoor


set_option linter.unusedVariables false
set_option linter.unusedSimpArgs false
namespace Go.Proofs.YtpfhmcdcmepfdaaGreatDoor
open Go.ChangeShapes Go.WideShapes Go.ChangeAt Go.RowKit Go.Joins Go.Deep
open Go.Proofs

section
variable {H : Type} {enc : TypeId × Value → H} {w : World} {base : Nat} {spare : Nat → Bool} {held : Bool}
set_option maxRecDepth 100000 in
theorem open_stampO {r : Reach} {b0 : Nat} {v : Value} {d : DataW H} {p : List MemPlace} (hv : Value.okWide Tryz.prog w r b0 32 v) (h : DataW.Trod enc Tryz.prog w base spare held 32 v d p) :
    ∃ s : St, v = .agg (stmC s) ∧ s.body.length = 16 ∧ Byt s.body ∧ s.addr.size ≤ maxLen ∧ s.var.size ≤ maxLen ∧ s.tags.size ≤ maxLen ∧ s.seal_.length = 16 ∧ Byt s.seal_ := by
  obtain ⟨cs, rfl, hsz⟩ := okWide_struct Tryz.underlying32 hv
  obtain ⟨fuel, hf⟩ := h
  obtain ⟨s, e0, l1, l2, l3, l4, l5, l6, l7⟩ := stm_of_trod hf
  have hcs : cs = stmC s := by
    apply Array.toList_inj.1
    exact e0
  exact ⟨s, by rw [hcs], l1, l2, l3, l4, l5, l6, l7⟩
theorem fau_of_trod {m : Nat} {L : List Value} {x : DataW H × List MemPlace} (h : DataW.trod enc Tryz.prog w base spare held m 118 L = some x) : ∃ v : Fau, L = fauL v ∧ True := by
  obtain ⟨xs, n, _, _, hlen, hxl, hg⟩ := DataW.trod_struct Tryz.underlying118 h
  have hC : Tryz.prog.cellsOf 118 = 4 := by kernel_rfl
  have ci : Tryz.prog.cellsOf 3 = 1 := by kernel_rfl
  rw [hC] at hlen
  have hx9 : xs.length = 4 := hxl
  have g0 := hg 0 _ rfl
  have g1 := hg 1 _ rfl
  have g2 := hg 2 _ rfl
  have g3 := hg 3 _ rfl
  simp only [List.getElem_toArray, List.getElem_cons_succ, List.getElem_cons_zero, ci] at g0 g1 g2 g3
  rw [List.getElem?_eq_getElem (by omega)] at g0 g1 g2 g3
  obtain ⟨n0, e0, _, _⟩ := DataW.trod_int Tryz.underlying3 g0
  obtain ⟨n1, e1, _, _⟩ := DataW.trod_int Tryz.underlying3 g1
  obtain ⟨n2, e2, _, _⟩ := DataW.trod_int Tryz.underlying3 g2
  obtain ⟨n3, e3, _, _⟩ := DataW.trod_int Tryz.underlying3 g3
  refine ⟨⟨n0, n1, n2, n3⟩, ?_, trivial⟩
  have e : L = L.drop 0 := rfl
  rw [e, seg e0, seg e1, seg e2, seg e3, List.drop_eq_nil_of_le (show L.length ≤ 3 + 1 by omega)]
  rfl
set_option maxRecDepth 100000 in
theorem open_faults {r : Reach} {b0 : Nat} {v : Value} {d : DataW H} {p : List MemPlace} (hv : Value.okWide Tryz.prog w r b0 119 v) (h : DataW.Trod enc Tryz.prog w 0 (fun _ => true) held 119 v d p) :
    ∃ (A : Option Addr) (c : Nat) (l : List Fau), v = .slice A l.length c ∧ l.length ≤ c ∧ c ≤ maxLen ∧ ReadsFau w w.heap.size A l := by
  unfold Value.okWide at hv
  rw [Tryz.underlying119] at hv
  simp only [] at hv
  obtain ⟨fuel, hf⟩ := h
  cases v with
  | slice A n c =>
    obtain ⟨A', c', l, e, h1, h2, h3, _, _⟩ := slice_of_trod fauE noFau (fun _ => True) Tryz.underlying119 (by kernel_rfl) (by omega) (fun h => fau_of_trod h) hf
    injection e with e1 e2 e3
    subst e1 e2 e3
    exact ⟨A, c, l, rfl, h1, h2, h3⟩
  | _ =>
    exfalso
    unfold Cell.okWide at hv
    rw [Tryz.underlying119] at hv
    simp only [] at hv
    unfold Cell.ok at hv
    rw [Tryz.underlying119] at hv
    simp at hv
end
end Go.Proofs.YtpfhmcdcmepfdaaGreatDoor
