/- Whole rows of cells as terms that the walk sees through: loads and stores of great arrays and structs, not opened cell by cell. -/
import Derived.Deep.MidRow
import Derived.Test.YtpjacgcaibaggaaGreatDoorExt
set_option linter.unusedVariables false
set_option linter.unusedSimpArgs false
namespace Go.Proofs.YtpjacgcaibaggaaGreatDoor
open Go.RowKit

/-- The n cells of an array from place o on. -/
def rowSub (cs : Array Value) (o n : Nat) : Option (Array Value) := if o + n ≤ cs.size then some (cs.extract o (o + n)) else none
theorem rowSub_all (cs : Array Value) (n : Nat) (h : n = cs.size) : rowSub cs 0 n = some cs := by
  subst h
  simp [rowSub]
theorem rowSub_get {cs ds : Array Value} {o n : Nat} (h : rowSub cs o n = some ds) {i : Nat} (hi : i < n) : cs[o + i]? = ds[i]? := by
  unfold rowSub at h
  split at h
  · injection h with h
    subst h
    rw [Array.getElem?_extract]
    simp
    omega
  · cases h
theorem rowSub_size {cs ds : Array Value} {o n : Nat} (h : rowSub cs o n = some ds) : ds.size = n := by
  unfold rowSub at h
  split at h
  · injection h with h
    subst h
    simp
    omega
  · cases h

/-- The n cells of block b from place o on, if all are there. -/
def rowOf (w : World) (b o n : Nat) : Option (Array Value) :=
  if ∀ i, i < n → (w.cell? ⟨b, o + i, none⟩).isSome = true then some (Array.ofFn (n := n) fun i => (w.cell? ⟨b, o + i.val, none⟩).getD undef) else none

theorem rowOf_some {w : World} {b o n : Nat} {cs : Array Value} (hs : cs.size = n) (h : ∀ i, i < n → w.cell? ⟨b, o + i, none⟩ = cs[i]?) : rowOf w b o n = some cs := by
  subst hs
  have h1 : ∀ i, i < cs.size → (w.cell? ⟨b, o + i, none⟩).isSome = true := fun i hi => by rw [h i hi]; simp [hi]
  rw [rowOf, if_pos h1]
  congr 1
  apply Array.ext (by simp)
  intro i h2 h3
  simp [h i h3, h3]
theorem rowOf_size {w : World} {b o n : Nat} {cs : Array Value} (h : rowOf w b o n = some cs) : cs.size = n := by
  unfold rowOf at h
  split at h
  · injection h with h; subst h; simp
  · cases h
theorem rowOf_cell {w : World} {b o n : Nat} {cs : Array Value} (h : rowOf w b o n = some cs) {i : Nat} (hi : i < n) : w.cell? ⟨b, o + i, none⟩ = cs[i]? := by
  unfold rowOf at h
  split at h
  · rename_i h1
    injection h with h
    subst h
    have := h1 i hi
    obtain ⟨v, hv⟩ := Option.isSome_iff_exists.1 this
    simp [hi, hv]
  · cases h
theorem rowOf_range {w : World} {b o n : Nat} {cs : Array Value} (h : rowOf w b o n = some cs) : w.rangeAt b o cs.toList := fun j v hv => by
  have hj : j < cs.size := by
    have := (List.getElem?_eq_some_iff.1 hv).1
    simpa using this
  rw [rowOf_cell h (by rw [← rowOf_size h]; exact hj)]
  simpa using hv
/-- Two worlds with the same cells there. -/
theorem rowOf_congr {w w' : World} {b b' o n : Nat} (h : ∀ i, i < n → w'.cell? ⟨b', o + i, none⟩ = w.cell? ⟨b, o + i, none⟩) : rowOf w' b' o n = rowOf w b o n := by
  unfold rowOf
  have e : (∀ i, i < n → (w'.cell? ⟨b', o + i, none⟩).isSome = true) = (∀ i, i < n → (w.cell? ⟨b, o + i, none⟩).isSome = true) := by
    apply propext
    constructor
    · intro k i hi; rw [← h i hi]; exact k i hi
    · intro k i hi; rw [h i hi]; exact k i hi
  simp only [e]
  congr 2
  apply Array.ext (by simp)
  intro i h2 h3
  have : i < n := by simpa using h2
  simp [h i this]
/-- A block known whole. -/
theorem rowOf_of_cells {w : World} {b : Nat} {cs : Array Value} (h : ∀ i, w.cell? ⟨b, i, none⟩ = cs[i]?) (o n : Nat) : rowOf w b o n = if n = 0 then some #[] else rowSub cs o n := by
  by_cases h0 : n = 0
  · subst h0
    rw [if_pos rfl]
    exact rowOf_some rfl fun i hi => absurd hi (Nat.not_lt_zero _)
  rw [if_neg h0]
  by_cases hle : o + n ≤ cs.size
  · obtain ⟨ds, hd⟩ : ∃ ds, rowSub cs o n = some ds := ⟨_, if_pos hle⟩
    rw [hd]
    exact rowOf_some (rowSub_size hd) fun i hi => by rw [h, rowSub_get hd hi]
  · rw [rowSub, if_neg hle, rowOf, if_neg]
    intro k
    have := k (n - 1) (by omega)
    rw [h, Array.getElem?_eq_none (by omega)] at this
    cases this

/-! The rules. -/
def lostRow (w : World) (b o n : Nat) : Option (Array Value) := rowOf w b o n
theorem rowOf_later (w : World) (x : Later) (b o n : Nat) : rowOf (later w x) b o n = if b < w.heap.size then rowOf w b o n else lostRow (later w x) b o n := by
  by_cases h : b < w.heap.size
  · rw [if_pos h]; exact rowOf_congr fun i _ => later_cell w x b (o + i) h
  · rw [if_neg h]; rfl
theorem rowOf_alloc (w : World) (c : Array Value) (t : TypeId) (b o n : Nat) : rowOf (w.alloc (.cells c t)) b o n = if b = w.heap.size then (if n = 0 then some #[] else rowSub c o n) else rowOf w b o n := by
  by_cases h : b = w.heap.size
  · subst h
    rw [if_pos rfl]
    exact rowOf_of_cells (fun i => by rw [alloc_cell_if, if_pos rfl]) o n
  · rw [if_neg h]
    exact rowOf_congr fun i _ => by rw [alloc_cell_if, if_neg h]
theorem rowOf_drew (w : World) (b o n : Nat) : rowOf w.drew b o n = rowOf w b o n := rowOf_congr fun _ _ => rfl
theorem rowOf_set (w : World) (m i b o n : Nat) (v : Value) : rowOf (w.setCell ⟨m, i, none⟩ v) b o n = if m = b ∧ o ≤ i ∧ i < o + n then (rowOf w b o n).map (fun c => c.setIfInBounds (i - o) v) else rowOf w b o n := by
  by_cases h : m = b ∧ o ≤ i ∧ i < o + n
  · rw [if_pos h]
    obtain ⟨rfl, h1, h2⟩ := h
    cases hr : rowOf w m o n with
    | none =>
      rw [Option.map_none]
      unfold rowOf at hr ⊢
      split at hr
      · cases hr
      · rename_i hn
        rw [if_neg]
        intro k
        apply hn
        intro j hj
        have := k j hj
        rw [set_cell_if] at this
        split at this <;> simpa using this
    | some c =>
      have hs := rowOf_size hr
      rw [Option.map_some]
      refine rowOf_some (by simp [hs]) fun j hj => ?_
      rw [set_cell_if, rowOf_cell hr hj, Array.getElem?_setIfInBounds]
      by_cases e : i = o + j
      · subst e
        simp [hs, hj]
      · rw [if_neg (fun k => e k.2), if_neg (fun k => e (by omega))]
  · rw [if_neg h]
    exact rowOf_congr fun j hj => by rw [set_cell_if, if_neg (fun k => h ⟨k.1, by omega, by omega⟩)]

/-- A row laid over the cells of block b from place o on. -/
theorem setCells_cell_if (w : World) (b o : Nat) (vs : List Value) (m j : Nat) : (w.setCells b o vs).cell? ⟨m, j, none⟩ = if m = b ∧ o ≤ j ∧ j < o + vs.length then (w.cell? ⟨m, j, none⟩).map (fun _ => vs.getD (j - o) undef) else w.cell? ⟨m, j, none⟩ := by
  induction vs generalizing o w with
  | nil => simp [World.setCells]; intro _ _ _; omega
  | cons v r ih =>
    rw [World.setCells, ih, set_cell_if]
    by_cases h : m = b ∧ o ≤ j ∧ j < o + (v :: r).length
    · obtain ⟨rfl, h1, h2⟩ := h
      simp only [List.length_cons] at h2
      by_cases e : o = j
      · subst e
        rw [if_neg (by omega), if_pos ⟨rfl, rfl⟩, if_pos ⟨rfl, by omega, by simp⟩]
        simp
      · rw [if_pos ⟨rfl, by omega, by omega⟩, if_neg (fun k => e k.2), if_pos ⟨rfl, by omega, by simp; omega⟩]
        congr 1
        funext _
        obtain ⟨k, rfl⟩ := Nat.exists_eq_add_of_lt (show o < j by omega)
        rw [show o + k + 1 - (o + 1) = k by omega, show o + k + 1 - o = k + 1 by omega]
        simp
    · have h' : ¬ (m = b ∧ o ≤ j ∧ j < o + r.length + 1) := by simpa [Nat.add_assoc] using h
      rw [if_neg (fun k => h' ⟨k.1, by omega, by omega⟩), if_neg (fun k => h' ⟨k.1.symm, by omega, by omega⟩), if_neg h]
theorem setCells_frozen (w : World) (b o : Nat) (vs : List Value) (a : Addr) : (w.setCells b o vs).frozen? a = w.frozen? a := World.frozen?_setCells b vs o w a
theorem setCells_size (w : World) (b o : Nat) (vs : List Value) : (w.setCells b o vs).heap.size = w.heap.size := by
  induction vs generalizing o w with
  | nil => rfl
  | cons v r ih => rw [World.setCells, ih]; simp [World.setCell]
theorem Ext.setCells {a w : World} (h : Ext a w) {b : Nat} (hb : a.heap.size ≤ b) (o : Nat) (vs : List Value) : Ext a (w.setCells b o vs) := by
  induction vs generalizing o w with
  | nil => exact h
  | cons v r ih => exact ih (h.setCell (p := ⟨b, o, none⟩) hb v) (o + 1)
theorem rowOf_setCells (w : World) (m i b o n : Nat) (vs : List Value) : rowOf (w.setCells m i vs) b o n =
    if m = b ∧ i = o ∧ vs.length = n then (rowOf w b o n).map (fun _ => vs.toArray) else if m = b ∧ i < o + n ∧ o < i + vs.length then lostRow (w.setCells m i vs) b o n else rowOf w b o n := by
  by_cases h : m = b ∧ i = o ∧ vs.length = n
  · rw [if_pos h]
    obtain ⟨rfl, rfl, rfl⟩ := h
    cases hr : rowOf w m i vs.length with
    | none =>
      rw [Option.map_none]
      unfold rowOf at hr ⊢
      split at hr
      · cases hr
      · rename_i hn
        rw [if_neg]
        intro k
        apply hn
        intro j hj
        have := k j hj
        rw [setCells_cell_if] at this
        split at this <;> simpa using this
    | some c =>
      rw [Option.map_some]
      refine rowOf_some (by simp) fun j hj => ?_
      have hc := rowOf_cell hr hj
      have hs := rowOf_size hr
      rw [setCells_cell_if, if_pos ⟨rfl, by omega, by omega⟩, hc, show i + j - i = j by omega]
      simp [hs, hj]
  · rw [if_neg h]
    by_cases h' : m = b ∧ i < o + n ∧ o < i + vs.length
    · rw [if_pos h']; rfl
    · rw [if_neg h']
      exact rowOf_congr fun j hj => by rw [setCells_cell_if, if_neg (fun k => h' ⟨k.1.symm, by omega, by omega⟩)]

/-- n cells are there, and may be written. -/
def roomOf (w : World) (b o n : Nat) : Bool := decide (∀ i, i < n → (w.cell? ⟨b, o + i, none⟩).isSome = true ∧ w.frozen? ⟨b, o + i, none⟩ = false)
theorem roomOf_congr {w w' : World} {b o n : Nat} (h : ∀ i, i < n → (w'.cell? ⟨b, o + i, none⟩).isSome = (w.cell? ⟨b, o + i, none⟩).isSome) (k : ∀ i, i < n → w'.frozen? ⟨b, o + i, none⟩ = w.frozen? ⟨b, o + i, none⟩) : roomOf w' b o n = roomOf w b o n := by
  unfold roomOf
  congr 1
  apply propext
  constructor
  · intro q i hi; rw [← h i hi, ← k i hi]; exact q i hi
  · intro q i hi; rw [h i hi, k i hi]; exact q i hi
theorem roomOf_of_cells {w : World} {b : Nat} {cs : Array Value} (h : ∀ i, w.cell? ⟨b, i, none⟩ = cs[i]?) (hf : ∀ i, w.frozen? ⟨b, i, none⟩ = false) (o n : Nat) : roomOf w b o n = decide (n = 0 ∨ o + n ≤ cs.size) := by
  unfold roomOf
  congr 1
  apply propext
  constructor
  · intro q
    by_cases h0 : n = 0
    · exact .inl h0
    · have := (q (n - 1) (by omega)).1
      rw [h] at this
      right
      by_cases hle : o + n ≤ cs.size
      · exact hle
      · rw [Array.getElem?_eq_none (by omega)] at this
        cases this
  · rintro (rfl | hle) i hi
    · exact absurd hi (Nat.not_lt_zero _)
    · refine ⟨?_, hf _⟩
      rw [h, Array.getElem?_eq_getElem (by omega)]
      rfl
def lostRoom (w : World) (b o n : Nat) : Bool := roomOf w b o n
theorem roomOf_later (w : World) (x : Later) (b o n : Nat) : roomOf (later w x) b o n = if b < w.heap.size then roomOf w b o n else lostRoom (later w x) b o n := by
  by_cases h : b < w.heap.size
  · rw [if_pos h]; exact roomOf_congr (fun i _ => by rw [later_cell w x b (o + i) h]) (fun i _ => later_frozen w x b (o + i) h)
  · rw [if_neg h]; rfl
theorem roomOf_alloc (w : World) (c : Array Value) (t : TypeId) (b o n : Nat) : roomOf (w.alloc (.cells c t)) b o n = if b = w.heap.size then decide (n = 0 ∨ o + n ≤ c.size) else roomOf w b o n := by
  by_cases h : b = w.heap.size
  · subst h
    rw [if_pos rfl]
    exact roomOf_of_cells (fun i => by rw [alloc_cell_if, if_pos rfl]) (fun i => by rw [alloc_frozen_if, if_pos rfl]) o n
  · rw [if_neg h]
    exact roomOf_congr (fun i _ => by rw [alloc_cell_if, if_neg h]) (fun i _ => by rw [alloc_frozen_if, if_neg h])
theorem roomOf_drew (w : World) (b o n : Nat) : roomOf w.drew b o n = roomOf w b o n := roomOf_congr (fun _ _ => rfl) (fun _ _ => rfl)
theorem roomOf_set (w : World) (m i b o n : Nat) (v : Value) : roomOf (w.setCell ⟨m, i, none⟩ v) b o n = roomOf w b o n :=
  roomOf_congr (fun j _ => by rw [set_cell_if]; split <;> simp) (fun j _ => World.frozen?_setCell ..)
theorem roomOf_setCells (w : World) (m i b o n : Nat) (vs : List Value) : roomOf (w.setCells m i vs) b o n = roomOf w b o n :=
  roomOf_congr (fun j _ => by rw [setCells_cell_if]; split <;> simp) (fun j _ => setCells_frozen ..)

/-! ### The operations -/
/-- A type whose values are rows of n cells. -/
def RowTy (P : Program) (ty : TypeId) (n : Nat) : Prop := (P.underlying ty).any (·.isRow) = true ∧ (P.info? ty).map (·.size) = some n
def rowLoad (ty : TypeId) (n : Nat) (v : Value) : Sem Next := do pure (.value (← Instr.loadAt ty v))
def rowRaw (P : Program) (w : World) (ty : TypeId) (n b o : Nat) : Result Next := (rowLoad ty n (.pointer (some ⟨b, o, none⟩))).run P w
def rowLoadR (P : Program) (w : World) (ty : TypeId) (n b o : Nat) : Option (Array Value) → Result Next
  | some cs => .ok (.value (.agg cs)) w
  | none => rowRaw P w ty n b o
theorem rowLoadR_some (P : Program) (w : World) (ty : TypeId) (n b o : Nat) (cs : Array Value) : rowLoadR P w ty n b o (some cs) = .ok (.value (.agg cs)) w := rfl
theorem run_loadVar_row {P : Program} {ty : TypeId} {n : Nat} (h : RowTy P ty n) {w : World} {b o : Nat} {cs : Array Value} (hr : rowOf w b o n = some cs) :
    (loadVar ty ⟨b, o, none⟩).run P w = .ok (.agg cs) w := by
  obtain ⟨h1, h2⟩ := h
  cases hu : P.underlying ty with
  | none => simp [hu] at h1
  | some d =>
    rw [hu] at h1
    have := run_loadVar_mid (P := P) w b o ty cs.toList d (rowOf_range hr) hu (by simpa using h1) (by rw [h2]; simp [rowOf_size hr])
    simpa using this
theorem run_rowLoad {P : Program} {ty : TypeId} {n : Nat} (h : RowTy P ty n) (w : World) (b o : Nat) :
    (rowLoad ty n (.pointer (some ⟨b, o, none⟩))).run P w = rowLoadR P w ty n b o (rowOf w b o n) := by
  cases hr : rowOf w b o n with
  | none => rfl
  | some cs =>
    have := run_loadVar_row h hr
    simp only [rowLoad, Instr.loadAt, Instr.sureAddr, Sem.run_bind, Sem.run_pure, Result.andThen_ok, this, rowLoadR]
theorem execOp_rowLoad (ty : TypeId) (n : Nat) (ρ : Operand → Value) (dst : Option Tmp) (x : Operand) (t : TypeId) (pos : String) (after : Array Edge) (guard : Option (Nat × Bool)) :
    execOp ρ { dst, op := .load ty x, type := t, pos, after, guard } = rowLoad ty n (ρ x) := rfl
/-- What loadVar gives of such a row, at a function's end. -/
def varRes (P : Program) (w : World) (ty : TypeId) (b o : Nat) : Option (Array Value) → Result Value
  | some cs => .ok (.agg cs) w
  | none => (loadVar ty ⟨b, o, none⟩).run P w
theorem varRes_some (P : Program) (w : World) (ty : TypeId) (b o : Nat) (cs : Array Value) : varRes P w ty b o (some cs) = .ok (.agg cs) w := rfl
theorem loadVar_row {P : Program} {ty : TypeId} {n : Nat} (h : RowTy P ty n) (w : World) (b o : Nat) : (loadVar ty ⟨b, o, none⟩).run P w = varRes P w ty b o (rowOf w b o n) := by
  cases hr : rowOf w b o n with
  | none => rfl
  | some cs => exact run_loadVar_row h hr

/-- Cells as a row of n cells has them. -/
def fitsRow (n : Nat) (cells : Array Value) : Bool := cells.size == n && cells.all (·.oneCell')
def rowStore (ty : TypeId) (n : Nat) (v x : Value) : Sem Next := do Instr.storeAt ty v x; pure .skip
def rowStoreRaw (P : Program) (w : World) (ty : TypeId) (n b o : Nat) (cells : Array Value) : Result Next := (rowStore ty n (.pointer (some ⟨b, o, none⟩)) (.agg cells)).run P w
def rowStoreR (P : Program) (w : World) (ty : TypeId) (n b o : Nat) (cells : Array Value) : Bool → Result Next
  | true => .ok .skip (w.setCells b o cells.toList)
  | false => rowStoreRaw P w ty n b o cells
theorem rowStoreR_true (P : Program) (w : World) (ty : TypeId) (n b o : Nat) (cells : Array Value) : rowStoreR P w ty n b o cells true = .ok .skip (w.setCells b o cells.toList) := rfl
theorem run_rowStore {P : Program} {ty : TypeId} {n : Nat} (h : RowTy P ty n) (w : World) (b o : Nat) (cells : Array Value) :
    (rowStore ty n (.pointer (some ⟨b, o, none⟩)) (.agg cells)).run P w = rowStoreR P w ty n b o cells (roomOf w b o n && fitsRow n cells) := by
  cases hr : roomOf w b o n && fitsRow n cells with
  | false => rfl
  | true =>
    rw [Bool.and_eq_true] at hr
    obtain ⟨h1, h2⟩ := hr
    unfold fitsRow at h2
    rw [Bool.and_eq_true] at h2
    obtain ⟨h2, h3⟩ := h2
    have hs : cells.size = n := by simpa using h2
    have ht : w.there b o cells.size := by
      rw [hs]
      unfold roomOf at h1
      simp only [decide_eq_true_eq] at h1
      exact h1
    have := run_storeVar_mid (P := P) w b o ty cells ht (by rw [h.2, hs]) h3
    simp only [rowStore, Instr.storeAt, Instr.sureAddr, Sem.run_bind, Sem.run_pure, Result.andThen_ok, this, rowStoreR]
theorem execOp_rowStore (ty : TypeId) (n : Nat) (ρ : Operand → Value) (dst : Option Tmp) (x y : Operand) (t : TypeId) (pos : String) (after : Array Edge) (guard : Option (Nat × Bool)) :
    execOp ρ { dst, op := .store ty x y, type := t, pos, after, guard } = rowStore ty n (ρ x) (ρ y) := rfl

/-- A new variable of such a type, with its zero value. -/
def rowAlloc (ty : TypeId) : Sem Next := do pure (.value (← Instr.alloc ty true (.tuple #[])))
theorem execOp_rowAlloc (ty : TypeId) (ρ : Operand → Value) (dst : Option Tmp) (t : TypeId) (pos : String) (after : Array Edge) (guard : Option (Nat × Bool)) :
    execOp ρ { dst, op := .alloc ty, type := t, pos, after, guard } = rowAlloc ty := rfl
theorem run_rowAlloc {P : Program} {ty : TypeId} {z : Array Value} (h : (P.info? ty).bind (·.zero) = some (.agg z)) (w : World) :
    (rowAlloc ty).run P w = .ok (.value (.pointer (some ⟨w.heap.size, 0, none⟩))) (w.alloc (.cells z ty)) := by
  cases hq : P.info? ty with
  | none => simp [hq] at h
  | some i =>
    have hz : i.zero = some (.agg z) := by simpa [hq] using h
    simp [rowAlloc, Instr.alloc, zeroValue, typeInfo, hq, hz, newVar, newRow, Value.cells, go_sem]

attribute [go_sem] roomOf_later roomOf_alloc roomOf_drew roomOf_set roomOf_setCells
attribute [go_sem] rowOf_later rowOf_alloc rowOf_drew rowOf_set rowOf_setCells setCells_cell_if setCells_frozen setCells_size
attribute [go_sem] rowLoadR_some rowStoreR_true varRes_some

/-- What one result of a function is at its end. -/
def ResIs (P : Program) (w : World) (tmps : Array Value) (v : Value) : ResultVar → Prop
  | .tmp t => tmps[t]?.getD undef = v
  | .cell a ty => ∃ ad, tmps[a]?.getD undef = .pointer (some ad) ∧ (loadVar ty ad).run P w = .ok v w
theorem post_one {P : Program} {fn : Func} {R : Ending → World → Prop} {a : Act} {w : World} {r : ResultVar} {v : Value} (h : fn.results = #[r]) (hd : a.defers = []) (h1 : ResIs P w a.tmps v r) (hR : R (.returned v) w) : bodyPost P fn R .ret a w := by
  refine bodyPost_ret (v := v) ?_ hd hR

  cases r with
  | tmp t => simp only [ResIs] at h1; simp [results, h, h1]
  | cell ad ty =>
    obtain ⟨ad, k1, k2⟩ := h1
    simp [results, h, k1, asAddr, k2]
theorem post_two {P : Program} {fn : Func} {R : Ending → World → Prop} {a : Act} {w : World} {r1 r2 : ResultVar} {v1 v2 : Value} (h : fn.results = #[r1, r2]) (hd : a.defers = []) (h1 : ResIs P w a.tmps v1 r1) (h2 : ResIs P w a.tmps v2 r2) (hR : R (.returned (.tuple #[v1, v2])) w) : bodyPost P fn R .ret a w := by
  refine bodyPost_ret (v := .tuple #[v1, v2]) ?_ hd hR
  cases r1 with
  | tmp t1 =>
    simp only [ResIs] at h1
    cases r2 with
    | tmp t2 => simp only [ResIs] at h2; simp [results, h, h1, h2]
    | cell a2 ty2 =>
      obtain ⟨ad2, k3, k4⟩ := h2
      simp [results, h, h1, k3, asAddr, k4]
  | cell a1 ty1 =>
    obtain ⟨ad1, k1, k2⟩ := h1
    cases r2 with
    | tmp t2 => simp only [ResIs] at h2; simp [results, h, h2, k1, asAddr, k2]
    | cell a2 ty2 =>
      obtain ⟨ad2, k3, k4⟩ := h2
      simp [results, h, k1, k3, asAddr, k2, k4]
/-- At the end of a function whose result lies in such a row. -/
theorem post_row {P : Program} {fn : Func} {R : Ending → World → Prop} {a : Act} {w : World} {t : Tmp} {ty : TypeId} {n b : Nat} {cs : Array Value} (hty : RowTy P ty n) (h : fn.results = #[.cell t ty])
    (hp : a.tmps[t]?.getD undef = .pointer (some ⟨b, 0, none⟩)) (hd : a.defers = []) (hr : rowOf w b 0 n = some cs) (hR : R (.returned (.agg cs)) w) : bodyPost P fn R .ret a w :=
  post_one h hd ⟨_, hp, run_loadVar_row hty hr⟩ hR

def arrRaw (P : Program) (ty : TypeId) (w : World) (a : Option Addr) (len cap : Nat) : Result Value := (Instr.arrayAt ty (.slice a len cap)).run P w
theorem arr_at {P : Program} {ty e : TypeId} {n : Nat} (h : P.underlying ty = some (.array n e)) (w : World) (a : Option Addr) (len cap : Nat) : (Instr.arrayAt ty (.slice a len cap)).run P w = if n ≤ len then .ok (.pointer a) w else arrRaw P ty w a len cap := by
  by_cases hn : n ≤ len
  · rw [if_pos hn]
    simp [Instr.arrayAt, run_underlying h, Nat.not_lt.2 hn]
  · rw [if_neg hn]; rfl

/-- A cut around a statement: what it leaves, told by the frame that it got. -/
theorem wp_cut_at {P : Program} {s : Code} {K : Act → World → Prop} {Q' : Exit → Act → World → Prop} {a : Act} {w : World} (R : Act → Act → World → Prop)
    (first : ∀ J : Act → World → Prop, (∀ a' w', R a a' w' → J a' w') → s.wp P (Exit.then J Q') a w) (rest : ∀ a' w', R a a' w' → K a' w') : s.wp P (Exit.then K Q') a w := by
  refine Code.wp_mono ?_ (first (R a) (fun _ _ q => q))
  intro e a' w' hq
  cases e with
  | normal => exact rest _ _ hq
  | exit id => exact hq
  | goto l => exact hq
  | ret => exact hq
  | panic ch => exact hq
  | outgrown => exact hq

/-- An element of an array that is a value. -/
theorem run_index_arr {P : Program} {ty e : TypeId} {n : Nat} {k : IntKind} (hu : P.underlying ty = some (.array n e)) (he : P.underlying e = some (.int k)) (hs : (P.info? e).map (·.size) = some 1) (cs : Array Value) (i : Nat) (v : Value) (hi : i < n) (hv : cs[i]? = some v) (W : World) :
    (Instr.index ty (.agg cs) (.int .i64 (i : Int))).run P W = .ok v W := by
  have h1 : ((0 : Int) ≤ (i : Int) ∧ (i : Int) < (n : Int)) := by omega
  cases hq : P.info? e with
  | none => simp [hq] at hs
  | some x =>
    have hs' : x.size = 1 := by simpa [hq] using hs
    simp [Instr.index, asIntOf, run_underlying hu, part, isAgg, run_underlying he, sizeOf, typeInfo, hq, hs', hv, hi]
/-- The world under a new name, of which only R is known. -/
theorem wp_world {P : Program} {c : Code} {Q : Exit → Act → World → Prop} {a : Act} {w : World} (R : World → Prop) (h : R w) (k : ∀ W, R W → c.wp P Q a W) : c.wp P Q a w := k w h

/-! ### Blocks known whole -/
/-- Block b is a row of these cells, which may be written. -/
def RowAt (w : World) (b : Nat) (cs : Array Value) : Prop := ∃ t, w.heap[b]? = some (.cells cs t (0, 0))
theorem RowAt.lt {w : World} {b : Nat} {cs : Array Value} (h : RowAt w b cs) : b < w.heap.size := by
  obtain ⟨t, h⟩ := h
  exact (Array.getElem?_eq_some_iff.1 h).1
theorem RowAt.cell {w : World} {b : Nat} {cs : Array Value} (h : RowAt w b cs) (i : Nat) : w.cell? ⟨b, i, none⟩ = cs[i]? := by
  obtain ⟨t, h⟩ := h
  simp [World.cell?, h]
theorem RowAt.free {w : World} {b : Nat} {cs : Array Value} (h : RowAt w b cs) (i : Nat) : w.frozen? ⟨b, i, none⟩ = false := by
  obtain ⟨t, h⟩ := h
  simp [World.frozen?, h]
theorem RowAt.row {w : World} {b : Nat} {cs : Array Value} (h : RowAt w b cs) (o n : Nat) : rowOf w b o n = if n = 0 then some #[] else rowSub cs o n := rowOf_of_cells h.cell o n
theorem RowAt.all {w : World} {b n : Nat} {cs : Array Value} (h : RowAt w b cs) (hn : n = cs.size) (h0 : 0 < n) : rowOf w b 0 n = some cs := by
  rw [h.row, if_neg (by omega), rowSub_all _ _ hn]
theorem RowAt.room {w : World} {b : Nat} {cs : Array Value} (h : RowAt w b cs) (o n : Nat) : roomOf w b o n = decide (n = 0 ∨ o + n ≤ cs.size) := roomOf_of_cells h.cell h.free o n
theorem RowAt.ext {w w' : World} {b : Nat} {cs : Array Value} (h : RowAt w b cs) (hx : Ext w w') : RowAt w' b cs := by
  obtain ⟨t, k⟩ := h
  exact ⟨t, (hx.below.block b (Array.getElem?_eq_some_iff.1 k).1).trans k⟩
theorem RowAt.set {w : World} {b : Nat} {cs : Array Value} (h : RowAt w b cs) (i : Nat) (v : Value) : RowAt (w.setCell ⟨b, i, none⟩ v) b (cs.setIfInBounds i v) := by
  obtain ⟨t, k⟩ := h
  exact ⟨t, heap_setCell_same w b i cs t v k⟩
theorem RowAt.other {w : World} {b : Nat} {cs : Array Value} (h : RowAt w b cs) {p : Addr} (hp : b ≠ p.block) (v : Value) : RowAt (w.setCell p v) b cs := by
  obtain ⟨t, k⟩ := h
  exact ⟨t, (heap_setCell_other w p b v hp).trans k⟩
theorem RowAt.new (w : World) (cs : Array Value) (t : TypeId) : RowAt (w.alloc (.cells cs t)) w.heap.size cs := ⟨t, heap_alloc_new w _⟩
theorem RowAt.newAt {w : World} {cs : Array Value} {t : TypeId} {b : Nat} (h : b = w.heap.size) : RowAt (w.alloc (.cells cs t)) b cs := by subst h; exact RowAt.new w cs t
theorem RowAt.alloc {w : World} {b : Nat} {cs : Array Value} (h : RowAt w b cs) (o : Obj) : RowAt (w.alloc o) b cs := h.ext ((Ext.refl w).alloc o)
theorem RowAt.later {w : World} {b : Nat} {cs : Array Value} (h : RowAt w b cs) (x : Later) : RowAt (later w x) b cs := h.ext (ext_later w x)
theorem RowAt.drew {w : World} {b : Nat} {cs : Array Value} (h : RowAt w b cs) : RowAt w.drew b cs := h.ext ((Ext.refl w).drew)
theorem RowAt.others {w : World} {b : Nat} {cs : Array Value} (h : RowAt w b cs) {m : Nat} (hm : b ≠ m) (o : Nat) (vs : List Value) : RowAt (w.setCells m o vs) b cs := by
  induction vs generalizing o w with
  | nil => exact h
  | cons v r ih => exact ih (h.other (p := ⟨m, o, none⟩) hm v) (o + 1)
/-- Cells laid over an array. -/
def laidOver (cs : Array Value) (o : Nat) : List Value → Array Value
  | [] => cs
  | v :: r => laidOver (cs.setIfInBounds o v) (o + 1) r
theorem RowAt.sets {w : World} {b : Nat} {cs : Array Value} (h : RowAt w b cs) (o : Nat) (vs : List Value) : RowAt (w.setCells b o vs) b (laidOver cs o vs) := by
  induction vs generalizing o w cs with
  | nil => exact h
  | cons v r ih => exact ih (h.set o v) (o + 1)
theorem laidOver_eq (vs : List Value) : ∀ (cs : Array Value) (o : Nat), o + vs.length ≤ cs.size → laidOver cs o vs = (cs.toList.take o ++ vs ++ cs.toList.drop (o + vs.length)).toArray := by
  induction vs with
  | nil => intro cs o h; simp [laidOver]
  | cons v r ih =>
    intro cs o h
    simp only [List.length_cons] at h
    rw [laidOver, ih _ _ (by simp; omega)]
    congr 1
    simp only [Array.toList_setIfInBounds, List.length_cons]
    rw [List.take_set, List.drop_set, if_pos (by omega)]
    have hl : o < cs.toList.length := by simp; omega
    have e1 : (cs.toList.take (o + 1)).set o v = cs.toList.take o ++ [v] := by
      rw [List.take_succ_eq_append_getElem hl, List.set_append_right _ _ (by simp; omega)]
      simp [show o - min o cs.size = 0 by omega]
    rw [e1, show o + 1 + r.length = o + (r.length + 1) by omega]
    simp
theorem laidOver_all (vs : List Value) (cs : Array Value) (h : vs.length = cs.size) : laidOver cs 0 vs = vs.toArray := by
  rw [laidOver_eq vs cs 0 (by omega)]
  simp [h]
theorem RowAt.setAll {w : World} {b : Nat} {cs : Array Value} (h : RowAt w b cs) {vs : List Value} (hv : vs.length = cs.size) : RowAt (w.setCells b 0 vs) b vs.toArray := by
  have := h.sets 0 vs
  rwa [laidOver_all vs cs hv] at this

theorem RowAt.store {w : World} {b : Nat} {cs ds : Array Value} (h : RowAt w b cs) (hs : ds.size = cs.size) : RowAt (w.setCells b 0 ds.toList) b ds := by
  have := h.setAll (vs := ds.toList) (by simpa using hs)
  rwa [Array.toArray_toList] at this
theorem RowAt.stored {w : World} {b n : Nat} {cs ds : Array Value} (h : RowAt w b cs) (hs : ds.size = cs.size) (hn : n = ds.size) (h0 : 0 < n) : rowOf (w.setCells b 0 ds.toList) b 0 n = some ds := (h.store hs).all hn h0

theorem RowAt.lay {w : World} {b : Nat} {cs ds : Array Value} {vs : List Value} (h : RowAt w b cs) (hs : vs.length = cs.size) (e : vs.toArray = ds) : RowAt (w.setCells b 0 vs) b ds := by
  subst e
  exact h.setAll hs

/-- A list of words as cells. -/
def cells32 (l : List Int) : Array Value := (l.map fun x => Value.int .u32 x).toArray
theorem cells32_size (l : List Int) : (cells32 l).size = l.length := by simp [cells32]
theorem cells32_get (l : List Int) (i : Nat) : (cells32 l)[i]? = if i < l.length then some (.int .u32 (l.getD i 0)) else none := by
  simp only [cells32, List.getElem?_toArray, List.getElem?_map]
  by_cases h : i < l.length
  · simp [h]
  · simp [h]
theorem cells32_set (l : List Int) (i : Nat) (x : Int) : (cells32 l).setIfInBounds i (.int .u32 x) = cells32 (l.set i x) := by simp [cells32]
theorem cells32_sub (l : List Int) (n : Nat) (h : n = l.length) : rowSub (cells32 l) 0 n = some (cells32 l) := rowSub_all _ _ (by rw [cells32_size]; exact h)
theorem fits32 {l : List Int} {n : Nat} (h : l.length = n) : fitsRow n (cells32 l) = true := by
  simp [fitsRow, cells32, h, Value.oneCell']
theorem RowAt.set32 {w : World} {b : Nat} {l l' : List Int} (h : RowAt w b (cells32 l)) {i : Nat} {x : Int} (e : l.set i x = l') : RowAt (w.setCell ⟨b, i, none⟩ (.int .u32 x)) b (cells32 l') := by
  have := h.set i (.int .u32 x)
  rwa [cells32_set, e] at this
/-- A list of bytes as cells. -/
def cells8 (l : List Int) : Array Value := (l.map fun x => Value.int .u8 x).toArray
theorem cells8_size (l : List Int) : (cells8 l).size = l.length := by simp [cells8]
theorem cells8_get (l : List Int) (i : Nat) : (cells8 l)[i]? = if i < l.length then some (.int .u8 (l.getD i 0)) else none := by
  simp only [cells8, List.getElem?_toArray, List.getElem?_map]
  by_cases h : i < l.length
  · simp [h]
  · simp [h]
theorem cells8_set (l : List Int) (i : Nat) (x : Int) : (cells8 l).setIfInBounds i (.int .u8 x) = cells8 (l.set i x) := by simp [cells8]
theorem fits8 {l : List Int} {n : Nat} (h : l.length = n) : fitsRow n (cells8 l) = true := by
  simp [fitsRow, cells8, h, Value.oneCell']
theorem RowAt.set8 {w : World} {b : Nat} {l l' : List Int} (h : RowAt w b (cells8 l)) {i : Nat} {x : Int} (e : l.set i x = l') : RowAt (w.setCell ⟨b, i, none⟩ (.int .u8 x)) b (cells8 l') := by
  have := h.set i (.int .u8 x)
  rwa [cells8_set, e] at this
theorem fitsRow32 (n : Nat) (l : List Int) : fitsRow n (cells32 l) = decide (l.length = n) := by
  by_cases h : l.length = n
  · rw [fits32 h]; simp [h]
  · simp [fitsRow, cells32, h]
theorem fitsRow8 (n : Nat) (l : List Int) : fitsRow n (cells8 l) = decide (l.length = n) := by
  by_cases h : l.length = n
  · rw [fits8 h]; simp [h]
  · simp [fitsRow, cells8, h]
theorem cells8_sub (l : List Int) (n : Nat) (h : n = l.length) : rowSub (cells8 l) 0 n = some (cells8 l) := rowSub_all _ _ (by rw [cells8_size]; exact h)
attribute [go_sem] cells32_size cells8_size fitsRow32 fitsRow8 cells32_sub cells8_sub
theorem list_set_getD (l : List Int) (i : Nat) : l.set i (l.getD i 0) = l := by
  by_cases h : i < l.length
  · rw [List.getD_eq_getElem?_getD, List.getElem?_eq_getElem h, Option.getD_some, List.set_getElem_self]
  · rw [List.set_eq_of_length_le (by omega)]
theorem calls_world {P : Program} {f : FuncId} {args : Array Value} {w : World} {R : Ending → World → Prop} (G : World → Prop) (h : G w) (k : ∀ W, G W → Calls P f args W R) : Calls P f args w R := k w h
end Go.Proofs.YtpjacgcaibaggaaGreatDoor
