/- Small words: a world that has only grown ('Ext'), a later world as a term that the walk sees through ('later'), and drawn regions whose operations leave an older part of memory alone. -/
import Derived.Below
import Derived.Deep.Draws
import Derived.Deep.Quiet
import Derived.Deep.QuietTactic
import Derived.StillTail
import Derived.WalkKit
import Derived.Lib.Hide
set_option linter.unusedVariables false
set_option linter.unusedSimpArgs false
namespace Go.Proofs.YtpjacgcaibaggaaGreatDoor
open Go.RowKit

/-- Nothing that was there in w has turned in w'. -/
def Ext (w w' : World) : Prop := Below w.heap.size w w'

theorem Ext.refl (w : World) : Ext w w := Below.refl _ _
theorem Ext.below {a b : World} (h : Ext a b) : Below a.heap.size a b := h
theorem Ext.size {a b : World} (h : Ext a b) : a.heap.size ≤ b.heap.size := Below.size h
theorem Ext.trans {a b c : World} (h : Ext a b) (k : Ext b c) : Ext a c := Below.trans h (Below.mono k (Ext.size h))
theorem Ext.drew {a b : World} (h : Ext a b) : Ext a b.drew := Below.drew h
theorem Ext.drewN {a b : World} (h : Ext a b) (n : Nat) : Ext a (b.drewN n) := by
  have k : Below a.heap.size a b := h
  exact ⟨k.os, k.tape, k.output, k.size, k.block⟩
theorem Ext.alloc {a b : World} (h : Ext a b) (o : Obj) : Ext a (b.alloc o) := Below.alloc h (Ext.size h) o
theorem Ext.setCell {a b : World} (h : Ext a b) {p : Addr} (hp : a.heap.size ≤ p.block) (u : Value) : Ext a (b.setCell p u) := Below.setCell h hp u
theorem Ext.cell {a b : World} (h : Ext a b) {p : Addr} (hp : p.block < a.heap.size) : b.cell? p = a.cell? p := Below.cell h hp
theorem Ext.frozen {a b : World} (h : Ext a b) {p : Addr} (hp : p.block < a.heap.size) : b.frozen? p = a.frozen? p := Below.frozen h hp

theorem ret_bool {a b : Bool} (h : a = b) : Ending.returned (.bool a) = .returned (.bool b) := by rw [h]
theorem ret_int {k : IntKind} {a b : Int} (h : a = b) : Ending.returned (.int k a) = .returned (.int k b) := by rw [h]

/-! ### A later world, as a term -/

/-- What makes a world later: blocks are added; what is there stays. -/
structure Later where
  f : World → World
  n : Nat
  ext : ∀ w, Ext w (f w)
  size : ∀ w, (f w).heap.size = w.heap.size + n

instance laterInhabited : Inhabited Later := ⟨⟨id, 0, Ext.refl, fun _ => rfl⟩⟩

def later (w : World) (x : Later) : World := x.f w

def padded (w : World) (n : Nat) : World := { w with heap := w.heap ++ Array.replicate n (.cells #[] 0) }
theorem padded_ext (w : World) (n : Nat) : Ext w (padded w n) := by
  refine ⟨rfl, rfl, rfl, by simp [padded], fun k hk => ?_⟩
  simp only [padded]
  rw [Array.getElem?_append_left hk]

open Classical in
theorem Ext.asLater {w w' : World} (h : Ext w w') : ∃ x : Later, w' = later w x := by
  refine ⟨⟨fun v => if v = w then w' else padded v (w'.heap.size - w.heap.size), w'.heap.size - w.heap.size, fun v => ?_, fun v => ?_⟩, by simp [later]⟩
  · by_cases e : v = w
    · rw [if_pos e, e]; exact h
    · rw [if_neg e]; exact padded_ext _ _
  · have := h.size
    by_cases e : v = w
    · rw [if_pos e, e]; omega
    · rw [if_neg e]; simp [padded]

theorem ext_later (w : World) (x : Later) : Ext w (later w x) := x.ext w
theorem Ext.onto {a w : World} (h : Ext a w) (x : Later) : Ext a (later w x) := h.trans (x.ext w)

theorem later_size (w : World) (x : Later) : (later w x).heap.size = w.heap.size + x.n := x.size w
theorem later_cell (w : World) (x : Later) (n i : Nat) (hn : n < w.heap.size) : (later w x).cell? ⟨n, i, none⟩ = w.cell? ⟨n, i, none⟩ := Ext.cell (x.ext w) (p := ⟨n, i, none⟩) hn
theorem later_frozen (w : World) (x : Later) (n i : Nat) (hn : n < w.heap.size) : (later w x).frozen? ⟨n, i, none⟩ = w.frozen? ⟨n, i, none⟩ := Ext.frozen (x.ext w) (p := ⟨n, i, none⟩) hn

def Later.comp (x y : Later) : Later :=
  ⟨fun w => y.f (x.f w), x.n + y.n, fun w => Ext.trans (x.ext w) (y.ext _), fun w => by rw [y.size, x.size]; omega⟩
theorem later_later (w : World) (x y : Later) : later (later w x) y = later w (x.comp y) := rfl
theorem Later.comp_n (x y : Later) : (x.comp y).n = x.n + y.n := rfl
def Later.one : Later := ⟨fun w => w.drew, 0, fun w => Ext.drew (Ext.refl w), fun _ => rfl⟩
theorem drew_later (w : World) (x : Later) : later w.drew x = later w (Later.one.comp x) := rfl
theorem later_drew' (w : World) (x : Later) : (later w x).drew = later w (x.comp Later.one) := rfl
theorem Later.one_n : Later.one.n = 0 := rfl

theorem le_addn {a b n : Nat} (h : a ≤ b) : a ≤ b + n := by omega
theorem lt_addn {a b n : Nat} (h : a < b) : a < b + n := by omega
theorem eq_addn {a b n : Nat} (h : a < b) : (a = b + n) = False := by simp; omega
theorem addn_eq {a b n : Nat} (h : a < b) : (b + n = a) = False := by simp; omega

/-! Reading a cell, with the question which block it is laid as an 'if' (so that linear arithmetic decides it). -/
def lateCell (w : World) (x : Later) (n i : Nat) : Option Value := (later w x).cell? ⟨n, i, none⟩
def lateFrozen (w : World) (x : Later) (n i : Nat) : Bool := (later w x).frozen? ⟨n, i, none⟩
theorem later_cell_if (w : World) (x : Later) (n i : Nat) : (later w x).cell? ⟨n, i, none⟩ = if n < w.heap.size then w.cell? ⟨n, i, none⟩ else lateCell w x n i := by
  by_cases h : n < w.heap.size
  · rw [if_pos h, later_cell w x n i h]
  · rw [if_neg h]; rfl
theorem later_frozen_if (w : World) (x : Later) (n i : Nat) : (later w x).frozen? ⟨n, i, none⟩ = if n < w.heap.size then w.frozen? ⟨n, i, none⟩ else lateFrozen w x n i := by
  by_cases h : n < w.heap.size
  · rw [if_pos h, later_frozen w x n i h]
  · rw [if_neg h]; rfl
theorem alloc_cell_if (w : World) (c : Array Value) (t : TypeId) (n i : Nat) : (w.alloc (.cells c t)).cell? ⟨n, i, none⟩ = if n = w.heap.size then c[i]? else w.cell? ⟨n, i, none⟩ := by
  by_cases h : n = w.heap.size
  · rw [if_pos h]; exact World.cell?_alloc_at c t n i h
  · rw [if_neg h]; exact World.cell?_alloc_old w _ _ h
theorem alloc_frozen_if (w : World) (c : Array Value) (t : TypeId) (n i : Nat) : (w.alloc (.cells c t)).frozen? ⟨n, i, none⟩ = if n = w.heap.size then false else w.frozen? ⟨n, i, none⟩ := by
  by_cases h : n = w.heap.size
  · rw [if_pos h]; exact World.frozen?_alloc_at c t n i h
  · rw [if_neg h]; exact World.frozen?_alloc_old w _ _ h
theorem set_cell_if (w : World) (n i m j : Nat) (v : Value) : (w.setCell ⟨n, i, none⟩ v).cell? ⟨m, j, none⟩ = if n = m ∧ i = j then (w.cell? ⟨m, j, none⟩).map (fun _ => v) else w.cell? ⟨m, j, none⟩ := by
  by_cases h : n = m ∧ i = j
  · obtain ⟨rfl, rfl⟩ := h
    rw [if_pos ⟨rfl, rfl⟩]
    simp only [World.setCell, World.cell?, Array.getElem?_modify, if_true]
    cases hh : w.heap[n]? with
    | none => simp
    | some o =>
      cases o with
      | cells c t f =>
        simp only [Option.map_some, Option.isSome_none, Bool.false_eq_true, if_false]
        by_cases hi : i < c.size
        · simp [hi]
        · simp [hi]
      | _ => simp
  · rw [if_neg h]
    exact World.cell?_setCell_other w _ _ _ (fun e => h (by injection e with e1 e2; exact ⟨e1, e2⟩))

attribute [go_sem] later_cell_if later_frozen_if alloc_cell_if alloc_frozen_if set_cell_if
attribute [go_sem] later_size later_later le_addn lt_addn eq_addn addn_eq

/-- A callee's contract, met in a later world. -/
theorem quietE {P : Program} {f : FuncId} {args : Array Value} {w : World} {x : Later} {v : Value}
    (h : Calls P f args (later w x) fun e w' => e = .returned v ∧ Ext (later w x) w') : Calls P f args (later w x) fun e w'' => e = .returned v ∧ ∃ y, w'' = later w y :=
  h.mono fun _ _ ⟨he, hx⟩ => ⟨he, (Ext.trans (x.ext w) hx).asLater⟩
theorem quietS {P : Program} {f : FuncId} {args : Array Value} {w : World} {x : Later} {v : Value}
    (h : Calls P f args (later w x) fun e w' => e = .returned v ∧ later w x = w') : Calls P f args (later w x) fun e w'' => e = .returned v ∧ ∃ y, w'' = later w y :=
  h.mono fun _ _ ⟨he, hx⟩ => ⟨he, x, hx.symm⟩

theorem later_drew (w : World) : ∃ x : Later, { w with drawn := w.drawn + 1 } = later w x := Ext.asLater (Ext.drew (Ext.refl w))

/-- A drawn region, every operation quiet: ONE walk. -/
theorem wp_region_later {P : Program} {id : Nat} {Q : Exit → Act → World → Prop} {a : Act} {w : World} {l : List Oper} (hm : P.follows .mixedOrders = true) (hB : Region.lexB .any l.toArray = true)
    (h : wpQuiet P l.toArray (fun w' => ∃ x, w' = later w x) (fun a' => ∀ w', (∃ x, w' = later w x) → Q .normal a' w') l a) : (Code.region id l.toArray true).wp P Q a w :=
  wp_region_quiet (C := fun w' => ∃ x, w' = later w x) hm hB (later_drew w) (by simpa using h)

/-! ### A drawn region whose head is quiet, and whose tail comes in one order -/
section
variable {P : Program} {ops : Array Oper} {md : Region.Mode} {C : World → Prop}

def wpAnyLQ (P : Program) (md : Region.Mode) (ops : Array Oper) (C : World → Prop) (n : Nat) (L : Array Bool → Act → Prop) : Nat → Array Bool → Act → Prop
  | 0, listed, a => L listed a
  | f + 1, listed, a =>
    Region.ready md ops listed ≠ [] ∧ ∀ i ∈ Region.ready md ops listed, i < n ∧ qOp P ops C i (wpAnyLQ P md ops C n L f (listed.setIfInBounds i true)) a

theorem wpAny_of_headQ {n g : Nat} {L : Array Bool → Act → Prop} {Q' : Exit → Act → World → Prop} (hL : ∀ listed a w, C w → L listed a → wpAny P md ops Q' g listed a w) :
    ∀ (f : Nat) (listed : Array Bool) (a : Act) (w : World), C w → wpAnyLQ P md ops C n L f listed a → wpAny P md ops Q' (f + g) listed a w
  | 0, listed, a, w, hC, h => by rw [Nat.zero_add]; exact hL _ _ _ hC h
  | f + 1, listed, a, w, hC, h => by
    rw [show f + 1 + g = (f + g) + 1 by omega]
    exact ⟨fun h0 => absurd h0 h.1, fun i hi => wpOp_of_qOp hC (fun a' w' hC' h' => wpAny_of_headQ hL f _ a' w' hC' h') (h.2 i hi).2⟩

theorem wpAnyLQ_first {n i : Nat} {oi : Oper} {v : Value} {L : Array Bool → Act → Prop} (hi : ops[i]? = some oi) (hsel : ∀ (j : Nat) (o : Oper) cs b, ops[j]? = some o → o.op ≠ .select cs b)
    (hs : Region.sinkB md ops n = true) (hc : Region.chainB md ops n = true) (hn : n < ops.size) (hin : i < n)
    (hdone : ∀ listed a, L listed a → ∀ j ∈ Region.ready md ops listed, n ≤ j) :
    ∀ (f : Nat) (listed : Array Bool) (a : Act), HeadInv md ops n listed →
      (∀ j oj, ops[j]? = some oj → j ≠ i → listed.getD j true = false → (∀ e ∈ oj.after, Region.binds md e = true → e.on ≠ i) → oi.apart ops oj = true) →
      i ∈ Region.ready md ops listed → YieldsIn P ops C oi v a →
      wpAnyLQ P md ops C n L f (listed.setIfInBounds i true) (a.put oi.dst v) → wpAnyLQ P md ops C n L (f + 1) listed a := by
  intro f
  induction f with
  | zero =>
    intro listed a inv _ hr hy H
    have hun := (mem_ready.1 hr).1
    refine ⟨fun h => (by rw [h] at hr; cases hr), fun j hj => ?_⟩
    have hjn : j < n := by
      rcases Nat.lt_or_ge j n with h | h
      · exact h
      · exact absurd hj (tail_waits hs hc hn inv _ i rfl hin hun j h)
    refine ⟨hjn, ?_⟩
    by_cases hji : j = i
    · subst hji; exact hy.qOp hi H
    · have := hdone _ _ H j (ready_mono hj hji)
      omega
  | succ f ih =>
    intro listed a inv hfree hr hy H
    have hun := (mem_ready.1 hr).1
    refine ⟨fun h => (by rw [h] at hr; cases hr), fun j hj => ?_⟩
    have hjn : j < n := by
      rcases Nat.lt_or_ge j n with h | h
      · exact h
      · exact absurd hj (tail_waits hs hc hn inv _ i rfl hin hun j h)
    refine ⟨hjn, ?_⟩
    by_cases hji : j = i
    · subst hji; exact hy.qOp hi H
    · have h1 := (H.2 j (ready_mono hj hji)).2
      obtain ⟨hjun, oj, hoj, hall⟩ := mem_ready.1 hj
      have hnot : ∀ e ∈ oj.after, Region.binds md e = true → e.on ≠ i := fun e he hb heq => by
        have h1 := hall e he hb
        rw [heq, getD_both hun] at h1
        cases h1
      have h2 := qOp_put hoj (hfree j oj hoj hji hjun hnot) (fun cs b => hsel i oi cs b hi) (fun cs b => hsel j oj cs b hoj) hy h1
      have hfree' : ∀ k ok, ops[k]? = some ok → k ≠ i → (listed.setIfInBounds j true).getD k true = false →
          (∀ e ∈ ok.after, Region.binds md e = true → e.on ≠ i) → oi.apart ops ok = true := fun k ok hk hki hun hno => by
        refine hfree k ok hk hki ?_ hno
        by_cases hjk : j = k
        · subst hjk; exact hjun
        · rw [getD_set_ne true hjk] at hun; exact hun
      refine qOp_mono (fun a' h3 => ih (listed.setIfInBounds j true) a' (inv.set hj hjn) hfree' (ready_mono hr (Ne.symm hji)) h3.1 ?_) h2
      rw [Array.setIfInBounds_comm _ _ hji]
      exact h3.2

theorem wpAnyLQ_lex {n g : Nat} {Lq : Act → Prop} (hsel : Region.noSelect ops = true) (hs : Region.sinkB md ops n = true) (hc : Region.chainB md ops n = true) (hn : n < ops.size) :
    ∀ (l : List Oper) (k : Nat) (listed : Array Bool) (a : Act), (∀ j, j < l.length → l[j]? = ops[k + j]?) → k + l.length = n → HeadInv md ops n listed →
    Region.lexHead md ops g l.length k listed = true → wpQuiet P ops C Lq l a →
    wpAnyLQ P md ops C n (fun listed' a' => Region.seqB md ops g n listed' = true ∧ Lq a') l.length listed a
  | [], k, listed, a, _, hk, _, hB, h => by
    have : k = n := by simpa using hk
    subst this
    exact ⟨by simpa [Region.lexHead] using hB, h⟩
  | o :: l, k, listed, a, hl, hk, inv, hB, h => by
    have h0 : ops[k]? = some o := by simpa using (hl 0 (by simp)).symm
    simp only [List.length_cons, Region.lexHead, Bool.and_eq_true] at hB
    obtain ⟨⟨hr, hf⟩, hB'⟩ := hB
    have hkn : k < n := by simp only [List.length_cons] at hk; omega
    have hr' : k ∈ Region.ready md ops listed := by simpa using hr
    have hst : qOp P ops C k (wpQuiet P ops C Lq l) a := by unfold qOp; simp only [h0]; exact h
    obtain ⟨v, hy, hK⟩ := yieldsIn_of_qOp h0 hst
    exact wpAnyLQ_first h0 (Region.noSelect_spec hsel) hs hc hn hkn (fun listed' a' hL => seqB_ready hL.1) l.length listed a inv (Region.free_spec h0 hf) hr' hy
      (wpAnyLQ_lex hsel hs hc hn l (k + 1) _ _ (fun j hj => by have := hl (j + 1) (by simp; omega); simpa [Nat.add_assoc, Nat.add_comm 1 j] using this) (by simp only [List.length_cons] at hk; omega) (inv.set hr' hkn) hB' hK)

theorem wp_region_quiet_tail {id : Nat} {Q : Exit → Act → World → Prop} {a : Act} {w : World} {l : List Oper} (n : Nat) (hm : P.follows .mixedOrders = true) (hB : Region.lexTailB .any l.toArray n = true) (hC : C { w with drawn := w.drawn + 1 })
    (h : wpQuiet P l.toArray C (fun a' => ∀ w', C w' → wpList P l.toArray Q (l.drop n) a' w') (l.take n) a) : (Code.region id l.toArray true).wp P Q a w := by
  simp only [Region.lexTailB, Bool.and_eq_true, decide_eq_true_eq] at hB
  obtain ⟨⟨⟨⟨hsel, hn⟩, hs⟩, hc⟩, hlex⟩ := hB
  have hn' : n < l.length := by simpa using hn
  have htl : (l.take n).length = n := by simp; omega
  have hdl : (l.drop n).length = l.toArray.size - n := by simp
  have inv0 : HeadInv .any l.toArray n (Array.replicate l.toArray.size false) :=
    ⟨by simp, fun j oj _ hl => (by rw [getD_replicate_false] at hl; cases hl), fun t _ ht => getD_in (by simpa using ht) (getD_replicate_false _ _)⟩
  have H := wpAnyLQ_lex (md := .any) (C := C) (g := l.toArray.size - n) hsel hs hc hn (l.take n) 0 _ a (fun j hj => by
    have hj' : j < n := by rw [htl] at hj; exact hj
    simp [hj']) (by simpa using htl) inv0 (by rw [htl]; exact hlex) h
  refine wp_region_any hm ?_
  have := wpAny_of_headQ (Q' := Q) (g := l.toArray.size - n) (fun listed a' w' hC' hL => by
    have := wpAny_of_seq (md := .any) (Q' := Q) (l.drop n) n listed a' w' (fun j => by simp [List.getElem?_drop]) (by rw [hdl]; exact hL.1) (hL.2 w' hC')
    rwa [hdl] at this) _ _ _ _ hC H
  rw [htl, show n + (l.toArray.size - n) = l.toArray.size by omega] at this
  exact this
end

theorem wp_region_later_tail {P : Program} {id : Nat} {Q : Exit → Act → World → Prop} {a : Act} {w : World} {l : List Oper} (n : Nat) (hm : P.follows .mixedOrders = true) (hB : Region.lexTailB .any l.toArray n = true)
    (h : wpQuiet P l.toArray (fun w' => ∃ x, w' = later w x) (fun a' => ∀ w', (∃ x, w' = later w x) → wpList P l.toArray Q (l.drop n) a' w') (l.take n) a) : (Code.region id l.toArray true).wp P Q a w :=
  wp_region_quiet_tail (C := fun w' => ∃ x, w' = later w x) n hm hB (later_drew w) h
end Go.Proofs.YtpjacgcaibaggaaGreatDoor
