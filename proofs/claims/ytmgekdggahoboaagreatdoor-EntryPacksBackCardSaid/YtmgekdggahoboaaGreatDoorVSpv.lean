/- Walks of the specification's sets of bytes: Valid. -/
import Derived.Below
import Derived.Deep.Draws
import Derived.Deep.Quiet
import Derived.Deep.QuietTactic
import Derived.StillTail
import Derived.WalkKit
import Derived.Lib.Hide
import Derived.Deep.MidRow
import Derived.Test.YtmgekdggahoboaaGreatDoorProg
import Derived.WalkSpells
import Derived.WalkLawsBesides
import Derived.BigQuiet
import Derived.Lib.LazyBuf
import Derived.Laws.AppendOwn
import Derived.Laws.AppendOwnNone
import Derived.Laws.BytesArg
import Derived.Lib.AppendStr
import Derived.Lib.IndexBytes
import Derived.Test.YtmgekdggahoboaaGreatDoorVSp
set_option maxRecDepth 100000
set_option maxHeartbeats 64000000
set_option linter.unusedVariables false
set_option linter.unusedSimpArgs false
namespace Go.Proofs.YtmgekdggahoboaaGreatDoor
open Go.RowKit
def Ext (w w' : World) : Prop := Below w.heap.size w w'
theorem Ext.refl (w : World) : Ext w w := Below.refl _ _
theorem Ext.below {a b : World} (h : Ext a b) : Below a.heap.size a b := h
theorem Ext.size {a b : World} (h : Ext a b) : a.heap.size ≤ b.heap.size := Below.size h
theorem Ext.trans {a b c : World} (h : Ext a b) (k : Ext b c) : Ext a c := Below.trans h (Below.mono k (Ext.size h))
theorem Ext.drew {a b : World} (h : Ext a b) : Ext a b.drew := Below.drew h
theorem Ext.drewN {a b : World} (h : Ext a b) (n : Nat) : Ext a (b.drewN n) := by
 have k : Below a.heap.size a b := h
 exact ⟨k.os, k.tape, k.output, k.size, k.block⟩
theorem Ext.alloc {a b : World} (h : Ext a b) (o : Obj) : Ext a (b.alloc o) := Below.alloc h (Ext.size h) o
theorem Ext.setCell {a b : World} (h : Ext a b) {p : Addr} (hp : a.heap.size ≤ p.block) (u : Value) : Ext a (b.setCell p u) := Below.setCell h hp u
theorem Ext.cell {a b : World} (h : Ext a b) {p : Addr} (hp : p.block < a.heap.size) : b.cell? p = a.cell? p := Below.cell h hp
theorem Ext.frozen {a b : World} (h : Ext a b) {p : Addr} (hp : p.block < a.heap.size) : b.frozen? p = a.frozen? p := Below.frozen h hp
theorem ret_bool {a b : Bool} (h : a = b) : Ending.returned (.bool a) = .returned (.bool b) := by rw [h]
theorem ret_int {k : IntKind} {a b : Int} (h : a = b) : Ending.returned (.int k a) = .returned (.int k b) := by rw [h]
structure Later where
 f : World → World
 n : Nat
 ext : ∀ w, Ext w (f w)
 size : ∀ w, (f w).heap.size = w.heap.size + n
instance laterInhabited : Inhabited Later := ⟨⟨id, 0, Ext.refl, fun _ => rfl⟩⟩
def later (w : World) (x : Later) : World := x.f w
def padded (w : World) (n : Nat) : World := { w with heap := w.heap ++ Array.replicate n (.cells #[] 0) }
theorem padded_ext (w : World) (n : Nat) : Ext w (padded w n) := by
 refine ⟨rfl, rfl, rfl, by simp [padded], fun k hk => ?_⟩
 simp only [padded]
 rw [Array.getElem?_append_left hk]
open Classical in
theorem Ext.asLater {w w' : World} (h : Ext w w') : ∃ x : Later, w' = later w x := by
 refine ⟨⟨fun v => if v = w then w' else padded v (w'.heap.size - w.heap.size), w'.heap.size - w.heap.size, fun v => ?_, fun v => ?_⟩, by simp [later]⟩
 ·by_cases e : v = w
  ·rw [if_pos e, e]; exact h
  ·rw [if_neg e]; exact padded_ext _ _
 ·have := h.size
  by_cases e : v = w
  ·rw [if_pos e, e]; omega
  ·rw [if_neg e]; simp [padded]
theorem ext_later (w : World) (x : Later) : Ext w (later w x) := x.ext w
theorem Ext.onto {a w : World} (h : Ext a w) (x : Later) : Ext a (later w x) := h.trans (x.ext w)
theorem later_size (w : World) (x : Later) : (later w x).heap.size = w.heap.size + x.n := x.size w
theorem later_cell (w : World) (x : Later) (n i : Nat) (hn : n < w.heap.size) : (later w x).cell? ⟨n, i, none⟩ = w.cell? ⟨n, i, none⟩ := Ext.cell (x.ext w) (p := ⟨n, i, none⟩) hn
theorem later_frozen (w : World) (x : Later) (n i : Nat) (hn : n < w.heap.size) : (later w x).frozen? ⟨n, i, none⟩ = w.frozen? ⟨n, i, none⟩ := Ext.frozen (x.ext w) (p := ⟨n, i, none⟩) hn
def Later.comp (x y : Later) : Later :=
 ⟨fun w => y.f (x.f w), x.n + y.n, fun w => Ext.trans (x.ext w) (y.ext _), fun w => by rw [y.size, x.size]; omega⟩
theorem later_later (w : World) (x y : Later) : later (later w x) y = later w (x.comp y) := rfl
theorem Later.comp_n (x y : Later) : (x.comp y).n = x.n + y.n := rfl
theorem le_addn {a b n : Nat} (h : a ≤ b) : a ≤ b + n := by omega
theorem lt_addn {a b n : Nat} (h : a < b) : a < b + n := by omega
theorem eq_addn {a b n : Nat} (h : a < b) : (a = b + n) = False := by simp; omega
theorem addn_eq {a b n : Nat} (h : a < b) : (b + n = a) = False := by simp; omega
def lateCell (w : World) (x : Later) (n i : Nat) : Option Value := (later w x).cell? ⟨n, i, none⟩
def lateFrozen (w : World) (x : Later) (n i : Nat) : Bool := (later w x).frozen? ⟨n, i, none⟩
theorem later_cell_if (w : World) (x : Later) (n i : Nat) : (later w x).cell? ⟨n, i, none⟩ = if n < w.heap.size then w.cell? ⟨n, i, none⟩ else lateCell w x n i := by
 by_cases h : n < w.heap.size
 ·rw [if_pos h, later_cell w x n i h]
 ·rw [if_neg h]; rfl
theorem later_frozen_if (w : World) (x : Later) (n i : Nat) : (later w x).frozen? ⟨n, i, none⟩ = if n < w.heap.size then w.frozen? ⟨n, i, none⟩ else lateFrozen w x n i := by
 by_cases h : n < w.heap.size
 ·rw [if_pos h, later_frozen w x n i h]
 ·rw [if_neg h]; rfl
theorem alloc_cell_if (w : World) (c : Array Value) (t : TypeId) (n i : Nat) : (w.alloc (.cells c t)).cell? ⟨n, i, none⟩ = if n = w.heap.size then c[i]? else w.cell? ⟨n, i, none⟩ := by
 by_cases h : n = w.heap.size
 ·rw [if_pos h]; exact World.cell?_alloc_at c t n i h
 ·rw [if_neg h]; exact World.cell?_alloc_old w _ _ h
theorem alloc_frozen_if (w : World) (c : Array Value) (t : TypeId) (n i : Nat) : (w.alloc (.cells c t)).frozen? ⟨n, i, none⟩ = if n = w.heap.size then false else w.frozen? ⟨n, i, none⟩ := by
 by_cases h : n = w.heap.size
 ·rw [if_pos h]; exact World.frozen?_alloc_at c t n i h
 ·rw [if_neg h]; exact World.frozen?_alloc_old w _ _ h
theorem set_cell_if (w : World) (n i m j : Nat) (v : Value) : (w.setCell ⟨n, i, none⟩ v).cell? ⟨m, j, none⟩ = if n = m ∧ i = j then (w.cell? ⟨m, j, none⟩).map (fun _ => v) else w.cell? ⟨m, j, none⟩ := by
 by_cases h : n = m ∧ i = j
 ·obtain ⟨rfl, rfl⟩ := h
  rw [if_pos ⟨rfl, rfl⟩]
  simp only [World.setCell, World.cell?, Array.getElem?_modify, if_true]
  cases hh : w.heap[n]? with
  | none => simp
  | some o =>
   cases o with
   | cells c t f =>
    simp only [Option.map_some, Option.isSome_none, Bool.false_eq_true, if_false]
    by_cases hi : i < c.size
    ·simp [hi]
    ·simp [hi]
   | _ => simp
 ·rw [if_neg h]
  exact World.cell?_setCell_other w _ _ _ (fun e => h (by injection e with e1 e2; exact ⟨e1, e2⟩))
attribute [go_sem] later_cell_if later_frozen_if alloc_cell_if alloc_frozen_if set_cell_if
attribute [go_sem] later_size later_later le_addn lt_addn eq_addn addn_eq
theorem quietE {P : Program} {f : FuncId} {args : Array Value} {w : World} {x : Later} {v : Value}
  (h : Calls P f args (later w x) fun e w' => e = .returned v ∧ Ext (later w x) w') : Calls P f args (later w x) fun e w'' => e = .returned v ∧ ∃ y, w'' = later w y :=
 h.mono fun _ _ ⟨he, hx⟩ => ⟨he, (Ext.trans (x.ext w) hx).asLater⟩
theorem quietS {P : Program} {f : FuncId} {args : Array Value} {w : World} {x : Later} {v : Value}
  (h : Calls P f args (later w x) fun e w' => e = .returned v ∧ later w x = w') : Calls P f args (later w x) fun e w'' => e = .returned v ∧ ∃ y, w'' = later w y :=
 h.mono fun _ _ ⟨he, hx⟩ => ⟨he, x, hx.symm⟩
theorem later_drew (w : World) : ∃ x : Later, { w with drawn := w.drawn + 1 } = later w x := Ext.asLater (Ext.drew (Ext.refl w))
theorem wp_region_later {P : Program} {id : Nat} {Q : Exit → Act → World → Prop} {a : Act} {w : World} {l : List Oper} (hm : P.follows .mixedOrders = true) (hB : Region.lexB .any l.toArray = true)
  (h : wpQuiet P l.toArray (fun w' => ∃ x, w' = later w x) (fun a' => ∀ w', (∃ x, w' = later w x) → Q .normal a' w') l a) : (Code.region id l.toArray true).wp P Q a w :=
 wp_region_quiet (C := fun w' => ∃ x, w' = later w x) hm hB (later_drew w) (by simpa using h)
section
variable {P : Program} {ops : Array Oper} {md : Region.Mode} {C : World → Prop}
def wpAnyLQ (P : Program) (md : Region.Mode) (ops : Array Oper) (C : World → Prop) (n : Nat) (L : Array Bool → Act → Prop) : Nat → Array Bool → Act → Prop
 | 0, listed, a => L listed a
 | f + 1, listed, a =>
  Region.ready md ops listed ≠ [] ∧ ∀ i ∈ Region.ready md ops listed, i < n ∧ qOp P ops C i (wpAnyLQ P md ops C n L f (listed.setIfInBounds i true)) a
theorem wpAny_of_headQ {n g : Nat} {L : Array Bool → Act → Prop} {Q' : Exit → Act → World → Prop} (hL : ∀ listed a w, C w → L listed a → wpAny P md ops Q' g listed a w) :
  ∀ (f : Nat) (listed : Array Bool) (a : Act) (w : World), C w → wpAnyLQ P md ops C n L f listed a → wpAny P md ops Q' (f + g) listed a w
 | 0, listed, a, w, hC, h => by rw [Nat.zero_add]; exact hL _ _ _ hC h
 | f + 1, listed, a, w, hC, h => by
  rw [show f + 1 + g = (f + g) + 1 by omega]
  exact ⟨fun h0 => absurd h0 h.1, fun i hi => wpOp_of_qOp hC (fun a' w' hC' h' => wpAny_of_headQ hL f _ a' w' hC' h') (h.2 i hi).2⟩
theorem wpAnyLQ_first {n i : Nat} {oi : Oper} {v : Value} {L : Array Bool → Act → Prop} (hi : ops[i]? = some oi) (hsel : ∀ (j : Nat) (o : Oper) cs b, ops[j]? = some o → o.op ≠ .select cs b)
  (hs : Region.sinkB md ops n = true) (hc : Region.chainB md ops n = true) (hn : n < ops.size) (hin : i < n)
  (hdone : ∀ listed a, L listed a → ∀ j ∈ Region.ready md ops listed, n ≤ j) :
  ∀ (f : Nat) (listed : Array Bool) (a : Act), HeadInv md ops n listed →
   (∀ j oj, ops[j]? = some oj → j ≠ i → listed.getD j true = false → (∀ e ∈ oj.after, Region.binds md e = true → e.on ≠ i) → oi.apart ops oj = true) →
   i ∈ Region.ready md ops listed → YieldsIn P ops C oi v a →
   wpAnyLQ P md ops C n L f (listed.setIfInBounds i true) (a.put oi.dst v) → wpAnyLQ P md ops C n L (f + 1) listed a := by
 intro f
 induction f with
 | zero =>
  intro listed a inv _ hr hy H
  have hun := (mem_ready.1 hr).1
  refine ⟨fun h => (by rw [h] at hr; cases hr), fun j hj => ?_⟩
  have hjn : j < n := by
   rcases Nat.lt_or_ge j n with h | h
   ·exact h
   ·exact absurd hj (tail_waits hs hc hn inv _ i rfl hin hun j h)
  refine ⟨hjn, ?_⟩
  by_cases hji : j = i
  ·subst hji; exact hy.qOp hi H
  ·have := hdone _ _ H j (ready_mono hj hji)
   omega
 | succ f ih =>
  intro listed a inv hfree hr hy H
  have hun := (mem_ready.1 hr).1
  refine ⟨fun h => (by rw [h] at hr; cases hr), fun j hj => ?_⟩
  have hjn : j < n := by
   rcases Nat.lt_or_ge j n with h | h
   ·exact h
   ·exact absurd hj (tail_waits hs hc hn inv _ i rfl hin hun j h)
  refine ⟨hjn, ?_⟩
  by_cases hji : j = i
  ·subst hji; exact hy.qOp hi H
  ·have h1 := (H.2 j (ready_mono hj hji)).2
   obtain ⟨hjun, oj, hoj, hall⟩ := mem_ready.1 hj
   have hnot : ∀ e ∈ oj.after, Region.binds md e = true → e.on ≠ i := fun e he hb heq => by
    have h1 := hall e he hb
    rw [heq, getD_both hun] at h1
    cases h1
   have h2 := qOp_put hoj (hfree j oj hoj hji hjun hnot) (fun cs b => hsel i oi cs b hi) (fun cs b => hsel j oj cs b hoj) hy h1
   have hfree' : ∀ k ok, ops[k]? = some ok → k ≠ i → (listed.setIfInBounds j true).getD k true = false →
     (∀ e ∈ ok.after, Region.binds md e = true → e.on ≠ i) → oi.apart ops ok = true := fun k ok hk hki hun hno => by
    refine hfree k ok hk hki ?_ hno
    by_cases hjk : j = k
    ·subst hjk; exact hjun
    ·rw [getD_set_ne true hjk] at hun; exact hun
   refine qOp_mono (fun a' h3 => ih (listed.setIfInBounds j true) a' (inv.set hj hjn) hfree' (ready_mono hr (Ne.symm hji)) h3.1 ?_) h2
   rw [Array.setIfInBounds_comm _ _ hji]
   exact h3.2
theorem wpAnyLQ_lex {n g : Nat} {Lq : Act → Prop} (hsel : Region.noSelect ops = true) (hs : Region.sinkB md ops n = true) (hc : Region.chainB md ops n = true) (hn : n < ops.size) :
  ∀ (l : List Oper) (k : Nat) (listed : Array Bool) (a : Act), (∀ j, j < l.length → l[j]? = ops[k + j]?) → k + l.length = n → HeadInv md ops n listed →
  Region.lexHead md ops g l.length k listed = true → wpQuiet P ops C Lq l a →
  wpAnyLQ P md ops C n (fun listed' a' => Region.seqB md ops g n listed' = true ∧ Lq a') l.length listed a
 | [], k, listed, a, _, hk, _, hB, h => by
  have : k = n := by simpa using hk
  subst this
  exact ⟨by simpa [Region.lexHead] using hB, h⟩
 | o :: l, k, listed, a, hl, hk, inv, hB, h => by
  have h0 : ops[k]? = some o := by simpa using (hl 0 (by simp)).symm
  simp only [List.length_cons, Region.lexHead, Bool.and_eq_true] at hB
  obtain ⟨⟨hr, hf⟩, hB'⟩ := hB
  have hkn : k < n := by simp only [List.length_cons] at hk; omega
  have hr' : k ∈ Region.ready md ops listed := by simpa using hr
  have hst : qOp P ops C k (wpQuiet P ops C Lq l) a := by unfold qOp; simp only [h0]; exact h
  obtain ⟨v, hy, hK⟩ := yieldsIn_of_qOp h0 hst
  exact wpAnyLQ_first h0 (Region.noSelect_spec hsel) hs hc hn hkn (fun listed' a' hL => seqB_ready hL.1) l.length listed a inv (Region.free_spec h0 hf) hr' hy
   (wpAnyLQ_lex hsel hs hc hn l (k + 1) _ _ (fun j hj => by have := hl (j + 1) (by simp; omega); simpa [Nat.add_assoc, Nat.add_comm 1 j] using this) (by simp only [List.length_cons] at hk; omega) (inv.set hr' hkn) hB' hK)
theorem wp_region_quiet_tail {id : Nat} {Q : Exit → Act → World → Prop} {a : Act} {w : World} {l : List Oper} (n : Nat) (hm : P.follows .mixedOrders = true) (hB : Region.lexTailB .any l.toArray n = true) (hC : C { w with drawn := w.drawn + 1 })
  (h : wpQuiet P l.toArray C (fun a' => ∀ w', C w' → wpList P l.toArray Q (l.drop n) a' w') (l.take n) a) : (Code.region id l.toArray true).wp P Q a w := by
 simp only [Region.lexTailB, Bool.and_eq_true, decide_eq_true_eq] at hB
 obtain ⟨⟨⟨⟨hsel, hn⟩, hs⟩, hc⟩, hlex⟩ := hB
 have hn' : n < l.length := by simpa using hn
 have htl : (l.take n).length = n := by simp; omega
 have hdl : (l.drop n).length = l.toArray.size - n := by simp
 have inv0 : HeadInv .any l.toArray n (Array.replicate l.toArray.size false) :=
  ⟨by simp, fun j oj _ hl => (by rw [getD_replicate_false] at hl; cases hl), fun t _ ht => getD_in (by simpa using ht) (getD_replicate_false _ _)⟩
 have H := wpAnyLQ_lex (md := .any) (C := C) (g := l.toArray.size - n) hsel hs hc hn (l.take n) 0 _ a (fun j hj => by
  have hj' : j < n := by rw [htl] at hj; exact hj
  simp [hj']) (by simpa using htl) inv0 (by rw [htl]; exact hlex) h
 refine wp_region_any hm ?_
 have := wpAny_of_headQ (Q' := Q) (g := l.toArray.size - n) (fun listed a' w' hC' hL => by
  have := wpAny_of_seq (md := .any) (Q' := Q) (l.drop n) n listed a' w' (fun j => by simp [List.getElem?_drop]) (by rw [hdl]; exact hL.1) (hL.2 w' hC')
  rwa [hdl] at this) _ _ _ _ hC H
 rw [htl, show n + (l.toArray.size - n) = l.toArray.size by omega] at this
 exact this
end
theorem wp_region_later_tail {P : Program} {id : Nat} {Q : Exit → Act → World → Prop} {a : Act} {w : World} {l : List Oper} (n : Nat) (hm : P.follows .mixedOrders = true) (hB : Region.lexTailB .any l.toArray n = true)
  (h : wpQuiet P l.toArray (fun w' => ∃ x, w' = later w x) (fun a' => ∀ w', (∃ x, w' = later w x) → wpList P l.toArray Q (l.drop n) a' w') (l.take n) a) : (Code.region id l.toArray true).wp P Q a w :=
 wp_region_quiet_tail (C := fun w' => ∃ x, w' = later w x) n hm hB (later_drew w) h
theorem lc0 {α : Type} {a : α} {l : List α} : (a :: l)[0]? = some a := rfl
theorem lcs {α : Type} {a : α} {l : List α} {i : Nat} : (a :: l)[i + 1]? = l[i]? := rfl
theorem obs {α β : Type} (a : α) (f : α → Option β) : (some a).bind f = f a := rfl
theorem lsa {α : Type} (l : List α) (i : Nat) (a : α) : l.toArray.setIfInBounds i a = (l.set i a).toArray := List.setIfInBounds_toArray ..
theorem lsz {α : Type} {x : α} {xs : List α} {a : α} : (x :: xs).set 0 a = a :: xs := rfl
theorem lss {α : Type} {x : α} {xs : List α} {n : Nat} {a : α} : (x :: xs).set (n + 1) a = x :: xs.set n a := rfl
theorem nz (n : Nat) : 0 + n = n := Nat.zero_add n
theorem dk {p : Prop} [Decidable p] (h : decide p = true) : p := of_decide_eq_true h
theorem lh {p : Prop} (h : p) : Hid p := h
theorem eR (w : World) : Ext w w := Ext.refl w
theorem eD {a b : World} (h : Ext a b) : Ext a b.drew := Ext.drew h
theorem eN {a b : World} {n : Nat} (h : Ext a b) : Ext a (b.drewN n) := Ext.drewN h n
theorem eA {a b : World} {o : Obj} (h : Ext a b) : Ext a (b.alloc o) := Ext.alloc h o
theorem eO {a w : World} {x : Later} (h : Ext a w) : Ext a (later w x) := Ext.onto h x
theorem eC {a b : World} {p : Addr} {u : Value} (h : Ext a b) (hp : a.heap.size ≤ p.block) : Ext a (b.setCell p u) := Ext.setCell h hp u
theorem sop {l : List Oper} {i : Nat} {o0 : Oper} (h0 : l[i]? = some o0) {w0 : World} {D : (Nat → Value) → World → Prop} {G T : Oper → (Nat → Value) → World → (Exit → Act → World → Prop) → Prop}
  (H : ∀ xs W, Hid (Ext w0 W) → w0.heap.size ≤ W.heap.size → Hid (D xs W) → ∀ Q', Hid (G o0 xs W Q') → T o0 xs W Q') : ∀ o, l[i]? = some o → ∀ xs w, Ext w0 w → D xs w → ∀ Q', G o xs w Q' → T o xs w Q' := by
 intro o ho xs w hx hd Q' hg
 rw [h0] at ho
 obtain rfl := Option.some.inj ho
 exact H xs w (Lib.hid hx) hx.size (Lib.hid hd) Q' (Lib.hid hg)
end Go.Proofs.YtmgekdggahoboaaGreatDoor

namespace Go.Proofs.YtmgekdggahoboaaGreatDoor
open Go.RowKit
def rowSub (cs : Array Value) (o n : Nat) : Option (Array Value) := if o + n ≤ cs.size then some (cs.extract o (o + n)) else none
theorem rowSub_all (cs : Array Value) (n : Nat) (h : n = cs.size) : rowSub cs 0 n = some cs := by
 subst h
 simp [rowSub]
theorem rowSub_get {cs ds : Array Value} {o n : Nat} (h : rowSub cs o n = some ds) {i : Nat} (hi : i < n) : cs[o + i]? = ds[i]? := by
 unfold rowSub at h
 split at h
 ·injection h with h
  subst h
  rw [Array.getElem?_extract]
  simp
  omega
 ·cases h
theorem rowSub_size {cs ds : Array Value} {o n : Nat} (h : rowSub cs o n = some ds) : ds.size = n := by
 unfold rowSub at h
 split at h
 ·injection h with h
  subst h
  simp
  omega
 ·cases h
def rowOf (w : World) (b o n : Nat) : Option (Array Value) :=
 if ∀ i, i < n → (w.cell? ⟨b, o + i, none⟩).isSome = true then some (Array.ofFn (n := n) fun i => (w.cell? ⟨b, o + i.val, none⟩).getD undef) else none
theorem rowOf_some {w : World} {b o n : Nat} {cs : Array Value} (hs : cs.size = n) (h : ∀ i, i < n → w.cell? ⟨b, o + i, none⟩ = cs[i]?) : rowOf w b o n = some cs := by
 subst hs
 have h1 : ∀ i, i < cs.size → (w.cell? ⟨b, o + i, none⟩).isSome = true := fun i hi => by rw [h i hi]; simp [hi]
 rw [rowOf, if_pos h1]
 congr 1
 apply Array.ext (by simp)
 intro i h2 h3
 simp [h i h3, h3]
theorem rowOf_size {w : World} {b o n : Nat} {cs : Array Value} (h : rowOf w b o n = some cs) : cs.size = n := by
 unfold rowOf at h
 split at h
 ·injection h with h; subst h; simp
 ·cases h
theorem rowOf_cell {w : World} {b o n : Nat} {cs : Array Value} (h : rowOf w b o n = some cs) {i : Nat} (hi : i < n) : w.cell? ⟨b, o + i, none⟩ = cs[i]? := by
 unfold rowOf at h
 split at h
 ·rename_i h1
  injection h with h
  subst h
  have := h1 i hi
  obtain ⟨v, hv⟩ := Option.isSome_iff_exists.1 this
  simp [hi, hv]
 ·cases h
theorem rowOf_range {w : World} {b o n : Nat} {cs : Array Value} (h : rowOf w b o n = some cs) : w.rangeAt b o cs.toList := fun j v hv => by
 have hj : j < cs.size := by
  have := (List.getElem?_eq_some_iff.1 hv).1
  simpa using this
 rw [rowOf_cell h (by rw [← rowOf_size h]; exact hj)]
 simpa using hv
theorem rowOf_congr {w w' : World} {b b' o n : Nat} (h : ∀ i, i < n → w'.cell? ⟨b', o + i, none⟩ = w.cell? ⟨b, o + i, none⟩) : rowOf w' b' o n = rowOf w b o n := by
 unfold rowOf
 have e : (∀ i, i < n → (w'.cell? ⟨b', o + i, none⟩).isSome = true) = (∀ i, i < n → (w.cell? ⟨b, o + i, none⟩).isSome = true) := by
  apply propext
  constructor
  ·intro k i hi; rw [← h i hi]; exact k i hi
  ·intro k i hi; rw [h i hi]; exact k i hi
 simp only [e]
 congr 2
 apply Array.ext (by simp)
 intro i h2 h3
 have : i < n := by simpa using h2
 simp [h i this]
theorem rowOf_of_cells {w : World} {b : Nat} {cs : Array Value} (h : ∀ i, w.cell? ⟨b, i, none⟩ = cs[i]?) (o n : Nat) : rowOf w b o n = if n = 0 then some #[] else rowSub cs o n := by
 by_cases h0 : n = 0
 ·subst h0
  rw [if_pos rfl]
  exact rowOf_some rfl fun i hi => absurd hi (Nat.not_lt_zero _)
 rw [if_neg h0]
 by_cases hle : o + n ≤ cs.size
 ·obtain ⟨ds, hd⟩ : ∃ ds, rowSub cs o n = some ds := ⟨_, if_pos hle⟩
  rw [hd]
  exact rowOf_some (rowSub_size hd) fun i hi => by rw [h, rowSub_get hd hi]
 ·rw [rowSub, if_neg hle, rowOf, if_neg]
  intro k
  have := k (n - 1) (by omega)
  rw [h, Array.getElem?_eq_none (by omega)] at this
  cases this
def lostRow (w : World) (b o n : Nat) : Option (Array Value) := rowOf w b o n
theorem rowOf_later (w : World) (x : Later) (b o n : Nat) : rowOf (later w x) b o n = if b < w.heap.size then rowOf w b o n else lostRow (later w x) b o n := by
 by_cases h : b < w.heap.size
 ·rw [if_pos h]; exact rowOf_congr fun i _ => later_cell w x b (o + i) h
 ·rw [if_neg h]; rfl
theorem rowOf_alloc (w : World) (c : Array Value) (t : TypeId) (b o n : Nat) : rowOf (w.alloc (.cells c t)) b o n = if b = w.heap.size then (if n = 0 then some #[] else rowSub c o n) else rowOf w b o n := by
 by_cases h : b = w.heap.size
 ·subst h
  rw [if_pos rfl]
  exact rowOf_of_cells (fun i => by rw [alloc_cell_if, if_pos rfl]) o n
 ·rw [if_neg h]
  exact rowOf_congr fun i _ => by rw [alloc_cell_if, if_neg h]
theorem rowOf_drew (w : World) (b o n : Nat) : rowOf w.drew b o n = rowOf w b o n := rowOf_congr fun _ _ => rfl
theorem rowOf_set (w : World) (m i b o n : Nat) (v : Value) : rowOf (w.setCell ⟨m, i, none⟩ v) b o n = if m = b ∧ o ≤ i ∧ i < o + n then (rowOf w b o n).map (fun c => c.setIfInBounds (i - o) v) else rowOf w b o n := by
 by_cases h : m = b ∧ o ≤ i ∧ i < o + n
 ·rw [if_pos h]
  obtain ⟨rfl, h1, h2⟩ := h
  cases hr : rowOf w m o n with
  | none =>
   rw [Option.map_none]
   unfold rowOf at hr ⊢
   split at hr
   ·cases hr
   ·rename_i hn
    rw [if_neg]
    intro k
    apply hn
    intro j hj
    have := k j hj
    rw [set_cell_if] at this
    split at this <;> simpa using this
  | some c =>
   have hs := rowOf_size hr
   rw [Option.map_some]
   refine rowOf_some (by simp [hs]) fun j hj => ?_
   rw [set_cell_if, rowOf_cell hr hj, Array.getElem?_setIfInBounds]
   by_cases e : i = o + j
   ·subst e
    simp [hs, hj]
   ·rw [if_neg (fun k => e k.2), if_neg (fun k => e (by omega))]
 ·rw [if_neg h]
  exact rowOf_congr fun j hj => by rw [set_cell_if, if_neg (fun k => h ⟨k.1, by omega, by omega⟩)]
theorem setCells_cell_if (w : World) (b o : Nat) (vs : List Value) (m j : Nat) : (w.setCells b o vs).cell? ⟨m, j, none⟩ = if m = b ∧ o ≤ j ∧ j < o + vs.length then (w.cell? ⟨m, j, none⟩).map (fun _ => vs.getD (j - o) undef) else w.cell? ⟨m, j, none⟩ := by
 induction vs generalizing o w with
 | nil => simp [World.setCells]; intro _ _ _; omega
 | cons v r ih =>
  rw [World.setCells, ih, set_cell_if]
  by_cases h : m = b ∧ o ≤ j ∧ j < o + (v :: r).length
  ·obtain ⟨rfl, h1, h2⟩ := h
   simp only [List.length_cons] at h2
   by_cases e : o = j
   ·subst e
    rw [if_neg (by omega), if_pos ⟨rfl, rfl⟩, if_pos ⟨rfl, by omega, by simp⟩]
    simp
   ·rw [if_pos ⟨rfl, by omega, by omega⟩, if_neg (fun k => e k.2), if_pos ⟨rfl, by omega, by simp; omega⟩]
    congr 1
    funext _
    obtain ⟨k, rfl⟩ := Nat.exists_eq_add_of_lt (show o < j by omega)
    rw [show o + k + 1 - (o + 1) = k by omega, show o + k + 1 - o = k + 1 by omega]
    simp
  ·have h' : ¬ (m = b ∧ o ≤ j ∧ j < o + r.length + 1) := by simpa [Nat.add_assoc] using h
   rw [if_neg (fun k => h' ⟨k.1, by omega, by omega⟩), if_neg (fun k => h' ⟨k.1.symm, by omega, by omega⟩), if_neg h]
theorem setCells_frozen (w : World) (b o : Nat) (vs : List Value) (a : Addr) : (w.setCells b o vs).frozen? a = w.frozen? a := World.frozen?_setCells b vs o w a
theorem setCells_size (w : World) (b o : Nat) (vs : List Value) : (w.setCells b o vs).heap.size = w.heap.size := by
 induction vs generalizing o w with
 | nil => rfl
 | cons v r ih => rw [World.setCells, ih]; simp [World.setCell]
theorem Ext.setCells {a w : World} (h : Ext a w) {b : Nat} (hb : a.heap.size ≤ b) (o : Nat) (vs : List Value) : Ext a (w.setCells b o vs) := by
 induction vs generalizing o w with
 | nil => exact h
 | cons v r ih => exact ih (h.setCell (p := ⟨b, o, none⟩) hb v) (o + 1)
theorem eS {a w : World} {b o : Nat} {vs : List Value} (h : Ext a w) (hb : a.heap.size ≤ b) : Ext a (w.setCells b o vs) := Ext.setCells h hb o vs
theorem rowOf_setCells (w : World) (m i b o n : Nat) (vs : List Value) : rowOf (w.setCells m i vs) b o n =
  if m = b ∧ i = o ∧ vs.length = n then (rowOf w b o n).map (fun _ => vs.toArray) else if m = b ∧ i < o + n ∧ o < i + vs.length then lostRow (w.setCells m i vs) b o n else rowOf w b o n := by
 by_cases h : m = b ∧ i = o ∧ vs.length = n
 ·rw [if_pos h]
  obtain ⟨rfl, rfl, rfl⟩ := h
  cases hr : rowOf w m i vs.length with
  | none =>
   rw [Option.map_none]
   unfold rowOf at hr ⊢
   split at hr
   ·cases hr
   ·rename_i hn
    rw [if_neg]
    intro k
    apply hn
    intro j hj
    have := k j hj
    rw [setCells_cell_if] at this
    split at this <;> simpa using this
  | some c =>
   rw [Option.map_some]
   refine rowOf_some (by simp) fun j hj => ?_
   have hc := rowOf_cell hr hj
   have hs := rowOf_size hr
   rw [setCells_cell_if, if_pos ⟨rfl, by omega, by omega⟩, hc, show i + j - i = j by omega]
   simp [hs, hj]
 ·rw [if_neg h]
  by_cases h' : m = b ∧ i < o + n ∧ o < i + vs.length
  ·rw [if_pos h']; rfl
  ·rw [if_neg h']
   exact rowOf_congr fun j hj => by rw [setCells_cell_if, if_neg (fun k => h' ⟨k.1.symm, by omega, by omega⟩)]
def roomOf (w : World) (b o n : Nat) : Bool := decide (∀ i, i < n → (w.cell? ⟨b, o + i, none⟩).isSome = true ∧ w.frozen? ⟨b, o + i, none⟩ = false)
theorem roomOf_congr {w w' : World} {b o n : Nat} (h : ∀ i, i < n → (w'.cell? ⟨b, o + i, none⟩).isSome = (w.cell? ⟨b, o + i, none⟩).isSome) (k : ∀ i, i < n → w'.frozen? ⟨b, o + i, none⟩ = w.frozen? ⟨b, o + i, none⟩) : roomOf w' b o n = roomOf w b o n := by
 unfold roomOf
 congr 1
 apply propext
 constructor
 ·intro q i hi; rw [← h i hi, ← k i hi]; exact q i hi
 ·intro q i hi; rw [h i hi, k i hi]; exact q i hi
theorem roomOf_of_cells {w : World} {b : Nat} {cs : Array Value} (h : ∀ i, w.cell? ⟨b, i, none⟩ = cs[i]?) (hf : ∀ i, w.frozen? ⟨b, i, none⟩ = false) (o n : Nat) : roomOf w b o n = decide (n = 0 ∨ o + n ≤ cs.size) := by
 unfold roomOf
 congr 1
 apply propext
 constructor
 ·intro q
  by_cases h0 : n = 0
  ·exact .inl h0
  ·have := (q (n - 1) (by omega)).1
   rw [h] at this
   right
   by_cases hle : o + n ≤ cs.size
   ·exact hle
   ·rw [Array.getElem?_eq_none (by omega)] at this
    cases this
 ·rintro (rfl | hle) i hi
  ·exact absurd hi (Nat.not_lt_zero _)
  ·refine ⟨?_, hf _⟩
   rw [h, Array.getElem?_eq_getElem (by omega)]
   rfl
def lostRoom (w : World) (b o n : Nat) : Bool := roomOf w b o n
theorem roomOf_later (w : World) (x : Later) (b o n : Nat) : roomOf (later w x) b o n = if b < w.heap.size then roomOf w b o n else lostRoom (later w x) b o n := by
 by_cases h : b < w.heap.size
 ·rw [if_pos h]; exact roomOf_congr (fun i _ => by rw [later_cell w x b (o + i) h]) (fun i _ => later_frozen w x b (o + i) h)
 ·rw [if_neg h]; rfl
theorem roomOf_alloc (w : World) (c : Array Value) (t : TypeId) (b o n : Nat) : roomOf (w.alloc (.cells c t)) b o n = if b = w.heap.size then decide (n = 0 ∨ o + n ≤ c.size) else roomOf w b o n := by
 by_cases h : b = w.heap.size
 ·subst h
  rw [if_pos rfl]
  exact roomOf_of_cells (fun i => by rw [alloc_cell_if, if_pos rfl]) (fun i => by rw [alloc_frozen_if, if_pos rfl]) o n
 ·rw [if_neg h]
  exact roomOf_congr (fun i _ => by rw [alloc_cell_if, if_neg h]) (fun i _ => by rw [alloc_frozen_if, if_neg h])
theorem roomOf_drew (w : World) (b o n : Nat) : roomOf w.drew b o n = roomOf w b o n := roomOf_congr (fun _ _ => rfl) (fun _ _ => rfl)
theorem roomOf_set (w : World) (m i b o n : Nat) (v : Value) : roomOf (w.setCell ⟨m, i, none⟩ v) b o n = roomOf w b o n :=
 roomOf_congr (fun j _ => by rw [set_cell_if]; split <;> simp) (fun j _ => World.frozen?_setCell ..)
theorem roomOf_setCells (w : World) (m i b o n : Nat) (vs : List Value) : roomOf (w.setCells m i vs) b o n = roomOf w b o n :=
 roomOf_congr (fun j _ => by rw [setCells_cell_if]; split <;> simp) (fun j _ => setCells_frozen ..)
def RowTy (P : Program) (ty : TypeId) (n : Nat) : Prop := (P.underlying ty).any (·.isRow) = true ∧ (P.info? ty).map (·.size) = some n
def rowLoad (ty : TypeId) (n : Nat) (v : Value) : Sem Next := do pure (.value (← Instr.loadAt ty v))
def rowRaw (P : Program) (w : World) (ty : TypeId) (n b o : Nat) : Result Next := (rowLoad ty n (.pointer (some ⟨b, o, none⟩))).run P w
def rowLoadR (P : Program) (w : World) (ty : TypeId) (n b o : Nat) : Option (Array Value) → Result Next
 | some cs => .ok (.value (.agg cs)) w
 | none => rowRaw P w ty n b o
theorem rowLoadR_some (P : Program) (w : World) (ty : TypeId) (n b o : Nat) (cs : Array Value) : rowLoadR P w ty n b o (some cs) = .ok (.value (.agg cs)) w := rfl
theorem run_loadVar_row {P : Program} {ty : TypeId} {n : Nat} (h : RowTy P ty n) {w : World} {b o : Nat} {cs : Array Value} (hr : rowOf w b o n = some cs) :
  (loadVar ty ⟨b, o, none⟩).run P w = .ok (.agg cs) w := by
 obtain ⟨h1, h2⟩ := h
 cases hu : P.underlying ty with
 | none => simp [hu] at h1
 | some d =>
  rw [hu] at h1
  have := run_loadVar_mid (P := P) w b o ty cs.toList d (rowOf_range hr) hu (by simpa using h1) (by rw [h2]; simp [rowOf_size hr])
  simpa using this
theorem run_rowLoad {P : Program} {ty : TypeId} {n : Nat} (h : RowTy P ty n) (w : World) (b o : Nat) :
  (rowLoad ty n (.pointer (some ⟨b, o, none⟩))).run P w = rowLoadR P w ty n b o (rowOf w b o n) := by
 cases hr : rowOf w b o n with
 | none => rfl
 | some cs =>
  have := run_loadVar_row h hr
  simp only [rowLoad, Instr.loadAt, Instr.sureAddr, Sem.run_bind, Sem.run_pure, Result.andThen_ok, this, rowLoadR]
def varRes (P : Program) (w : World) (ty : TypeId) (b o : Nat) : Option (Array Value) → Result Value
 | some cs => .ok (.agg cs) w
 | none => (loadVar ty ⟨b, o, none⟩).run P w
theorem varRes_some (P : Program) (w : World) (ty : TypeId) (b o : Nat) (cs : Array Value) : varRes P w ty b o (some cs) = .ok (.agg cs) w := rfl
theorem loadVar_row {P : Program} {ty : TypeId} {n : Nat} (h : RowTy P ty n) (w : World) (b o : Nat) : (loadVar ty ⟨b, o, none⟩).run P w = varRes P w ty b o (rowOf w b o n) := by
 cases hr : rowOf w b o n with
 | none => rfl
 | some cs => exact run_loadVar_row h hr
def fitsRow (n : Nat) (cells : Array Value) : Bool := cells.size == n && cells.all (·.oneCell')
def rowStore (ty : TypeId) (n : Nat) (v x : Value) : Sem Next := do Instr.storeAt ty v x; pure .skip
def rowStoreRaw (P : Program) (w : World) (ty : TypeId) (n b o : Nat) (cells : Array Value) : Result Next := (rowStore ty n (.pointer (some ⟨b, o, none⟩)) (.agg cells)).run P w
def rowStoreR (P : Program) (w : World) (ty : TypeId) (n b o : Nat) (cells : Array Value) : Bool → Result Next
 | true => .ok .skip (w.setCells b o cells.toList)
 | false => rowStoreRaw P w ty n b o cells
theorem rowStoreR_true (P : Program) (w : World) (ty : TypeId) (n b o : Nat) (cells : Array Value) : rowStoreR P w ty n b o cells true = .ok .skip (w.setCells b o cells.toList) := rfl
theorem run_rowStore {P : Program} {ty : TypeId} {n : Nat} (h : RowTy P ty n) (w : World) (b o : Nat) (cells : Array Value) :
  (rowStore ty n (.pointer (some ⟨b, o, none⟩)) (.agg cells)).run P w = rowStoreR P w ty n b o cells (roomOf w b o n && fitsRow n cells) := by
 cases hr : roomOf w b o n && fitsRow n cells with
 | false => rfl
 | true =>
  rw [Bool.and_eq_true] at hr
  obtain ⟨h1, h2⟩ := hr
  unfold fitsRow at h2
  rw [Bool.and_eq_true] at h2
  obtain ⟨h2, h3⟩ := h2
  have hs : cells.size = n := by simpa using h2
  have ht : w.there b o cells.size := by
   rw [hs]
   unfold roomOf at h1
   simp only [decide_eq_true_eq] at h1
   exact h1
  have := run_storeVar_mid (P := P) w b o ty cells ht (by rw [h.2, hs]) h3
  simp only [rowStore, Instr.storeAt, Instr.sureAddr, Sem.run_bind, Sem.run_pure, Result.andThen_ok, this, rowStoreR]
def rowAlloc (ty : TypeId) : Sem Next := do pure (.value (← Instr.alloc ty true (.tuple #[])))
theorem run_rowAlloc {P : Program} {ty : TypeId} {z : Array Value} (h : (P.info? ty).bind (·.zero) = some (.agg z)) (w : World) :
  (rowAlloc ty).run P w = .ok (.value (.pointer (some ⟨w.heap.size, 0, none⟩))) (w.alloc (.cells z ty)) := by
 cases hq : P.info? ty with
 | none => simp [hq] at h
 | some i =>
  have hz : i.zero = some (.agg z) := by simpa [hq] using h
  simp [rowAlloc, Instr.alloc, zeroValue, typeInfo, hq, hz, newVar, newRow, Value.cells, go_sem]
attribute [go_sem] roomOf_later roomOf_alloc roomOf_drew roomOf_set roomOf_setCells
attribute [go_sem] rowOf_later rowOf_alloc rowOf_drew rowOf_set rowOf_setCells setCells_cell_if setCells_frozen setCells_size
attribute [go_sem] rowLoadR_some rowStoreR_true varRes_some
def ResIs (P : Program) (w : World) (tmps : Array Value) (v : Value) : ResultVar → Prop
 | .tmp t => tmps[t]?.getD undef = v
 | .cell a ty => ∃ ad, tmps[a]?.getD undef = .pointer (some ad) ∧ (loadVar ty ad).run P w = .ok v w
theorem post_one {P : Program} {fn : Func} {R : Ending → World → Prop} {a : Act} {w : World} {r : ResultVar} {v : Value} (h : fn.results = #[r]) (hd : a.defers = []) (h1 : ResIs P w a.tmps v r) (hR : R (.returned v) w) : bodyPost P fn R .ret a w := by
 refine bodyPost_ret (v := v) ?_ hd hR
 cases r with
 | tmp t => simp only [ResIs] at h1; simp [results, h, h1]
 | cell ad ty =>
  obtain ⟨ad, k1, k2⟩ := h1
  simp [results, h, k1, asAddr, k2]
theorem post_two {P : Program} {fn : Func} {R : Ending → World → Prop} {a : Act} {w : World} {r1 r2 : ResultVar} {v1 v2 : Value} (h : fn.results = #[r1, r2]) (hd : a.defers = []) (h1 : ResIs P w a.tmps v1 r1) (h2 : ResIs P w a.tmps v2 r2) (hR : R (.returned (.tuple #[v1, v2])) w) : bodyPost P fn R .ret a w := by
 refine bodyPost_ret (v := .tuple #[v1, v2]) ?_ hd hR
 cases r1 with
 | tmp t1 =>
  simp only [ResIs] at h1
  cases r2 with
  | tmp t2 => simp only [ResIs] at h2; simp [results, h, h1, h2]
  | cell a2 ty2 =>
   obtain ⟨ad2, k3, k4⟩ := h2
   simp [results, h, h1, k3, asAddr, k4]
 | cell a1 ty1 =>
  obtain ⟨ad1, k1, k2⟩ := h1
  cases r2 with
  | tmp t2 => simp only [ResIs] at h2; simp [results, h, h2, k1, asAddr, k2]
  | cell a2 ty2 =>
   obtain ⟨ad2, k3, k4⟩ := h2
   simp [results, h, k1, k3, asAddr, k2, k4]
theorem post_row {P : Program} {fn : Func} {R : Ending → World → Prop} {a : Act} {w : World} {t : Tmp} {ty : TypeId} {n b : Nat} {cs : Array Value} (hty : RowTy P ty n) (h : fn.results = #[.cell t ty])
  (hp : a.tmps[t]?.getD undef = .pointer (some ⟨b, 0, none⟩)) (hd : a.defers = []) (hr : rowOf w b 0 n = some cs) (hR : R (.returned (.agg cs)) w) : bodyPost P fn R .ret a w :=
 post_one h hd ⟨_, hp, run_loadVar_row hty hr⟩ hR
def arrRaw (P : Program) (ty : TypeId) (w : World) (a : Option Addr) (len cap : Nat) : Result Value := (Instr.arrayAt ty (.slice a len cap)).run P w
theorem arr_at {P : Program} {ty e : TypeId} {n : Nat} (h : P.underlying ty = some (.array n e)) (w : World) (a : Option Addr) (len cap : Nat) : (Instr.arrayAt ty (.slice a len cap)).run P w = if n ≤ len then .ok (.pointer a) w else arrRaw P ty w a len cap := by
 by_cases hn : n ≤ len
 ·rw [if_pos hn]
  simp [Instr.arrayAt, run_underlying h, Nat.not_lt.2 hn]
 ·rw [if_neg hn]; rfl
theorem run_index_arr {P : Program} {ty e : TypeId} {n : Nat} {k : IntKind} (hu : P.underlying ty = some (.array n e)) (he : P.underlying e = some (.int k)) (hs : (P.info? e).map (·.size) = some 1) (cs : Array Value) (i : Nat) (v : Value) (hi : i < n) (hv : cs[i]? = some v) (W : World) :
  (Instr.index ty (.agg cs) (.int .i64 (i : Int))).run P W = .ok v W := by
 have h1 : ((0 : Int) ≤ (i : Int) ∧ (i : Int) < (n : Int)) := by omega
 cases hq : P.info? e with
 | none => simp [hq] at hs
 | some x =>
  have hs' : x.size = 1 := by simpa [hq] using hs
  simp [Instr.index, asIntOf, run_underlying hu, part, isAgg, run_underlying he, sizeOf, typeInfo, hq, hs', hv, hi]
theorem wp_world {P : Program} {c : Code} {Q : Exit → Act → World → Prop} {a : Act} {w : World} (R : World → Prop) (h : R w) (k : ∀ W, R W → c.wp P Q a W) : c.wp P Q a w := k w h
def RowAt (w : World) (b : Nat) (cs : Array Value) : Prop := ∃ t, w.heap[b]? = some (.cells cs t (0, 0))
theorem RowAt.lt {w : World} {b : Nat} {cs : Array Value} (h : RowAt w b cs) : b < w.heap.size := by
 obtain ⟨t, h⟩ := h
 exact (Array.getElem?_eq_some_iff.1 h).1
theorem RowAt.cell {w : World} {b : Nat} {cs : Array Value} (h : RowAt w b cs) (i : Nat) : w.cell? ⟨b, i, none⟩ = cs[i]? := by
 obtain ⟨t, h⟩ := h
 simp [World.cell?, h]
theorem RowAt.free {w : World} {b : Nat} {cs : Array Value} (h : RowAt w b cs) (i : Nat) : w.frozen? ⟨b, i, none⟩ = false := by
 obtain ⟨t, h⟩ := h
 simp [World.frozen?, h]
theorem RowAt.row {w : World} {b : Nat} {cs : Array Value} (h : RowAt w b cs) (o n : Nat) : rowOf w b o n = if n = 0 then some #[] else rowSub cs o n := rowOf_of_cells h.cell o n
theorem RowAt.all {w : World} {b n : Nat} {cs : Array Value} (h : RowAt w b cs) (hn : n = cs.size) (h0 : 0 < n) : rowOf w b 0 n = some cs := by
 rw [h.row, if_neg (by omega), rowSub_all _ _ hn]
theorem RowAt.room {w : World} {b : Nat} {cs : Array Value} (h : RowAt w b cs) (o n : Nat) : roomOf w b o n = decide (n = 0 ∨ o + n ≤ cs.size) := roomOf_of_cells h.cell h.free o n
theorem RowAt.ext {w w' : World} {b : Nat} {cs : Array Value} (h : RowAt w b cs) (hx : Ext w w') : RowAt w' b cs := by
 obtain ⟨t, k⟩ := h
 exact ⟨t, (hx.below.block b (Array.getElem?_eq_some_iff.1 k).1).trans k⟩
theorem RowAt.set {w : World} {b : Nat} {cs : Array Value} (h : RowAt w b cs) (i : Nat) (v : Value) : RowAt (w.setCell ⟨b, i, none⟩ v) b (cs.setIfInBounds i v) := by
 obtain ⟨t, k⟩ := h
 exact ⟨t, heap_setCell_same w b i cs t v k⟩
theorem RowAt.other {w : World} {b : Nat} {cs : Array Value} (h : RowAt w b cs) {p : Addr} (hp : b ≠ p.block) (v : Value) : RowAt (w.setCell p v) b cs := by
 obtain ⟨t, k⟩ := h
 exact ⟨t, (heap_setCell_other w p b v hp).trans k⟩
theorem RowAt.new (w : World) (cs : Array Value) (t : TypeId) : RowAt (w.alloc (.cells cs t)) w.heap.size cs := ⟨t, heap_alloc_new w _⟩
theorem RowAt.newAt {w : World} {cs : Array Value} {t : TypeId} {b : Nat} (h : b = w.heap.size) : RowAt (w.alloc (.cells cs t)) b cs := by subst h; exact RowAt.new w cs t
theorem RowAt.alloc {w : World} {b : Nat} {cs : Array Value} (h : RowAt w b cs) (o : Obj) : RowAt (w.alloc o) b cs := h.ext ((Ext.refl w).alloc o)
theorem RowAt.later {w : World} {b : Nat} {cs : Array Value} (h : RowAt w b cs) (x : Later) : RowAt (later w x) b cs := h.ext (ext_later w x)
theorem RowAt.drew {w : World} {b : Nat} {cs : Array Value} (h : RowAt w b cs) : RowAt w.drew b cs := h.ext ((Ext.refl w).drew)
theorem RowAt.others {w : World} {b : Nat} {cs : Array Value} (h : RowAt w b cs) {m : Nat} (hm : b ≠ m) (o : Nat) (vs : List Value) : RowAt (w.setCells m o vs) b cs := by
 induction vs generalizing o w with
 | nil => exact h
 | cons v r ih => exact ih (h.other (p := ⟨m, o, none⟩) hm v) (o + 1)
def laidOver (cs : Array Value) (o : Nat) : List Value → Array Value
 | [] => cs
 | v :: r => laidOver (cs.setIfInBounds o v) (o + 1) r
theorem RowAt.sets {w : World} {b : Nat} {cs : Array Value} (h : RowAt w b cs) (o : Nat) (vs : List Value) : RowAt (w.setCells b o vs) b (laidOver cs o vs) := by
 induction vs generalizing o w cs with
 | nil => exact h
 | cons v r ih => exact ih (h.set o v) (o + 1)
theorem laidOver_eq (vs : List Value) : ∀ (cs : Array Value) (o : Nat), o + vs.length ≤ cs.size → laidOver cs o vs = (cs.toList.take o ++ vs ++ cs.toList.drop (o + vs.length)).toArray := by
 induction vs with
 | nil => intro cs o h; simp [laidOver]
 | cons v r ih =>
  intro cs o h
  simp only [List.length_cons] at h
  rw [laidOver, ih _ _ (by simp; omega)]
  congr 1
  simp only [Array.toList_setIfInBounds, List.length_cons]
  rw [List.take_set, List.drop_set, if_pos (by omega)]
  have hl : o < cs.toList.length := by simp; omega
  have e1 : (cs.toList.take (o + 1)).set o v = cs.toList.take o ++ [v] := by
   rw [List.take_succ_eq_append_getElem hl, List.set_append_right _ _ (by simp; omega)]
   simp [show o - min o cs.size = 0 by omega]
  rw [e1, show o + 1 + r.length = o + (r.length + 1) by omega]
  simp
theorem laidOver_all (vs : List Value) (cs : Array Value) (h : vs.length = cs.size) : laidOver cs 0 vs = vs.toArray := by
 rw [laidOver_eq vs cs 0 (by omega)]
 simp [h]
theorem RowAt.setAll {w : World} {b : Nat} {cs : Array Value} (h : RowAt w b cs) {vs : List Value} (hv : vs.length = cs.size) : RowAt (w.setCells b 0 vs) b vs.toArray := by
 have := h.sets 0 vs
 rwa [laidOver_all vs cs hv] at this
theorem RowAt.store {w : World} {b : Nat} {cs ds : Array Value} (h : RowAt w b cs) (hs : ds.size = cs.size) : RowAt (w.setCells b 0 ds.toList) b ds := by
 have := h.setAll (vs := ds.toList) (by simpa using hs)
 rwa [Array.toArray_toList] at this
theorem RowAt.stored {w : World} {b n : Nat} {cs ds : Array Value} (h : RowAt w b cs) (hs : ds.size = cs.size) (hn : n = ds.size) (h0 : 0 < n) : rowOf (w.setCells b 0 ds.toList) b 0 n = some ds := (h.store hs).all hn h0
theorem RowAt.lay {w : World} {b : Nat} {cs ds : Array Value} {vs : List Value} (h : RowAt w b cs) (hs : vs.length = cs.size) (e : vs.toArray = ds) : RowAt (w.setCells b 0 vs) b ds := by
 subst e
 exact h.setAll hs
def cells32 (l : List Int) : Array Value := (l.map fun x => Value.int .u32 x).toArray
theorem cells32_size (l : List Int) : (cells32 l).size = l.length := by simp [cells32]
theorem cells32_get (l : List Int) (i : Nat) : (cells32 l)[i]? = if i < l.length then some (.int .u32 (l.getD i 0)) else none := by
 simp only [cells32, List.getElem?_toArray, List.getElem?_map]
 by_cases h : i < l.length
 ·simp [h]
 ·simp [h]
theorem cells32_set (l : List Int) (i : Nat) (x : Int) : (cells32 l).setIfInBounds i (.int .u32 x) = cells32 (l.set i x) := by simp [cells32]
theorem cells32_sub (l : List Int) (n : Nat) (h : n = l.length) : rowSub (cells32 l) 0 n = some (cells32 l) := rowSub_all _ _ (by rw [cells32_size]; exact h)
theorem fits32 {l : List Int} {n : Nat} (h : l.length = n) : fitsRow n (cells32 l) = true := by
 simp [fitsRow, cells32, h, Value.oneCell']
theorem RowAt.set32 {w : World} {b : Nat} {l l' : List Int} (h : RowAt w b (cells32 l)) {i : Nat} {x : Int} (e : l.set i x = l') : RowAt (w.setCell ⟨b, i, none⟩ (.int .u32 x)) b (cells32 l') := by
 have := h.set i (.int .u32 x)
 rwa [cells32_set, e] at this
def cells8 (l : List Int) : Array Value := (l.map fun x => Value.int .u8 x).toArray
theorem cells8_size (l : List Int) : (cells8 l).size = l.length := by simp [cells8]
theorem cells8_get (l : List Int) (i : Nat) : (cells8 l)[i]? = if i < l.length then some (.int .u8 (l.getD i 0)) else none := by
 simp only [cells8, List.getElem?_toArray, List.getElem?_map]
 by_cases h : i < l.length
 ·simp [h]
 ·simp [h]
theorem cells8_set (l : List Int) (i : Nat) (x : Int) : (cells8 l).setIfInBounds i (.int .u8 x) = cells8 (l.set i x) := by simp [cells8]
theorem fits8 {l : List Int} {n : Nat} (h : l.length = n) : fitsRow n (cells8 l) = true := by
 simp [fitsRow, cells8, h, Value.oneCell']
theorem RowAt.set8 {w : World} {b : Nat} {l l' : List Int} (h : RowAt w b (cells8 l)) {i : Nat} {x : Int} (e : l.set i x = l') : RowAt (w.setCell ⟨b, i, none⟩ (.int .u8 x)) b (cells8 l') := by
 have := h.set i (.int .u8 x)
 rwa [cells8_set, e] at this
theorem fitsRow32 (n : Nat) (l : List Int) : fitsRow n (cells32 l) = decide (l.length = n) := by
 by_cases h : l.length = n
 ·rw [fits32 h]; simp [h]
 ·simp [fitsRow, cells32, h]
theorem fitsRow8 (n : Nat) (l : List Int) : fitsRow n (cells8 l) = decide (l.length = n) := by
 by_cases h : l.length = n
 ·rw [fits8 h]; simp [h]
 ·simp [fitsRow, cells8, h]
theorem cells8_sub (l : List Int) (n : Nat) (h : n = l.length) : rowSub (cells8 l) 0 n = some (cells8 l) := rowSub_all _ _ (by rw [cells8_size]; exact h)
attribute [go_sem] cells32_size cells8_size fitsRow32 fitsRow8 cells32_sub cells8_sub
theorem list_set_getD (l : List Int) (i : Nat) : l.set i (l.getD i 0) = l := by
 by_cases h : i < l.length
 ·rw [List.getD_eq_getElem?_getD, List.getElem?_eq_getElem h, Option.getD_some, List.set_getElem_self]
 ·rw [List.set_eq_of_length_le (by omega)]
theorem calls_world {P : Program} {f : FuncId} {args : Array Value} {w : World} {R : Ending → World → Prop} (G : World → Prop) (h : G w) (k : ∀ W, G W → Calls P f args W R) : Calls P f args w R := k w h
end Go.Proofs.YtmgekdggahoboaaGreatDoor

namespace Go.Proofs.YtmgekdggahoboaaGreatDoor
open Go.RowKit
open Go.Proofs
def bts (s : ByteArray) : List Int := s.data.toList.map fun b => (b.toNat : Int)
theorem bts_length (s : ByteArray) : (bts s).length = s.size := by simp [bts]
theorem bts_byte (s : ByteArray) : ∀ x ∈ bts s, 0 ≤ x ∧ x < 256 := by
 intro x hx
 simp only [bts, List.mem_map] at hx
 obtain ⟨b, _, rfl⟩ := hx
 have := b.toNat_lt
 omega
theorem getD_byte {l : List Int} (h : ∀ x ∈ l, 0 ≤ x ∧ x < 256) (i : Nat) : 0 ≤ l.getD i 0 ∧ l.getD i 0 < 256 := by
 by_cases hi : i < l.length
 ·rw [List.getD_eq_getElem?_getD, List.getElem?_eq_getElem hi, Option.getD_some]
  exact h _ (List.getElem_mem hi)
 ·rw [List.getD_eq_getElem?_getD, List.getElem?_eq_none (by omega)]
  decide
theorem bts_cells (s : ByteArray) : s.data.toList.map (fun x => Value.int .u8 (x.toNat : Int)) = (cells8 (bts s)).toList := by simp [cells8, bts]
section
variable {P : Program}
theorem run_copy_str (w : World) (dT sT ty elem : TypeId) (b o dLen dCap : Nat) (t : ByteArray)
  (hu : P.underlying dT = some (.slice elem)) (hz : ∀ w, (Go.sizeOf elem).run P w = .ok 1 w) (hr : roomOf w b o (min t.size dLen) = true) :
  (Builtin.copy_ #[dT, sT] ty #[.slice (some ⟨b, o, none⟩) dLen dCap, .string t]).run P w = .ok (goInt ((min t.size dLen : Nat) : Int)) (w.setCells b o ((cells8 (bts t)).toList.take (min t.size dLen))) := by
 have hrm : ∀ i, i < min t.size dLen → (w.cell? ⟨b, o + i, none⟩).isSome = true ∧ w.frozen? ⟨b, o + i, none⟩ = false := by
  unfold roomOf at hr
  simpa only [decide_eq_true_eq] using hr
 have hl : ((t.data.toList.map fun x => Value.int .u8 (x.toNat : Int)).take (min t.size dLen)).length = min t.size dLen := by
  rw [List.length_take, List.length_map]
  simp
 have hst := run_storeCells_cells (P := P) b o ((t.data.toList.map fun x => Value.int .u8 (x.toNat : Int)).take (min t.size dLen)) 0 w (by rw [hl]; intro j hj; simpa using (hrm j hj).1) (by rw [hl]; intro j hj; simpa using (hrm j hj).2) (by
  intro v hv
  obtain ⟨x, _, rfl⟩ := List.mem_map.1 (List.mem_of_mem_take hv)
  rfl)
 have hm : Nat.min t.size dLen = min t.size dLen := rfl
 simp [Builtin.copy_, run_underlying hu, Builtin.lenOf, Builtin.firstCells, hz, hm]
 rw [← bts_cells]
 rw [hst]
 simp [Result.andThen]
theorem wpList_copy_str {ops : Array Oper} {rest : List Oper} {dst : Option Tmp} {ty : TypeId} {pos : String} {after : Array Edge} {a : Act} {w : World} {Q : Exit → Act → World → Prop} (d x : Operand) (dT sT elem : TypeId)
  (hu : P.underlying dT = some (.slice elem)) (hz : ∀ w, (Go.sizeOf elem).run P w = .ok 1 w)
  (b o dLen dCap : Nat) (hd : a.eval d = .slice (some ⟨b, o, none⟩) dLen dCap) (t : ByteArray) (hx : a.eval x = .string t) (hr : roomOf w b o (min t.size dLen) = true)
  (h : wpList P ops Q rest (a.put dst (goInt ((min t.size dLen : Nat) : Int))) (w.setCells b o ((cells8 (bts t)).toList.take (min t.size dLen)))) :
  wpList P ops Q ({ dst, op := .call { callee := .builtin .copy, args := #[d, x], argTypes := #[dT, sT] }, type := ty, pos, after, guard := none } :: rest) a w :=
 wpList_plain rfl fun K hK => by
  have hrun := run_copy_str (P := P) w dT sT ty elem b o dLen dCap t hu hz hr
  unfold Oper.wp
  simp [execOp, resolve, invoke, builtin, hd, hx, hrun, Result.andThen]
  exact hK _ _ h
end
end Go.Proofs.YtmgekdggahoboaaGreatDoor

namespace Go.Proofs.YtmgekdggahoboaaGreatDoor
open Go.RowKit
open Go.Proofs
structure ElemTy (P : Program) (t e : TypeId) (size bytes : Nat) : Prop where
 ut : P.underlying t = some (.slice e)
 info : (P.info? e).map (fun i => (i.zero.map (fun z => z.cells.size), i.size, i.bytes)) = some (some size, size, bytes)
 pos : 0 < size
theorem ElemTy.parts {P : Program} {t e : TypeId} {size bytes : Nat} (h : ElemTy P t e size bytes) : ∃ i z, P.info? e = some i ∧ i.zero = some z ∧ i.size = size ∧ i.bytes = bytes ∧ z.cells.size = size := by
 have k := h.info
 cases hi : P.info? e with
 | none => simp [hi] at k
 | some i =>
  cases hz : i.zero with
  | none => simp [hi, hz] at k
  | some z =>
   simp [hi, hz] at k
   exact ⟨i, z, rfl, hz, k.2.1, k.2.2, k.1⟩
structure EncTy {α : Type} (enc : α → List Value) (size : Nat) : Prop where
 len : ∀ x, (enc x).length = size
 one : ∀ x, ∀ v ∈ enc x, v.oneCell' = true
theorem EncTy.flat_len {α : Type} {enc : α → List Value} {size : Nat} (h : EncTy enc size) : ∀ l : List α, (l.flatMap enc).length = l.length * size
 | [] => by simp
 | x :: l => by
  rw [List.flatMap_cons, List.length_append, h.len, h.flat_len l, List.length_cons, Nat.add_mul]
  omega
theorem EncTy.flat_one {α : Type} {enc : α → List Value} {size : Nat} (h : EncTy enc size) (l : List α) : ∀ v ∈ l.flatMap enc, v.oneCell' = true := by
 intro v hv
 obtain ⟨x, _, hx⟩ := List.mem_flatMap.1 hv
 exact h.one x v hx
theorem EncTy.flat_get {α : Type} {enc : α → List Value} {size : Nat} (h : EncTy enc size) : ∀ (l : List α) (i : Nat) (hi : i < l.length) (j : Nat), j < size → (l.flatMap enc)[i * size + j]? = (enc l[i])[j]?
 | [], i, hi, j, hj => by simp at hi
 | x :: l, 0, hi, j, hj => by
  rw [List.flatMap_cons, List.getElem?_append_left (by rw [h.len]; omega)]
  simp
 | x :: l, i + 1, hi, j, hj => by
  rw [List.flatMap_cons, List.getElem?_append_right (by rw [h.len, Nat.add_mul]; omega), h.len, show (i + 1) * size + j - size = i * size + j by rw [Nat.add_mul]; omega]
  exact h.flat_get l i (by simpa using hi) j hj
def Owns {α : Type} (e : TypeId) (size : Nat) (enc : α → List Value) (base : Nat) (w : World) (A : Option Addr) (c : Nat) (l : List α) : Prop := w.ownsRow base e size (.slice A l.length c) l.length (l.flatMap enc)
def Reads {α : Type} (size : Nat) (enc : α → List Value) (w : World) (B : Nat) (A : Option Addr) (l : List α) : Prop :=
 0 < l.length → ∃ b off, A = some ⟨b, off, none⟩ ∧ b < B ∧ ∀ i (h : i < l.length) j v, (enc l[i])[j]? = some v → w.cell? ⟨b, off + i * size + j, none⟩ = some v
section
variable {α : Type} {e : TypeId} {size base : Nat} {enc : α → List Value} {w w' : World} {A : Option Addr} {c : Nat} {l : List α}
theorem Owns.nil (e : TypeId) (size : Nat) (enc : α → List Value) (base : Nat) (w : World) : Owns e size enc base w none 0 ([] : List α) := World.ownsRow_nil w base e size
theorem Owns.cases (h : Owns e size enc base w A c l) : (A = none ∧ c = 0 ∧ l = []) ∨ ∃ g cur, A = some ⟨g, 0, none⟩ ∧ base ≤ g ∧ w.heap[g]? = some (.cells cur e (0, 0)) ∧ l.length ≤ c ∧ c ≤ maxLen ∧ cur.size = c * size ∧ cur.toList.take (l.length * size) = l.flatMap enc := by
 rcases h.2 with ⟨h1, h2⟩ | ⟨g, cap, cur, h1, h2, h3, h4, h5, h6, h7⟩
 ·injection h1 with e1 e2 e3
  exact .inl ⟨e1, e3, List.eq_nil_of_length_eq_zero h2⟩
 ·injection h1 with e1 e2 e3
  subst e3
  exact .inr ⟨g, cur, e1, h2, h3, h4, h5, h6, h7⟩
theorem Owns.mk (E : EncTy enc size) {g : Nat} {cur : Array Value} (h2 : base ≤ g) (h3 : w.heap[g]? = some (.cells cur e (0, 0))) (h4 : l.length ≤ c) (h5 : c ≤ maxLen) (h6 : cur.size = c * size) (h7 : cur.toList.take (l.length * size) = l.flatMap enc) : Owns e size enc base w (some ⟨g, 0, none⟩) c l :=
 ⟨E.flat_len l, .inr ⟨g, c, cur, rfl, h2, h3, h4, h5, h6, h7⟩⟩
theorem Owns.lower (h : Owns e size enc base w A c l) {b2 : Nat} (hb : b2 ≤ base) : Owns e size enc b2 w A c l := by
 refine ⟨h.1, ?_⟩
 rcases h.2 with k | ⟨g, cap, cur, h1, h2, h3⟩
 ·exact .inl k
 ·exact .inr ⟨g, cap, cur, h1, by omega, h3⟩
theorem Owns.ext (h : Owns e size enc base w A c l) (hx : Ext w w') : Owns e size enc base w' A c l := by
 refine ⟨h.1, ?_⟩
 rcases h.2 with k | ⟨g, cap, cur, h1, h2, h3, h4⟩
 ·exact .inl k
 ·exact .inr ⟨g, cap, cur, h1, h2, (hx.below.block g (Array.getElem?_eq_some_iff.1 h3).1).trans h3, h4⟩
theorem Owns.alloc (h : Owns e size enc base w A c l) (o : Obj) : Owns e size enc base (w.alloc o) A c l := h.ext ((Ext.refl w).alloc o)
theorem Owns.later (h : Owns e size enc base w A c l) (x : Later) : Owns e size enc base (later w x) A c l := h.ext (ext_later w x)
theorem Owns.other (h : Owns e size enc base w A c l) {p : Addr} (hp : p.block < base) (v : Value) : Owns e size enc base (w.setCell p v) A c l := by
 refine ⟨h.1, ?_⟩
 rcases h.2 with k | ⟨g, cap, cur, h1, h2, h3, h4⟩
 ·exact .inl k
 ·exact .inr ⟨g, cap, cur, h1, h2, (heap_setCell_other w p g v (by omega)).trans h3, h4⟩
theorem Owns.others (h : Owns e size enc base w A c l) {m : Nat} (hm : m < base) (o : Nat) (vs : List Value) : Owns e size enc base (w.setCells m o vs) A c l := by
 induction vs generalizing o w with
 | nil => exact h
 | cons v r ih => exact ih (h.other (p := ⟨m, o, none⟩) hm v) (o + 1)
theorem Owns.reads (E : EncTy enc size) (h : Owns e size enc base w A c l) : Reads size enc w w.heap.size A l := by
 intro h0
 rcases h.cases with ⟨_, _, rfl⟩ | ⟨g, cur, rfl, h2, h3, h4, h5, h6, h7⟩
 ·simp at h0
 ·refine ⟨g, 0, rfl, (Array.getElem?_eq_some_iff.1 h3).1, fun i hi j v hv => ?_⟩
  have hj : j < size := by
   have := (List.getElem?_eq_some_iff.1 hv).1
   rwa [E.len] at this
  have k := E.flat_get l i hi j hj
  rw [hv, ← h7, List.getElem?_take] at k
  split at k
  ·simp only [World.cell?, h3]
   simpa using k
  ·cases k
theorem Owns.lt (h : Owns e size enc base w A c l) : ∀ a, A = some a → base ≤ a.block ∧ a.block < w.heap.size := by
 rintro a rfl
 rcases h.cases with ⟨k, _⟩ | ⟨g, cur, k, h2, h3, _⟩
 ·cases k
 ·injection k with k
  subst k
  exact ⟨h2, (Array.getElem?_eq_some_iff.1 h3).1⟩
theorem Reads.ext {B : Nat} (h : Reads size enc w B A l) (hx : Ext w w') (hB : B ≤ w.heap.size) : Reads size enc w' B A l := by
 intro h0
 obtain ⟨b, off, h1, h2, h3⟩ := h h0
 exact ⟨b, off, h1, h2, fun i hi j v hv => (hx.cell (p := ⟨b, off + i * size + j, none⟩) (by show b < _; omega)).trans (h3 i hi j v hv)⟩
theorem Reads.up {B B' : Nat} (h : Reads size enc w B A l) (hB : B ≤ B') : Reads size enc w B' A l := by
 intro h0
 obtain ⟨b, off, h1, h2, h3⟩ := h h0
 exact ⟨b, off, h1, by omega, h3⟩
theorem Reads.on (h : Reads size enc w w.heap.size A l) (hx : Ext w w') : Reads size enc w' w'.heap.size A l := (h.ext hx (Nat.le_refl _)).up hx.size
theorem Reads.below {B : Nat} (h : Reads size enc w B A l) (hx : Below B w w') : Reads size enc w' B A l := by
 intro h0
 obtain ⟨b, off, h1, h2, h3⟩ := h h0
 exact ⟨b, off, h1, h2, fun i hi j v hv => (hx.cell (p := ⟨b, off + i * size + j, none⟩) h2).trans (h3 i hi j v hv)⟩
theorem Reads.nil (size : Nat) (enc : α → List Value) (w : World) (B : Nat) (A : Option Addr) : Reads size enc w B A ([] : List α) := fun h => by simp at h
theorem RowAt.below {b : Nat} {cs : Array Value} (h : RowAt w b cs) {B : Nat} (hx : Below B w w') (hb : b < B) : RowAt w' b cs := by
 obtain ⟨t, k⟩ := h
 exact ⟨t, (hx.block b hb).trans k⟩
theorem Ext.grown {w0 : World} (h : Ext w0 w) {B : Nat} (hx : Below B w w') (hb : w0.heap.size ≤ B) : Ext w0 w' := Below.trans h (Below.mono hx hb)
end
theorem Owns.blk {α : Type} {e : TypeId} {size base : Nat} {enc : α → List Value} {w : World} {A : Option Addr} {c n : Nat} {l : List α} (h : Owns e size enc base w A c l) : ∀ k, (Value.slice A n c).ownBlock = some k → base ≤ k := by
 intro k hk
 cases A with
 | none => simp [Value.ownBlock] at hk
 | some a0 =>
  simp [Value.ownBlock] at hk
  subst hk
  exact (h.lt a0 rfl).1
theorem addr_add (b o j : Nat) : (⟨b, o, none⟩ : Addr).add j = ⟨b, o + j, none⟩ := by unfold Addr.add; split <;> simp_all
theorem flat_map {α β : Type} (f : α → β) : ∀ l : List α, l.flatMap (fun a => [f a]) = l.map f
 | [] => rfl
 | x :: l => by rw [List.flatMap_cons, flat_map f l]; rfl
theorem new_cells (w : World) (cs : Array Value) (t : TypeId) : ∀ j u, cs.toList[j]? = some u → (w.alloc (.cells cs t)).cell? ((⟨w.heap.size, 0, none⟩ : Addr).add j) = some u := by
 intro j u hu
 rw [addr_add, Nat.zero_add, alloc_cell_if, if_pos rfl]
 simpa using hu
theorem Below.of_grownBy {w w' : World} {row : Option Nat} {B : Nat} (h : w.grownBy w' row) (hr : ∀ k, row = some k → B ≤ k) (hB : B ≤ w.heap.size) : Below B w w' :=
 ⟨h.os, h.tape, h.output, h.size, fun k hk => h.block k (by omega) (fun e => by have := hr k e.symm; omega)⟩
section
variable {P : Program} {w : World} {ops : Array Oper} {rest : List Oper} {o : Oper} {a : Act} {Q : Exit → Act → World → Prop} {α : Type} {enc : α → List Value} {t e : TypeId} {size bytes : Nat}
theorem app_from (T : ElemTy P t e size bytes) (E : EncTy enc size) (hgd : o.guard = none) (s x : Operand) (ho : o.op = .call { callee := .builtin .append, args := #[s, x], argTypes := #[t, t] })
  (base : Nat) (A : Option Addr) (c : Nat) (l : List α) (hs : a.eval s = .slice A l.length c) (hown : Owns e size enc base w A c l)
  (ad : Addr) (m c' : Nat) (news : List α) (hx : a.eval x = .slice (some ad) m c') (hm : news.length = m) (hnews : ∀ j u, (news.flatMap enc)[j]? = some u → w.cell? (ad.add j) = some u)
  (h63 : l.length + m ≤ 140737488355328) (hbytes : (l.length + m) * bytes ≤ 140737488355328) (hbase : base ≤ w.heap.size)
  (h : ∀ (A' : Option Addr) (c' : Nat) (l' : List α) (w' : World), Hid (l' = l ++ news) → Owns e size enc base w' A' c' l' → Below base w w' → l'.length ≤ l.length + m → l.length + m ≤ l'.length → w.grownBy w' (Value.slice A l.length c).ownBlock → wpList P ops Q rest (a.put o.dst (.slice A' l'.length c')) w') :
  wpList P ops Q (o :: rest) a w := by
 obtain ⟨i, z, hi, hz, h1, h2, h3⟩ := T.parts
 subst hm
 refine wpList_append_own w hgd s x t ho base e i z size bytes T.ut hi hz h1 h2 h3 T.pos _ l.length (l.flatMap enc) hs hown ad news.length c' (news.flatMap enc) hx (E.flat_len news) hnews (E.flat_one news) (by unfold maxLen; omega) hbytes hbase ?_
 intro v' w' k1 k2 k3
 have hl : (l ++ news).length = l.length + news.length := List.length_append
 have hv : ∃ A' c'', v' = .slice A' (l ++ news).length c'' := by
  rcases k1.2 with ⟨rfl, q⟩ | ⟨g, cap, cur, rfl, _⟩
  ·exact ⟨none, 0, by rw [hl, q]⟩
  ·exact ⟨_, _, by rw [hl]⟩
 obtain ⟨A', c'', rfl⟩ := hv
 refine h A' c'' (l ++ news) w' (lh rfl) ?_ (Below.of_grownBy k2 hown.blk hbase) (by omega) (by omega) k2
 ·unfold Owns
  rw [List.flatMap_append, hl]
  rw [hl] at k1
  exact k1
theorem app_reads (T : ElemTy P t e size bytes) (E : EncTy enc size) (hgd : o.guard = none) (s x : Operand) (ho : o.op = .call { callee := .builtin .append, args := #[s, x], argTypes := #[t, t] })
  (base : Nat) (A : Option Addr) (c : Nat) (l : List α) (hs : a.eval s = .slice A l.length c) (hown : Owns e size enc base w A c l)
  (B : Nat) (Ax : Option Addr) (cx : Nat) (news : List α) (hx : a.eval x = .slice Ax news.length cx) (hr : Reads size enc w B Ax news) (h0 : Ax = none → cx = 0)
  (h63 : l.length + news.length ≤ 140737488355328) (hbytes : (l.length + news.length) * bytes ≤ 140737488355328) (hbase : base ≤ w.heap.size)
  (h : ∀ (A' : Option Addr) (c' : Nat) (l' : List α) (w' : World), Hid (l' = l ++ news) → Owns e size enc base w' A' c' l' → Below base w w' → l'.length ≤ l.length + news.length → l.length + news.length ≤ l'.length → w.grownBy w' (Value.slice A l.length c).ownBlock → wpList P ops Q rest (a.put o.dst (.slice A' l'.length c')) w') :
  wpList P ops Q (o :: rest) a w := by
 cases Ax with
 | some ad =>
  refine app_from T E hgd s x ho base A c l hs hown ad news.length cx news hx rfl ?_ h63 hbytes hbase h
  intro j u hu
  have hj := (List.getElem?_eq_some_iff.1 hu).1
  rw [E.flat_len] at hj
  have hpos : 0 < news.length := by
   rcases Nat.eq_zero_or_pos news.length with q | q
   ·rw [q] at hj; simp at hj
   ·exact q
  obtain ⟨b, off, h1, _, h3⟩ := hr hpos
  injection h1 with h1
  subst h1
  have hd : j / size < news.length := Nat.div_lt_of_lt_mul (by rw [Nat.mul_comm]; exact hj)
  have hm : j % size < size := Nat.mod_lt _ T.pos
  have e1 : j = j / size * size + j % size := by rw [Nat.mul_comm]; exact (Nat.div_add_mod j size).symm
  have k := E.flat_get news (j / size) hd (j % size) hm
  rw [← e1, hu] at k
  have := h3 (j / size) hd (j % size) u k.symm
  rw [addr_add]
  rw [Nat.add_assoc, ← e1] at this
  exact this
 | none =>
  have hn : news = [] := by
   rcases Nat.eq_zero_or_pos news.length with q | q
   ·exact List.eq_nil_of_length_eq_zero q
   ·obtain ⟨b, off, h1, _⟩ := hr q
    cases h1
  subst hn
  have := h0 rfl
  subst this
  obtain ⟨i, z, hi, hz, h1, h2, h3⟩ := T.parts
  refine wpList_append_own_none hgd s x t ho base e i size T.ut hi _ l.length (l.flatMap enc) hs hown hx ?_
  exact h A c l w (lh (by simp)) hown (Below.refl _ _) (by simp) (by simp) ⟨rfl, rfl, rfl, Nat.le_refl _, fun _ _ _ => rfl⟩
end
def encB (x : Int) : List Value := [.int .u8 x]
theorem bE : EncTy encB 1 := ⟨fun _ => rfl, fun x v hv => by simp [encB] at hv; subst hv; rfl⟩
theorem bT : ElemTy Tryz.prog 154 5 1 1 := ⟨by kernel_rfl, by kernel_rfl, by omega⟩
abbrev OwnsB (base : Nat) (w : World) (A : Option Addr) (c : Nat) (l : List Int) : Prop := Owns 5 1 encB base w A c l
abbrev ReadsB (w : World) (B : Nat) (A : Option Addr) (l : List Int) : Prop := Reads 1 encB w B A l
theorem ReadsB.cell {w : World} {B : Nat} {A : Option Addr} {l : List Int} (h : ReadsB w B A l) (h0 : 0 < l.length) : ∃ b off, A = some ⟨b, off, none⟩ ∧ b < B ∧ ∀ i, i < l.length → w.cell? ⟨b, off + i, none⟩ = some (.int .u8 (l.getD i 0)) := by
 obtain ⟨b, off, h1, h2, h3⟩ := h h0
 refine ⟨b, off, h1, h2, fun i hi => ?_⟩
 have := h3 i hi 0 (.int .u8 l[i]) rfl
 rw [Nat.mul_one, Nat.add_zero] at this
 rw [this]
 simp [hi]
theorem conv_bytes {w : World} {B : Nat} {A : Option Addr} {l : List Int} (c : Nat) (h : ReadsB w B A l) (h0 : 0 < l.length) : (convert 154 9 (.slice A l.length c)).run Tryz.prog w = .ok (.string (strOfNums l)) w := by
 obtain ⟨b, off, rfl, _, h3⟩ := h.cell h0
 exact run_convert_bytes_arg w 154 5 (by kernel_rfl) (by kernel_rfl) b off l.length c l rfl h3 9 (by kernel_rfl)
theorem bts_nums {l : List Int} (h : ∀ x ∈ l, 0 ≤ x ∧ x < 256) : bts (strOfNums l) = l := by
 unfold bts
 rw [strOfNums_data, List.map_map]
 conv => rhs; rw [← List.map_id l]
 apply List.map_congr_left
 intro x hx
 have := h x hx
 simp
 omega
theorem bts_get (b : ByteArray) (k : Nat) (h : k < b.size) : (bts b).getD k 0 = (b[k].toNat : Int) := by
 have hl : k < b.data.toList.length := by simpa using h
 simp only [bts, List.getD_eq_getElem?_getD, List.getElem?_map, List.getElem?_eq_getElem hl, Option.map_some, Option.getD_some]
 rfl
theorem nums_bts (s : ByteArray) : strOfNums (bts s) = s := by
 apply ByteArray.ext
 apply Array.toList_inj.1
 rw [strOfNums_data]
 unfold bts
 rw [List.map_map]
 conv => rhs; rw [← List.map_id s.data.toList]
 apply List.map_congr_left
 intro x hx
 simp
section
variable {w : World} {ops : Array Oper} {rest : List Oper} {o : Oper} {a : Act} {Q : Exit → Act → World → Prop}
theorem app_str (hgd : o.guard = none) (s x : Operand) (ho : o.op = .call { callee := .builtin .append, args := #[s, x], argTypes := #[154, 9] })
  (base : Nat) (A : Option Addr) (c : Nat) (l : List Int) (hs : a.eval s = .slice A l.length c) (hown : OwnsB base w A c l) (r : ByteArray) (hx : a.eval x = .string r)
  (hbytes : l.length + r.size ≤ 140737488355328) (hbase : base ≤ w.heap.size)
  (h : ∀ (A' : Option Addr) (c' : Nat) (l' : List Int) (w' : World), Hid (l' = l ++ bts r) → OwnsB base w' A' c' l' → Below base w w' → l'.length ≤ l.length + r.size → l.length + r.size ≤ l'.length → wpList Tryz.prog ops Q rest (a.put o.dst (.slice A' l'.length c')) w') :
  wpList Tryz.prog ops Q (o :: rest) a w := by
 have hinf : (Tryz.prog.info? 5).map (fun i => (i.zero, i.size, i.bytes)) = some (some (.int .u8 0), 1, 1) := by kernel_rfl
 obtain ⟨i, hi, hz, h1, h2⟩ := info_parts hinf
 refine Lib.wpList_append_own_string w hgd s x 154 9 ho base 5 i (by kernel_rfl) (by kernel_rfl) hi hz h1 h2 _ l.length (l.flatMap encB) hs hown r hx (by unfold maxLen; omega) hbytes hbase ?_
 intro v' w' k1 k2 k3
 have hl : (l ++ bts r).length = l.length + r.size := by rw [List.length_append, bts_length]
 have hv : ∃ A' c'', v' = .slice A' (l ++ bts r).length c'' := by
  rcases k1.2 with ⟨rfl, q⟩ | ⟨g, cap, cur, rfl, _⟩
  ·exact ⟨none, 0, by rw [hl, q]⟩
  ·exact ⟨_, _, by rw [hl]⟩
 obtain ⟨A', c'', rfl⟩ := hv
 refine h A' c'' (l ++ bts r) w' (lh rfl) ?_ (Below.of_grownBy k2 hown.blk hbase) (by omega) (by omega)
 ·have e : (bts r).flatMap encB = Lib.strCells r := by
   rw [show encB = (fun x => [Value.int .u8 x]) from rfl, flat_map, bts, List.map_map]
   rfl
  show w'.ownsRow _ _ _ _ _ _
  rw [List.flatMap_append, hl, e]
  rw [hl] at k1
  exact k1
end
theorem Owns.none0 {α : Type} {e : TypeId} {size base : Nat} {enc : α → List Value} {w : World} {A : Option Addr} {c : Nat} {l : List α} (h : Owns e size enc base w A c l) : A = none → c = 0 := by
 rintro rfl
 rcases h.cases with ⟨_, h1, _⟩ | ⟨g, cur, h1, _⟩
 ·exact h1
 ·cases h1
def encStr (s : ByteArray) : List Value := [.string s]
theorem sE : EncTy encStr 1 := ⟨fun _ => rfl, fun x v hv => by simp [encStr] at hv; subst hv; rfl⟩
end Go.Proofs.YtmgekdggahoboaaGreatDoor

namespace Go.Proofs.YtmgekdggahoboaaGreatDoor
open Go.RowKit
open Go.Proofs
open Go.Proofs.Sp (Sp)
def encSp (s : Sp) : List Value := [.int .i64 s.1, .int .i64 s.2]
theorem spE : EncTy encSp 2 := ⟨fun _ => rfl, fun x v hv => by simp [encSp] at hv; rcases hv with rfl | rfl <;> rfl⟩
theorem spT : ElemTy Tryz.prog 94 54 2 16 := ⟨by kernel_rfl, by kernel_rfl, by omega⟩
abbrev ReadsSp (w : World) (B : Nat) (A : Option Addr) (l : List Sp) : Prop := Reads 2 encSp w B A l
abbrev OwnsSp (base : Nat) (w : World) (A : Option Addr) (c : Nat) (l : List Sp) : Prop := Owns 54 2 encSp base w A c l
theorem ReadsSp.cell {w : World} {B : Nat} {A : Option Addr} {l : List Sp} (h : ReadsSp w B A l) (i : Nat) (hi : i < l.length) : ∃ b off, A = some ⟨b, off, none⟩ ∧ b < B ∧ w.cell? ⟨b, off + i * 2, none⟩ = some (.int .i64 l[i].1) ∧ w.cell? ⟨b, off + i * 2 + 1, none⟩ = some (.int .i64 l[i].2) := by
 obtain ⟨b, off, h1, h2, h3⟩ := h (by omega)
 exact ⟨b, off, h1, h2, h3 i hi 0 _ rfl, h3 i hi 1 _ rfl⟩
def inB (s : Sp) (x : Int) : Bool := decide (s.1 ≤ x) && decide (x < s.2)
def hasB (l : List Sp) (x : Int) : Bool := l.any (inB · x)
theorem hasB_iff {l : List Sp} {x : Int} : hasB l x = true ↔ Sp.mem l x := by
 simp [hasB, inB, Sp.mem]
theorem rin_any (s : Sp) (x : Int) (w : World) : Calls Tryz.prog 132 #[.agg #[.int .i64 s.1, .int .i64 s.2], .int .i64 x] w fun e' w' => e' = .returned (.bool (inB s x)) ∧ Ext w w' := by
 go_enter Tryz.func132, Tryz.ntmps132
 go_wp2
 all_goals
  go_ret
  refine ⟨ret_bool ?_, (by (with_reducible repeat first|exact eR _|apply eD|apply eN|apply eA|apply eO|apply eS|apply eC);all_goals first|omega|simp <;> omega)⟩
  rw [Bool.eq_iff_iff]
  simp only [inB, Bool.and_eq_true, decide_eq_true_eq, Bool.false_eq_true, false_iff]
  omega
theorem any_take_snoc (f : Sp → Bool) (l : List Sp) (k : Nat) (h : k < l.length) : (l.take (k + 1)).any f = ((l.take k).any f || f l[k]) := by
 rw [List.take_succ_eq_append_getElem h, List.any_append, List.any_cons, List.any_nil, Bool.or_false]
theorem any_of_get {f : Sp → Bool} {l : List Sp} {k : Nat} (h : k < l.length) (hf : f l[k] = true) : l.any f = true := List.any_eq_true.2 ⟨l[k], List.getElem_mem h, hf⟩
theorem rhas_any (A : Option Addr) (c : Nat) (l : List Sp) (x : Int) (w : World) (hl : l.length ≤ 140737488355328) (hr : ReadsSp w w.heap.size A l) :
  Calls Tryz.prog 80 #[.slice A l.length c, .int .i64 x] w fun e' w' => e' = .returned (.bool (hasB l x)) ∧ Ext w w' := by
 have HR := lh hr
 clear hr
 go_enter Tryz.func80, Tryz.ntmps80
 go_wp2
 go_loopw [5] (fun i wr => ∃ k : Nat, k ≤ l.length ∧ i = .int .i64 k ∧ Ext w wr ∧ Hid ((l.take k).any (inB · x) = false)) (fun i _ => l.length - (intOf i).toNat)
 case atStart => exact ⟨0, Nat.zero_le _, rfl, eR _, lh rfl⟩
 case round =>
  obtain ⟨k, hk, rfl, hx, HN⟩ := hrel
  have HX := lh hx
  by_cases hlt : k < l.length
  ·obtain ⟨b, off, rfl, hb, c1, c2⟩ := ReadsSp.cell (HR.out.ext hx (Nat.le_refl _)) k hlt
   have HS := lh (any_take_snoc (inB · x) l k hlt)
   cases hf : inB l[k] x with
   | true =>
    have HF : Hid (hasB l x = true) := lh (any_of_get (f := (inB · x)) hlt hf)
    have hfi := lh hf
    generalize l[k] = s at *
    clear hx hf
    go_wp2_with (go_at_call 132; refine (rin_any s x _).mono ?_; rw [hfi.out]; rintro e w' ⟨rfl, hxl⟩; obtain ⟨xl, rfl⟩ := hxl.asLater; clear hxl)
    go_ret
    exact ⟨ret_bool (by rw [HF.out]), (by (with_reducible repeat first|exact HX.out|exact eR _|apply eD|apply eN|apply eA|apply eO|apply eS|apply eC);all_goals first|omega|simp <;> omega)⟩
   | false =>
    have hfi := lh hf
    rw [HN.out, hf] at HS
    generalize l[k] = s at *
    clear hx hf
    go_wp2_with (go_at_call 132; refine (rin_any s x _).mono ?_; rw [hfi.out]; rintro e w' ⟨rfl, hxl⟩; obtain ⟨xl, rfl⟩ := hxl.asLater; clear hxl)
    go_roundw
    case rel => exact ⟨k + 1, by omega, by go_num, (by (with_reducible repeat first|exact HX.out|exact eR _|apply eD|apply eN|apply eA|apply eO|apply eS|apply eC);all_goals first|omega|simp <;> omega), HS⟩
    case measure => simp [intOf]; omega
  ·have e : k = l.length := by omega
   subst e
   rw [List.take_length] at HN
   clear hx
   go_wp2
   go_ret
   exact ⟨ret_bool (by rw [hasB, HN.out]), HX.out⟩
def emptyB (s : Sp) : Bool := decide (s.2 ≤ s.1)
def goodB (s : Sp) : Bool := emptyB s || (decide (0 ≤ s.1) && decide (s.2 ≤ 1099511627776))
theorem rempty_any (s : Sp) (w : World) : Calls Tryz.prog 130 #[.agg #[.int .i64 s.1, .int .i64 s.2]] w fun e' w' => e' = .returned (.bool (emptyB s)) ∧ Ext w w' := by
 go_enter Tryz.func130, Tryz.ntmps130
 go_wp2
 go_ret
 exact ⟨rfl, (by (with_reducible repeat first|exact eR _|apply eD|apply eN|apply eA|apply eO|apply eS|apply eC);all_goals first|omega|simp <;> omega)⟩
theorem rgood_any (s : Sp) (w : World) : Calls Tryz.prog 131 #[.agg #[.int .i64 s.1, .int .i64 s.2]] w fun e' w' => e' = .returned (.bool (goodB s)) ∧ Ext w w' := by
 cases h : emptyB s with
 | true =>
  have H := lh h
  have HG : Hid (goodB s = true) := lh (by simp [goodB, h])
  clear h
  go_enter Tryz.func131, Tryz.ntmps131
  go_wp2_with (go_at_call 130; refine (rempty_any s _).mono ?_; rw [H.out]; rintro e w' ⟨rfl, hxl⟩; obtain ⟨xl, rfl⟩ := hxl.asLater; clear hxl)
  go_ret
  exact ⟨ret_bool (by rw [HG.out]), (by (with_reducible repeat first|exact eR _|apply eD|apply eN|apply eA|apply eO|apply eS|apply eC);all_goals first|omega|simp <;> omega)⟩
 | false =>
  have H := lh h
  have HG : Hid (goodB s = (decide (0 ≤ s.1) && decide (s.2 ≤ 1099511627776))) := lh (by simp [goodB, h])
  clear h
  go_enter Tryz.func131, Tryz.ntmps131
  go_wp2_with (go_at_call 130; refine (rempty_any s _).mono ?_; rw [H.out]; rintro e w' ⟨rfl, hxl⟩; obtain ⟨xl, rfl⟩ := hxl.asLater; clear hxl)
  all_goals
   go_ret
   refine ⟨ret_bool ?_, (by (with_reducible repeat first|exact eR _|apply eD|apply eN|apply eA|apply eO|apply eS|apply eC);all_goals first|omega|simp <;> omega)⟩
   rw [HG.out, Bool.eq_iff_iff]
   simp only [Bool.and_eq_true, decide_eq_true_eq, Bool.false_eq_true, false_iff]
   omega
def fullB (l : List Sp) (n : Int) : Bool := (List.range n.toNat).all fun k => hasB l k
theorem fullB_iff {l : List Sp} {n : Int} : fullB l n = true ↔ ∀ x : Int, 0 ≤ x → x < n → Sp.mem l x := by
 simp only [fullB, List.all_eq_true, List.mem_range, hasB_iff]
 constructor
 ·intro h x h0 h1
  have := h x.toNat (by omega)
  rwa [Int.toNat_of_nonneg h0] at this
 ·intro h k hk
  exact h k (by omega) (by omega)
theorem full_no {l : List Sp} {n : Int} {k : Nat} (hk : (k : Int) < n) (h : hasB l k = false) : fullB l n = false := by
 cases hf : fullB l n with
 | false => rfl
 | true =>
  have := (List.all_eq_true.1 hf) k (List.mem_range.2 (by omega))
  rw [h] at this
  cases this
theorem full_yes {l : List Sp} {n : Int} (h : ∀ j : Nat, (j : Int) < n → hasB l j = true) : fullB l n = true := List.all_eq_true.2 (fun j hj => h j (by have := List.mem_range.1 hj; omega))
theorem rempty_is (s : Sp) (b : Bool) (w : World) (h : emptyB s = b) : Calls Tryz.prog 130 #[.agg #[.int .i64 s.1, .int .i64 s.2]] w fun e' w' => e' = .returned (.bool b) ∧ Ext w w' := by subst h; exact rempty_any s w
theorem rgood_is (s : Sp) (b : Bool) (w : World) (h : goodB s = b) : Calls Tryz.prog 131 #[.agg #[.int .i64 s.1, .int .i64 s.2]] w fun e' w' => e' = .returned (.bool b) ∧ Ext w w' := by subst h; exact rgood_any s w
def okAt (l : List Sp) (i : Nat) : Bool := !(emptyB (l.getD i (0, 0))) && goodB (l.getD i (0, 0)) && (decide (i = 0) || decide ((l.getD (i - 1) (0, 0)).2 < (l.getD i (0, 0)).1))
def setB (l : List Sp) : Bool := (List.range l.length).all (okAt l)
theorem setB_no {l : List Sp} {k : Nat} (h : k < l.length) (hf : okAt l k = false) : setB l = false := by
 cases e : setB l with
 | false => rfl
 | true =>
  have := List.all_eq_true.1 e k (List.mem_range.2 h)
  rw [hf] at this
  cases this
theorem setB_yes {l : List Sp} (h : ∀ j, j < l.length → okAt l j = true) : setB l = true := List.all_eq_true.2 (fun j hj => h j (List.mem_range.1 hj))
def LoopSp (w : World) (l : List Sp) (i : Value) (wr : World) : Prop := ∃ k : Nat, k ≤ l.length ∧ i = .int .i64 k ∧ Ext w wr ∧ Hid (∀ j, j < k → okAt l j = true)
theorem rvalid_any (A : Option Addr) (c : Nat) (l : List Sp) (w : World) (hl : l.length ≤ 140737488355328) (hr : ReadsSp w w.heap.size A l) :
  Calls Tryz.prog 79 #[.slice A l.length c] w fun e' w' => e' = .returned (.bool (setB l)) ∧ Ext w w' := by
 have HR := lh hr
 clear hr
 go_enter Tryz.func79, Tryz.ntmps79
 go_wp2
 go_loopw [3] (LoopSp w l) (fun i _ => l.length - (intOf i).toNat)
 case atStart => exact ⟨0, Nat.zero_le _, rfl, eR _, lh (fun j hj => absurd hj (Nat.not_lt_zero _))⟩
 case round =>
  obtain ⟨k, hk, rfl, hx, HN⟩ := hrel
  have HX := lh hx
  by_cases hlt : k < l.length
  ·obtain ⟨b, off, rfl, hb, c1, c2⟩ := ReadsSp.cell (HR.out.ext hx (Nat.le_refl _)) k hlt
   have hsz := hx.size
   have hg : l.getD k (0, 0) = l[k] := by simp [hlt]
   have HOK : Hid (okAt l k = (!(emptyB l[k]) && goodB l[k] && (decide (k = 0) || decide ((l.getD (k - 1) (0, 0)).2 < l[k].1)))) := lh (by rw [okAt, hg])
   have HNO : Hid (okAt l k = false → setB l = false) := lh (setB_no hlt)
   have HNY : Hid (okAt l k = true → ∀ j, j < k + 1 → okAt l j = true) := lh (fun h j hj => by
    by_cases ej : j = k
    ·rw [ej]; exact h
    ·exact HN.out j (by omega))
   cases he : emptyB l[k] with
   | true =>
    have HE := lh he
    have HG : Hid (goodB l[k] = true) := lh (by simp [goodB, he])
    have HS : Hid (setB l = false) := lh (HNO.out (by rw [HOK.out, he]; rfl))
    generalize l[k] = s at *
    clear hx he hg
    go_wp2
    refine wp_region_later (by kernel_rfl) (by kernel_rfl) ?_
    repeat (first | go_big_quiet_step ((first | (go_at_call 130; exact quietE (rempty_is s _ _ HE.out)) | (go_at_call 131; exact quietE (rgood_is s _ _ HG.out)))) | quiet_step ((first | (go_at_call 130; exact quietE (rempty_is s _ _ HE.out)) | (go_at_call 131; exact quietE (rgood_is s _ _ HG.out)))))
    refine wpQuiet_nil ?_
    rintro _ ⟨xq, rfl⟩
    go_wp2
    go_ret
    exact ⟨ret_bool (by rw [HS.out]), (by (with_reducible repeat first|exact HX.out|exact eR _|apply eD|apply eN|apply eA|apply eO|apply eS|apply eC);all_goals first|omega|simp <;> omega)⟩
   | false =>
    have HE := lh he
    cases hgd : goodB l[k] with
    | false =>
     have HG := lh hgd
     have HS : Hid (setB l = false) := lh (HNO.out (by rw [HOK.out, he, hgd]; rfl))
     generalize l[k] = s at *
     clear hx he hg hgd
     go_wp2
     refine wp_region_later (by kernel_rfl) (by kernel_rfl) ?_
     repeat (first | go_big_quiet_step ((first | (go_at_call 130; exact quietE (rempty_is s _ _ HE.out)) | (go_at_call 131; exact quietE (rgood_is s _ _ HG.out)))) | quiet_step ((first | (go_at_call 130; exact quietE (rempty_is s _ _ HE.out)) | (go_at_call 131; exact quietE (rgood_is s _ _ HG.out)))))
     refine wpQuiet_nil ?_
     rintro _ ⟨xq, rfl⟩
     go_wp2
     go_ret
     exact ⟨ret_bool (by rw [HS.out]), (by (with_reducible repeat first|exact HX.out|exact eR _|apply eD|apply eN|apply eA|apply eO|apply eS|apply eC);all_goals first|omega|simp <;> omega)⟩
    | true =>
     have HG := lh hgd
     by_cases h0 : k = 0
     ·have HY := lh (HNY.out (by rw [HOK.out, he, hgd]; simp [h0]))
      have hk0 : k ≤ 0 := by omega
      have d0 : decide (0 < k) = false := by simp; omega
      have d1 : decide (0 < (k : Int)) = false := by simp; omega
      have H0 := lh h0
      generalize l[k] = s at *
      clear hx he hg hgd h0
      go_wp2
      refine wp_region_later (by kernel_rfl) (by kernel_rfl) ?_
      repeat (first | go_big_quiet_step ((first | (go_at_call 130; exact quietE (rempty_is s _ _ HE.out)) | (go_at_call 131; exact quietE (rgood_is s _ _ HG.out)))) | quiet_step ((first | (go_at_call 130; exact quietE (rempty_is s _ _ HE.out)) | (go_at_call 131; exact quietE (rgood_is s _ _ HG.out)))))
      refine wpQuiet_nil ?_
      rintro _ ⟨xq, rfl⟩
      go_wp2
      go_roundw
      case rel => exact ⟨k + 1, by omega, by go_num, (by (with_reducible repeat first|exact HX.out|exact eR _|apply eD|apply eN|apply eA|apply eO|apply eS|apply eC);all_goals first|omega|simp <;> omega), HY⟩
      case measure => simp [intOf]; omega
     ·have hk1 : k - 1 < l.length := by omega
      obtain ⟨b', off', e1, _, _, c3⟩ := ReadsSp.cell (HR.out.ext hx (Nat.le_refl _)) (k - 1) hk1
      injection e1 with e1
      injection e1 with e1 e2
      subst e1 e2
      have hg1 : l.getD (k - 1) (0, 0) = l[k - 1] := by simp [hk1]
      rw [hg1] at HOK
      have hk0 : 0 < k := by omega
      have d0 : decide (0 < k) = true := by simp; omega
      have d1 : decide (0 < (k : Int)) = true := by simp; omega
      by_cases hle : l[k].1 ≤ l[k - 1].2
      ·have HS : Hid (setB l = false) := lh (HNO.out (by rw [HOK.out, he, hgd]; simp [h0]; omega))
       generalize l[k] = s at *
       generalize l[k - 1] = s1 at *
       clear hx he hg hgd hg1
       go_wp2
       refine wp_region_later (by kernel_rfl) (by kernel_rfl) ?_
       repeat (first | go_big_quiet_step ((first | (go_at_call 130; exact quietE (rempty_is s _ _ HE.out)) | (go_at_call 131; exact quietE (rgood_is s _ _ HG.out)))) | quiet_step ((first | (go_at_call 130; exact quietE (rempty_is s _ _ HE.out)) | (go_at_call 131; exact quietE (rgood_is s _ _ HG.out)))))
       refine wpQuiet_nil ?_
       rintro _ ⟨xq, rfl⟩
       go_wp2
       go_ret
       exact ⟨ret_bool (by rw [HS.out]), (by (with_reducible repeat first|exact HX.out|exact eR _|apply eD|apply eN|apply eA|apply eO|apply eS|apply eC);all_goals first|omega|simp <;> omega)⟩
      ·have HY := lh (HNY.out (by rw [HOK.out, he, hgd]; simp; omega))
       have d2 : decide (l[k].1 ≤ l[k - 1].2) = false := by simp; omega
       generalize l[k] = s at *
       generalize l[k - 1] = s1 at *
       clear hx he hg hgd hg1
       go_wp2
       refine wp_region_later (by kernel_rfl) (by kernel_rfl) ?_
       repeat (first | go_big_quiet_step ((first | (go_at_call 130; exact quietE (rempty_is s _ _ HE.out)) | (go_at_call 131; exact quietE (rgood_is s _ _ HG.out)))) | quiet_step ((first | (go_at_call 130; exact quietE (rempty_is s _ _ HE.out)) | (go_at_call 131; exact quietE (rgood_is s _ _ HG.out)))))
       refine wpQuiet_nil ?_
       rintro _ ⟨xq, rfl⟩
       go_wp2
       go_roundw
       case rel => exact ⟨k + 1, by omega, by go_num, (by (with_reducible repeat first|exact HX.out|exact eR _|apply eD|apply eN|apply eA|apply eO|apply eS|apply eC);all_goals first|omega|simp <;> omega), HY⟩
       case measure => simp [intOf]; omega
  ·have HS : Hid (setB l = true) := lh (setB_yes (fun j hj => HN.out j (by omega)))
   clear hx
   go_wp2
   go_ret
   exact ⟨ret_bool (by rw [HS.out]), HX.out⟩
end Go.Proofs.YtmgekdggahoboaaGreatDoor