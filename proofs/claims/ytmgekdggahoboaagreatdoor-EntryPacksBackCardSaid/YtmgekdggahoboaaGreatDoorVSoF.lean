/- A drawn region with values, one alloc and one store of a row into it; values and row may speak of memory that was made there. -/
import Derived.Test.YtmgekdggahoboaaGreatDoorVSpv
import Derived.WalkKit
import Derived.WalkSpells
import Derived.WalkLawsBesides
import Derived.Deep.QuietTactic
import Derived.BigQuiet
set_option linter.unusedVariables false
set_option linter.unusedSimpArgs false
namespace Go.Proofs.YtmgekdggahoboaaGreatDoor
open Go.RowKit
structure Soft where
 S : Value → World → Prop
 on : ∀ v w w', S v w → Ext w w' → S v w'
def Soft.eq (v : Value) : Soft := ⟨fun u _ => u = v, fun _ _ _ h _ => h⟩
def Soft.any : Soft := ⟨fun _ _ => True, fun _ _ _ _ _ => trivial⟩
def Soft.pl (p : Value → Prop) : Soft := ⟨fun u _ => p u, fun _ _ _ h _ => h⟩
theorem put_comm (a : Act) {d1 d2 : Option Tmp} (h : d1 ≠ d2 ∨ d1 = none) (v u : Value) : (a.put d1 v).put d2 u = (a.put d2 u).put d1 v := by
 cases d1 with
 | none => rfl
 | some x =>
  cases d2 with
  | none => rfl
  | some y =>
   have hxy : x ≠ y := by
    rcases h with h | h
    ·exact fun e => h (by rw [e])
    ·cases h
   simp only [Act.put]
   rw [Array.setIfInBounds_comm _ _ hxy]
theorem put_same (a : Act) (d : Option Tmp) (v u : Value) : (a.put d v).put d u = a.put d u := by
 cases d with
 | none => rfl
 | some x => simp [Act.put]
theorem put_self (a : Act) (d : Option Tmp) : a.put d ((d.map fun t => a.tmps.getD t undef).getD undef) = a := by
 cases d with
 | none => rfl
 | some x =>
  have : a.tmps.setIfInBounds x (a.tmps.getD x undef) = a.tmps := by
   apply Array.ext (by simp)
   intro i h1 h2
   by_cases e : x = i
   ·subst e
    simp [h2]
   ·rw [Array.getElem_setIfInBounds_ne _ e]
  simp only [Act.put, Option.map_some, Option.getD_some, this]
def dstOf (l : List Oper) (i : Nat) : Option Tmp := (l[i]?).bind (·.dst)
def fillAt (l : List Oper) (a0 : Act) (xs : Nat → Value) : Nat → Act
 | 0 => a0
 | n + 1 => (fillAt l a0 xs n).put (dstOf l n) (xs n)
def updAt (xs : Nat → Value) (i : Nat) (v : Value) : Nat → Value := fun j => if j = i then v else xs j
theorem fill_congr {l : List Oper} {a0 : Act} {xs ys : Nat → Value} : ∀ n, (∀ i, i < n → xs i = ys i) → fillAt l a0 xs n = fillAt l a0 ys n
 | 0, _ => rfl
 | n + 1, h => by rw [fillAt, fillAt, fill_congr n (fun i hi => h i (by omega)), h n (by omega)]
theorem fill_put {l : List Oper} {a0 : Act} {xs : Nat → Value} {i : Nat} {v : Value} : ∀ n, i < n → (∀ j, j < n → j ≠ i → dstOf l j ≠ dstOf l i ∨ dstOf l j = none) → (fillAt l a0 xs n).put (dstOf l i) v = fillAt l a0 (updAt xs i v) n
 | 0, h, _ => by omega
 | n + 1, h, hd => by
  rw [fillAt, fillAt]
  by_cases e : i = n
  ·subst e
   rw [put_same, fill_congr i (fun j hj => show xs j = updAt xs i v j by unfold updAt; rw [if_neg (by omega)])]
   simp [updAt]
  ·rw [put_comm _ (hd n (by omega) (Ne.symm e)), fill_put n (by omega) (fun j hj => hd j (by omega))]
   have : updAt xs i v n = xs n := by unfold updAt; rw [if_neg (Ne.symm e)]
   rw [this]
theorem fill_self (l : List Oper) (a0 : Act) : ∀ n, fillAt l a0 (fun i => ((dstOf l i).map fun t => a0.tmps.getD t undef).getD undef) n = a0
 | 0 => rfl
 | n + 1 => by rw [fillAt, fill_self l a0 n, put_self]
def depsOf (l : List Oper) (i : Nat) : List Nat := ((l[i]?).map fun o => (o.after.toList.filter fun e => Region.binds .any e).map (·.on)).getD []
def fullL (m n : Nat) : Array Bool := Array.ofFn (n := m) fun i => decide (i.val < n)
def softB (l : List Oper) (n : Nat) : Bool :=
 decide (n < l.length) && Region.sinkB .any l.toArray n && Region.chainB .any l.toArray n && Region.seqB .any l.toArray (l.length - n) n (fullL l.length n) &&
 ((List.range n).all fun i => (depsOf l i).all (fun j => decide (j < i))) &&
 ((List.range n).all fun i => (List.range n).all fun j => decide (j = i) || decide (dstOf l j ≠ dstOf l i) || decide (dstOf l j = none))
def cntU (listed : Array Bool) : Nat → Nat
 | 0 => 0
 | n + 1 => cntU listed n + (if listed.getD n false then 0 else 1)
theorem cnt_zero {listed : Array Bool} : ∀ n, cntU listed n = 0 → ∀ i, i < n → listed.getD i false = true
 | 0, _, i, hi => by omega
 | n + 1, h, i, hi => by
  rw [cntU] at h
  by_cases e : i = n
  ·subst e
   cases hl : listed.getD i false with
   | true => rfl
   | false => rw [hl] at h; simp at h
  ·exact cnt_zero n (by omega) i (by omega)
theorem cnt_pos {listed : Array Bool} : ∀ n, 0 < cntU listed n → ∃ i, i < n ∧ listed.getD i false = false ∧ ∀ j, j < i → listed.getD j false = true
 | 0, h => by simp [cntU] at h
 | n + 1, h => by
  by_cases h0 : 0 < cntU listed n
  ·obtain ⟨i, h1, h2, h3⟩ := cnt_pos n h0
   exact ⟨i, by omega, h2, h3⟩
  ·refine ⟨n, by omega, ?_, fun j hj => cnt_zero n (by omega) j hj⟩
   rw [cntU] at h
   cases hl : listed.getD n false with
   | false => rfl
   | true => rw [hl] at h; simp at h; omega
theorem cnt_set {listed : Array Bool} {i : Nat} (hs : i < listed.size) (hl : listed.getD i false = false) : ∀ n, i < n → cntU (listed.setIfInBounds i true) n + 1 = cntU listed n
 | 0, h => by omega
 | n + 1, h => by
  rw [cntU, cntU]
  by_cases e : i = n
  ·subst e
   have h1 : (listed.setIfInBounds i true).getD i false = true := by simp [hs]
   have h2 : ∀ m, m ≤ i → cntU (listed.setIfInBounds i true) m = cntU listed m := by
    intro m
    induction m with
    | zero => intro _; rfl
    | succ m ih => intro hm; rw [cntU, cntU, ih (by omega), getD_set_ne false (by omega)]
   rw [h1, hl, h2 i (Nat.le_refl _)]
   rfl
  ·have := cnt_set hs hl n (by omega)
   rw [getD_set_ne false e]
   omega
theorem wp_exits {P : Program} {o : Oper} {a : Act} {w : World} {K : Act → World → Prop} {Q Q' : Exit → Act → World → Prop} (h : ∀ e a w, e ≠ .normal → Q' e a w → Q e a w) (hh : o.wp P a w K Q') : o.wp P a w K Q := by
 unfold Oper.wp at *
 generalize (execOp a.eval o).run P w = r at *
 cases r with
 | ok n w' =>
  cases n <;> simp only [Oper.upon] at hh ⊢ <;> first
   | exact hh
   | exact Calls.mono hh (fun e w'' he => by
     cases e with
     | returned v => exact he
     | panicked c => exact h _ _ _ (by simp) he
     | outgrown =>
      obtain ⟨a1, w1, k⟩ := he
      exact ⟨a1, w1, h _ _ _ (by simp) k⟩)
 | halt x w' =>
  cases x <;> simp only [Oper.upon] at hh ⊢ <;> first
   | exact hh
   | exact h _ _ _ (by simp) hh
   | exact hh.elim
def endsIn (K : Act → World → Prop) (Q : Exit → Act → World → Prop) : Exit → Act → World → Prop
 | .normal, a, w => K a w
 | e, a, w => Q e a w
theorem wpOp_of_one {P : Program} {ops : Array Oper} {Q : Exit → Act → World → Prop} {K : Act → World → Prop} {i : Nat} {o : Oper} {a : Act} {w : World} (hi : ops[i]? = some o) (h : wpList P ops (endsIn K Q) [o] a w) : wpOp P ops Q i K a w := by
 unfold wpOp
 simp only [hi]
 unfold wpList at h
 by_cases hw : Region.wanted o (yielded ops a.tmps) = true
 ·rw [if_pos hw] at h ⊢
  rcases h with h | h
  ·left
   refine wp_exits (Q' := endsIn K Q) ?_ h
   intro e a1 w1 he hq
   cases e <;> first | exact absurd rfl he | exact hq
  ·exact .inr h
 ·rw [if_neg hw] at h ⊢
  exact h
theorem lt_cons {n : Nat} {p : Nat → Prop} (h0 : p 0) (h : ∀ i, i < n → p (i + 1)) : ∀ i, i < n + 1 → p i
 | 0, _ => h0
 | i + 1, hi => h i (by omega)
theorem lt_none {p : Nat → Prop} : ∀ i, i < 0 → p i := fun i hi => absurd hi (Nat.not_lt_zero _)
section
variable {P : Program} {id : Nat} {Q : Exit → Act → World → Prop} {a0 : Act} {w0 : World} {l : List Oper}
theorem wpAny_soft {n : Nat} (L : Nat → Soft) (hB : softB l n = true)
  (hop : ∀ i, i < n → ∀ o, l[i]? = some o → ∀ xs w, Ext w0 w → (∀ j, j ∈ depsOf l i → (L j).S (xs j) w) → ∀ Q' : Exit → Act → World → Prop, (∀ v w', Ext w w' → (L i).S v w' → Q' .normal ((fillAt l a0 xs n).put o.dst v) w') → wpList P l.toArray Q' [o] (fillAt l a0 xs n) w)
  (hend : ∀ xs w, Ext w0 w → (∀ i, i < n → (L i).S (xs i) w) → wpList P l.toArray Q (l.drop n) (fillAt l a0 xs n) w) :
  ∀ (f : Nat) (listed : Array Bool) (xs : Nat → Value) (w : World), HeadInv .any l.toArray n listed → cntU listed n = f → Ext w0 w → (∀ i, i < n → listed.getD i false = true → (L i).S (xs i) w) →
   wpAny P .any l.toArray Q (f + (l.length - n)) listed (fillAt l a0 xs n) w := by
 simp only [softB, Bool.and_eq_true, decide_eq_true_eq, List.all_eq_true, List.mem_range, Bool.or_eq_true] at hB
 obtain ⟨⟨⟨⟨⟨hn, hs⟩, hc⟩, hseq⟩, hdeps⟩, hdst⟩ := hB
 have hn' : n < l.toArray.size := by simpa using hn
 intro f
 induction f with
 | zero =>
  intro listed xs w inv hcnt hx hS
  have hall := cnt_zero n hcnt
  have he : listed = fullL l.length n := by
   have hsz := inv.size
   apply Array.ext (by rw [hsz]; simp [fullL])
   intro i h1 h2
   have hil : i < l.length := by rw [hsz] at h1; simpa using h1
   have e2 : (fullL l.length n)[i] = decide (i < n) := by simp [fullL]
   rw [e2]
   by_cases hi : i < n
   ·have := hall i hi
    simp [h1] at this
    rw [this]; simp [hi]
   ·have := inv.tail i (by omega) (by simpa using hil)
    simp [h1] at this
    rw [this]; simp [hi]
  rw [Nat.zero_add]
  have hdl : (l.drop n).length = l.length - n := by simp
  have := wpAny_of_seq (md := .any) (P := P) (ops := l.toArray) (Q' := Q) (l.drop n) n listed (fillAt l a0 xs n) w (fun j => by simp [List.getElem?_drop]) (by rw [hdl, he]; exact hseq) (hend xs w hx (fun i hi => hS i hi (hall i hi)))
  rwa [hdl] at this
 | succ f ih =>
  intro listed xs w inv hcnt hx hS
  obtain ⟨i0, hi0, hu0, hmin⟩ := cnt_pos n (by omega : 0 < cntU listed n)
  have hi0s : i0 < listed.size := by rw [inv.size]; omega
  have hu0' := getD_in hi0s hu0
  have hl0 : i0 < l.length := by omega
  have hready : i0 ∈ Region.ready .any l.toArray listed := by
   refine mem_ready.2 ⟨hu0', l[i0], by simp [hl0], fun e he hb => ?_⟩
   have hd : e.on ∈ depsOf l i0 := by
    simp only [depsOf, List.getElem?_eq_getElem hl0, Option.map_some, Option.getD_some, List.mem_map, List.mem_filter]
    exact ⟨e, ⟨by simpa using he, hb⟩, rfl⟩
   exact hmin _ (hdeps i0 hi0 _ hd)
  rw [show f + 1 + (l.length - n) = (f + (l.length - n)) + 1 by omega]
  refine ⟨fun h0 => (by rw [h0] at hready; cases hready), fun i hi => ?_⟩
  have hin : i < n := by
   rcases Nat.lt_or_ge i n with h | h
   ·exact h
   ·exact absurd hi (tail_waits hs hc hn' inv _ i0 rfl hi0 hu0' i h)
  obtain ⟨hun, o, ho, hall⟩ := mem_ready.1 hi
  have ho' : l[i]? = some o := by simpa using ho
  have hu := getD_both hun
  refine wpOp_of_one ho ?_
  refine hop i hin o ho' xs w hx (fun j hj => ?_) _ (fun v w' hx' hv => ?_)
  ·have hji := hdeps i hin j hj
   refine hS j (by omega) ?_
   simp only [depsOf, ho', Option.map_some, Option.getD_some, List.mem_map, List.mem_filter] at hj
   obtain ⟨e, ⟨he, hb⟩, rfl⟩ := hj
   exact hall e (by simpa using he) hb
  ·show wpAny P .any l.toArray Q (f + (l.length - n)) (listed.setIfInBounds i true) _ w'
   have ed : o.dst = dstOf l i := by simp [dstOf, ho']
   rw [ed, fill_put n hin (fun j hj hji => by
    rcases hdst i hin j hj with (h | h) | h
    ·exact absurd h hji
    ·exact .inl h
    ·exact .inr h)]
   refine ih _ _ w' (inv.set hi hin) (by have := cnt_set (by rw [inv.size]; omega) hu n hin; omega) (hx.trans hx') (fun j hj hlj => ?_)
   by_cases e : j = i
   ·subst e
    have : updAt xs j v j = v := by simp [updAt]
    rw [this]
    exact hv
   ·have : updAt xs i v j = xs j := by simp [updAt, e]
    rw [this]
    rw [getD_set_ne false (Ne.symm e)] at hlj
    exact (L j).on _ _ _ (hS j hj hlj) hx'
theorem wp_region_soft (n : Nat) (L : Nat → Soft) (hm : P.follows .mixedOrders = true) (hB : softB l n = true)
  (hop : ∀ i, i < n → ∀ o, l[i]? = some o → ∀ xs w, Ext w0 w → (∀ j, j ∈ depsOf l i → (L j).S (xs j) w) → ∀ Q' : Exit → Act → World → Prop, (∀ v w', Ext w w' → (L i).S v w' → Q' .normal ((fillAt l a0 xs n).put o.dst v) w') → wpList P l.toArray Q' [o] (fillAt l a0 xs n) w)
  (hend : ∀ xs w, Ext w0 w → (∀ i, i < n → (L i).S (xs i) w) → wpList P l.toArray Q (l.drop n) (fillAt l a0 xs n) w) : (Code.region id l.toArray true).wp P Q a0 w0 := by
 refine wp_region_any hm ?_
 have hn : n < l.length := by
  simp only [softB, Bool.and_eq_true, decide_eq_true_eq] at hB
  exact hB.1.1.1.1.1
 have inv0 : HeadInv .any l.toArray n (Array.replicate l.toArray.size false) :=
  ⟨by simp, fun j oj _ hl => (by rw [getD_replicate_false] at hl; cases hl), fun t _ ht => getD_in (by simpa using ht) (getD_replicate_false _ _)⟩
 have hc0 : ∀ m, cntU (Array.replicate l.toArray.size false) m = m := by
  intro m
  induction m with
  | zero => rfl
  | succ m ih => rw [cntU, ih, getD_replicate_false]; rfl
 have := wpAny_soft (P := P) (Q := Q) (a0 := a0) (w0 := w0) L hB hop hend n _ (fun i => ((dstOf l i).map fun t => a0.tmps.getD t undef).getD undef) { w0 with drawn := w0.drawn + 1 } inv0 (hc0 n) (Ext.drew (Ext.refl w0)) (fun i _ hl => (by rw [getD_replicate_false] at hl; cases hl))
 rw [fill_self] at this
 have e : n + (l.length - n) = l.toArray.size := by simp; omega
 rwa [e] at this
end
end Go.Proofs.YtmgekdggahoboaaGreatDoor

namespace Go.Proofs.YtmgekdggahoboaaGreatDoor
open Go.RowKit
open Go.Proofs
def allB (l : List Oper) : Bool :=
 ((List.range l.length).all fun i => (depsOf l i).all (fun j => decide (j < i))) &&
 ((List.range l.length).all fun i => (List.range l.length).all fun j => decide (j = i) || decide (dstOf l j ≠ dstOf l i) || decide (dstOf l j = none))
section
variable {P : Program} {id : Nat} {Q : Exit → Act → World → Prop} {a0 : Act} {w0 : World} {l : List Oper}
end
end Go.Proofs.YtmgekdggahoboaaGreatDoor

namespace Go.Proofs.YtmgekdggahoboaaGreatDoor
open Go.RowKit
open Go.Proofs
def TRow (w : World) (b : Nat) (cs : Array Value) (T : TypeId) : Prop := w.heap[b]? = some (.cells cs T (0, 0))
theorem TRow.row {w : World} {b : Nat} {cs : Array Value} {T : TypeId} (h : TRow w b cs T) : RowAt w b cs := ⟨T, h⟩
theorem heap_sets_other (vs : List Value) : ∀ (w : World) (b o g : Nat), g ≠ b → (w.setCells b o vs).heap[g]? = w.heap[g]? := by
 induction vs with
 | nil => intro w b o g _; rfl
 | cons v r ih => intro w b o g h; exact (ih (w.setCell ⟨b, o, none⟩ v) b (o + 1) g h).trans (heap_setCell_other w ⟨b, o, none⟩ g v h)
theorem TRow.sets {w : World} {b : Nat} {cs : Array Value} {T : TypeId} (h : TRow w b cs T) (o : Nat) (vs : List Value) : TRow (w.setCells b o vs) b (laidOver cs o vs) T := by
 induction vs generalizing o w cs with
 | nil => exact h
 | cons v r ih => exact ih (heap_setCell_same w b o cs T v h) (o + 1)
theorem TRow.new (w : World) (cs : Array Value) (T : TypeId) : TRow (w.alloc (.cells cs T)) w.heap.size cs T := heap_alloc_new w _
section
variable {P : Program} {id : Nat} {Q : Exit → Act → World → Prop} {a0 : Act} {w0 : World} {l : List Oper} {T : TypeId}
end
end Go.Proofs.YtmgekdggahoboaaGreatDoor