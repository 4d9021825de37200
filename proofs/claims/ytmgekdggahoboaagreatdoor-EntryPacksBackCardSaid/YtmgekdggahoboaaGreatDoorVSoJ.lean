/- A drawn region of soft operations with no tail (from XMm). -/
import Derived.WalkKit
import Derived.WalkSpells
import Derived.WalkLawsBesides
import Derived.Deep.QuietTactic
import Derived.BigQuiet
import Derived.Test.YtmgekdggahoboaaGreatDoorVSoF
set_option linter.unusedVariables false
set_option linter.unusedSimpArgs false
namespace Go.Proofs.YtmgekdggahoboaaGreatDoor
open Go.RowKit
def softE (l : List Oper) (n : Nat) : Bool :=
 decide (n = l.length) && Region.seqB .any l.toArray (l.length - n) n (fullL l.length n) &&
 ((List.range n).all fun i => (depsOf l i).all (fun j => decide (j < i))) &&
 ((List.range n).all fun i => (List.range n).all fun j => decide (j = i) || decide (dstOf l j ≠ dstOf l i) || decide (dstOf l j = none))
section
variable {P : Program} {id : Nat} {Q : Exit → Act → World → Prop} {a0 : Act} {w0 : World} {l : List Oper}
theorem wpAny_softE {n : Nat} (L : Nat → Soft) (hB : softE l n = true)
  (hop : ∀ i, i < n → ∀ o, l[i]? = some o → ∀ xs w, Ext w0 w → (∀ j, j ∈ depsOf l i → (L j).S (xs j) w) → ∀ Q' : Exit → Act → World → Prop, (∀ v w', Ext w w' → (L i).S v w' → Q' .normal ((fillAt l a0 xs n).put o.dst v) w') → wpList P l.toArray Q' [o] (fillAt l a0 xs n) w)
  (hend : ∀ xs w, Ext w0 w → (∀ i, i < n → (L i).S (xs i) w) → wpList P l.toArray Q (l.drop n) (fillAt l a0 xs n) w) :
  ∀ (f : Nat) (listed : Array Bool) (xs : Nat → Value) (w : World), HeadInv .any l.toArray n listed → cntU listed n = f → Ext w0 w → (∀ i, i < n → listed.getD i false = true → (L i).S (xs i) w) →
   wpAny P .any l.toArray Q (f + (l.length - n)) listed (fillAt l a0 xs n) w := by
 simp only [softE, Bool.and_eq_true, decide_eq_true_eq, List.all_eq_true, List.mem_range, Bool.or_eq_true] at hB
 obtain ⟨⟨⟨hn, hseq⟩, hdeps⟩, hdst⟩ := hB
 have hn' : n = l.toArray.size := by simpa using hn
 have hn2 : l.toArray.size = l.length := by simp
 intro f
 induction f with
 | zero =>
  intro listed xs w inv hcnt hx hS
  have hall := cnt_zero n hcnt
  have he : listed = fullL l.length n := by
   have hsz := inv.size
   apply Array.ext (by rw [hsz]; simp [fullL])
   intro i h1 h2
   have hil : i < l.length := by rw [hsz] at h1; simpa using h1
   have e2 : (fullL l.length n)[i] = decide (i < n) := by simp [fullL]
   rw [e2]
   by_cases hi : i < n
   ·have := hall i hi
    simp [h1] at this
    rw [this]; simp [hi]
   ·have := inv.tail i (by omega) (by simpa using hil)
    simp [h1] at this
    rw [this]; simp [hi]
  rw [Nat.zero_add]
  have hdl : (l.drop n).length = l.length - n := by simp
  have := wpAny_of_seq (md := .any) (P := P) (ops := l.toArray) (Q' := Q) (l.drop n) n listed (fillAt l a0 xs n) w (fun j => by simp [List.getElem?_drop]) (by rw [hdl, he]; exact hseq) (hend xs w hx (fun i hi => hS i hi (hall i hi)))
  rwa [hdl] at this
 | succ f ih =>
  intro listed xs w inv hcnt hx hS
  obtain ⟨i0, hi0, hu0, hmin⟩ := cnt_pos n (by omega : 0 < cntU listed n)
  have hi0s : i0 < listed.size := by rw [inv.size]; omega
  have hu0' := getD_in hi0s hu0
  have hl0 : i0 < l.length := by omega
  have hready : i0 ∈ Region.ready .any l.toArray listed := by
   refine mem_ready.2 ⟨hu0', l[i0], by simp [hl0], fun e he hb => ?_⟩
   have hd : e.on ∈ depsOf l i0 := by
    simp only [depsOf, List.getElem?_eq_getElem hl0, Option.map_some, Option.getD_some, List.mem_map, List.mem_filter]
    exact ⟨e, ⟨by simpa using he, hb⟩, rfl⟩
   exact hmin _ (hdeps i0 hi0 _ hd)
  rw [show f + 1 + (l.length - n) = (f + (l.length - n)) + 1 by omega]
  refine ⟨fun h0 => (by rw [h0] at hready; cases hready), fun i hi => ?_⟩
  have hin : i < n := by
   rcases Nat.lt_or_ge i n with h | h
   ·exact h
   ·have hisz : i < l.toArray.size := by
     obtain ⟨_, o, ho, _⟩ := mem_ready.1 hi
     exact (Array.getElem?_eq_some_iff.1 ho).1
    exfalso; omega
  obtain ⟨hun, o, ho, hall⟩ := mem_ready.1 hi
  have ho' : l[i]? = some o := by simpa using ho
  have hu := getD_both hun
  refine wpOp_of_one ho ?_
  refine hop i hin o ho' xs w hx (fun j hj => ?_) _ (fun v w' hx' hv => ?_)
  ·have hji := hdeps i hin j hj
   refine hS j (by omega) ?_
   simp only [depsOf, ho', Option.map_some, Option.getD_some, List.mem_map, List.mem_filter] at hj
   obtain ⟨e, ⟨he, hb⟩, rfl⟩ := hj
   exact hall e (by simpa using he) hb
  ·show wpAny P .any l.toArray Q (f + (l.length - n)) (listed.setIfInBounds i true) _ w'
   have ed : o.dst = dstOf l i := by simp [dstOf, ho']
   rw [ed, fill_put n hin (fun j hj hji => by
    rcases hdst i hin j hj with (h | h) | h
    ·exact absurd h hji
    ·exact .inl h
    ·exact .inr h)]
   refine ih _ _ w' (inv.set hi hin) (by have := cnt_set (by rw [inv.size]; omega) hu n hin; omega) (hx.trans hx') (fun j hj hlj => ?_)
   by_cases e : j = i
   ·subst e
    have : updAt xs j v j = v := by simp [updAt]
    rw [this]
    exact hv
   ·have : updAt xs i v j = xs j := by simp [updAt, e]
    rw [this]
    rw [getD_set_ne false (Ne.symm e)] at hlj
    exact (L j).on _ _ _ (hS j hj hlj) hx'
theorem wp_region_softE (n : Nat) (L : Nat → Soft) (hm : P.follows .mixedOrders = true) (hB : softE l n = true)
  (hop : ∀ i, i < n → ∀ o, l[i]? = some o → ∀ xs w, Ext w0 w → (∀ j, j ∈ depsOf l i → (L j).S (xs j) w) → ∀ Q' : Exit → Act → World → Prop, (∀ v w', Ext w w' → (L i).S v w' → Q' .normal ((fillAt l a0 xs n).put o.dst v) w') → wpList P l.toArray Q' [o] (fillAt l a0 xs n) w)
  (hend : ∀ xs w, Ext w0 w → (∀ i, i < n → (L i).S (xs i) w) → wpList P l.toArray Q (l.drop n) (fillAt l a0 xs n) w) : (Code.region id l.toArray true).wp P Q a0 w0 := by
 refine wp_region_any hm ?_
 have hn : n = l.length := by
  simp only [softE, Bool.and_eq_true, decide_eq_true_eq] at hB
  exact hB.1.1.1
 have inv0 : HeadInv .any l.toArray n (Array.replicate l.toArray.size false) :=
  ⟨by simp, fun j oj _ hl => (by rw [getD_replicate_false] at hl; cases hl), fun t _ ht => getD_in (by simpa using ht) (getD_replicate_false _ _)⟩
 have hc0 : ∀ m, cntU (Array.replicate l.toArray.size false) m = m := by
  intro m
  induction m with
  | zero => rfl
  | succ m ih => rw [cntU, ih, getD_replicate_false]; rfl
 have := wpAny_softE (P := P) (Q := Q) (a0 := a0) (w0 := w0) L hB hop hend n _ (fun i => ((dstOf l i).map fun t => a0.tmps.getD t undef).getD undef) { w0 with drawn := w0.drawn + 1 } inv0 (hc0 n) (Ext.drew (Ext.refl w0)) (fun i _ hl => (by rw [getD_replicate_false] at hl; cases hl))
 rw [fill_self] at this
 have e : n + (l.length - n) = l.toArray.size := by simp; omega
 rwa [e] at this
end
end Go.Proofs.YtmgekdggahoboaaGreatDoor