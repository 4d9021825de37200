/- A drawn region of values, one append of a new element onto an own slice, and the store of the longer slice into a cell of a row. -/
import Derived.WalkKit
import Derived.WalkSpells
import Derived.WalkLawsBesides
import Derived.Deep.QuietTactic
import Derived.BigQuiet
import Derived.Test.YtmgekdggahoboaaGreatDoorVMs
set_option linter.unusedVariables false
set_option linter.unusedSimpArgs false
namespace Go.Proofs.YtmgekdggahoboaaGreatDoor
open Go.RowKit
open Go.Proofs
section
variable {P : Program} {id : Nat} {Q : Exit → Act → World → Prop} {a0 : Act} {w0 : World} {l : List Oper}
theorem getD_set_self {listed : Array Bool} {i : Nat} (h : i < listed.size) : (listed.setIfInBounds i true).getD i false = true := by
 simp [Array.getD_eq_getD_getElem?, h]
theorem wpAny_glob (J : (Nat → Prop) → (Nat → Value) → World → Prop) (hB : allB l = true)
  (hJ : ∀ S S' xs w, (∀ i, i < l.length → (S i ↔ S' i)) → J S xs w → J S' xs w)
  (hop : ∀ i, i < l.length → ∀ o, l[i]? = some o → ∀ S xs w, J S xs w → ¬ S i → (∀ j, j ∈ depsOf l i → S j) → ∀ Q' : Exit → Act → World → Prop, (∀ v w', J (fun k => k = i ∨ S k) (updAt xs i v) w' → Q' .normal ((fillAt l a0 xs l.length).put o.dst v) w') → wpList P l.toArray Q' [o] (fillAt l a0 xs l.length) w)
  (hend : ∀ S xs w, J S xs w → (∀ i, i < l.length → S i) → Q .normal (fillAt l a0 xs l.length) w) :
  ∀ (f : Nat) (listed : Array Bool) (xs : Nat → Value) (w : World), HeadInv .any l.toArray l.length listed → cntU listed l.length = f → J (fun i => listed.getD i false = true) xs w →
   wpAny P .any l.toArray Q f listed (fillAt l a0 xs l.length) w := by
 simp only [allB, Bool.and_eq_true, decide_eq_true_eq, List.all_eq_true, List.mem_range, Bool.or_eq_true] at hB
 obtain ⟨hdeps, hdst⟩ := hB
 intro f
 induction f with
 | zero =>
  intro listed xs w inv hcnt hx
  have hall := cnt_zero _ hcnt
  refine ⟨List.eq_nil_iff_forall_not_mem.2 fun i hi => ?_, hend _ xs w hx (fun i hi => hall i hi)⟩
  obtain ⟨hun, o, ho, _⟩ := mem_ready.1 hi
  have hin : i < l.length := by simpa using (Array.getElem?_eq_some_iff.1 ho).1
  have h1 := hall i hin
  rw [getD_both hun] at h1
  cases h1
 | succ f ih =>
  intro listed xs w inv hcnt hx
  obtain ⟨i0, hi0, hu0, hmin⟩ := cnt_pos l.length (by omega : 0 < cntU listed l.length)
  have hi0s : i0 < listed.size := by rw [inv.size]; simpa using hi0
  have hu0' := getD_in hi0s hu0
  have hready : i0 ∈ Region.ready .any l.toArray listed := by
   refine mem_ready.2 ⟨hu0', l[i0], by simp [hi0], fun e he hb => ?_⟩
   have hd : e.on ∈ depsOf l i0 := by
    simp only [depsOf, List.getElem?_eq_getElem hi0, Option.map_some, Option.getD_some, List.mem_map, List.mem_filter]
    exact ⟨e, ⟨by simpa using he, hb⟩, rfl⟩
   exact hmin _ (hdeps i0 hi0 _ hd)
  refine ⟨fun h0 => (by rw [h0] at hready; cases hready), fun i hi => ?_⟩
  obtain ⟨hun, o, ho, hall⟩ := mem_ready.1 hi
  have ho' : l[i]? = some o := by simpa using ho
  have hin : i < l.length := (List.getElem?_eq_some_iff.1 ho').1
  have hu := getD_both hun
  refine wpOp_of_one ho ?_
  refine hop i hin o ho' _ xs w hx (fun h => by rw [hu] at h; cases h) (fun j hj => ?_) _ (fun v w' hv => ?_)
  ·have hji := hdeps i hin j hj
   simp only [depsOf, ho', Option.map_some, Option.getD_some, List.mem_map, List.mem_filter] at hj
   obtain ⟨e, ⟨he, hb⟩, rfl⟩ := hj
   exact hall e (by simpa using he) hb
  ·show wpAny P .any l.toArray Q f (listed.setIfInBounds i true) _ w'
   have ed : o.dst = dstOf l i := by simp [dstOf, ho']
   rw [ed, fill_put l.length hin (fun j hj hji => by
    rcases hdst i hin j hj with (h | h) | h
    ·exact absurd h hji
    ·exact .inl h
    ·exact .inr h)]
   refine ih _ _ w' (inv.set hi hin) (by have := cnt_set (by rw [inv.size]; simpa using hin) hu l.length hin; omega) (hJ _ _ _ _ (fun j hj => ?_) hv)
   by_cases e : j = i
   ·subst e
    rw [getD_set_self (by rw [inv.size]; simpa using hin)]
    simp
   ·rw [getD_set_ne false (Ne.symm e)]
    simp [e]
end
end Go.Proofs.YtmgekdggahoboaaGreatDoor

namespace Go.Proofs.YtmgekdggahoboaaGreatDoor
open Go.RowKit
open Go.Proofs
section
variable {P : Program} {id : Nat} {Q : Exit → Act → World → Prop} {a0 : Act} {w0 : World} {l : List Oper}
def chainW (l : List Oper) (ks : List Nat) : Bool := (List.range ks.length).all fun t => decide (t = 0) || (depsOf l (ks.getD t 0)).contains (ks.getD (t - 1) 0)
def nodupW (ks : List Nat) : Bool := (List.range ks.length).all fun t => (List.range ks.length).all fun s => decide (t = s) || decide (ks.getD t 0 ≠ ks.getD s 0)
theorem updAt_self (xs : Nat → Value) (i : Nat) (v : Value) : updAt xs i v i = v := by simp [updAt]
theorem updAt_ne (xs : Nat → Value) {i j : Nat} (v : Value) (h : j ≠ i) : updAt xs i v j = xs j := by simp [updAt, h]
def xsOf (l : List Oper) (a0 : Act) : Nat → Value := fun i => ((dstOf l i).map fun t => a0.tmps.getD t undef).getD undef
theorem wp_region_glob0 (J : (Nat → Prop) → (Nat → Value) → World → Prop) (hm : P.follows .mixedOrders = true) (hB : allB l = true)
  (hJ0 : J (fun _ => False) (xsOf l a0) { w0 with drawn := w0.drawn + 1 })
  (hJ : ∀ S S' xs w, (∀ i, i < l.length → (S i ↔ S' i)) → J S xs w → J S' xs w)
  (hop : ∀ i, i < l.length → ∀ o, l[i]? = some o → ∀ S xs w, J S xs w → ¬ S i → (∀ j, j ∈ depsOf l i → S j) → ∀ Q' : Exit → Act → World → Prop, (∀ v w', J (fun k => k = i ∨ S k) (updAt xs i v) w' → Q' .normal ((fillAt l a0 xs l.length).put o.dst v) w') → wpList P l.toArray Q' [o] (fillAt l a0 xs l.length) w)
  (hend : ∀ S xs w, J S xs w → (∀ i, i < l.length → S i) → Q .normal (fillAt l a0 xs l.length) w) : (Code.region id l.toArray true).wp P Q a0 w0 := by
 refine wp_region_any hm ?_
 have inv0 : HeadInv .any l.toArray l.length (Array.replicate l.toArray.size false) :=
  ⟨by simp, fun j oj _ hl => (by rw [getD_replicate_false] at hl; cases hl), fun t _ ht => getD_in (by simpa using ht) (getD_replicate_false _ _)⟩
 have hc0 : ∀ m, cntU (Array.replicate l.toArray.size false) m = m := by
  intro m
  induction m with
  | zero => rfl
  | succ m ih => rw [cntU, ih, getD_replicate_false]; rfl
 have := wpAny_glob (P := P) (Q := Q) (a0 := a0) J hB hJ hop hend l.length _ (xsOf l a0) { w0 with drawn := w0.drawn + 1 } inv0 (hc0 _) (hJ _ _ _ _ (fun i _ => by rw [getD_replicate_false]; simp) hJ0)
 unfold xsOf at this
 rw [fill_self] at this
 have e : l.length = l.toArray.size := by simp
 rwa [e] at this
theorem wp_region_steps (n : Nat) (hn : l.length = n) (ks : List Nat) (G : Nat → (Nat → Value) → World → Prop) (L : Nat → Nat → Value → World → Prop) (hm : P.follows .mixedOrders = true) (hB : allB l = true) (hC : chainW l ks = true) (hN : nodupW ks = true)
  (hG0 : G 0 (xsOf l a0) { w0 with drawn := w0.drawn + 1 })
  (hGx : ∀ r xs i v w, i ∉ ks → G r xs w → G r (updAt xs i v) w)
  (hGe : ∀ r xs w w', G r xs w → Ext w w' → G r xs w')
  (hLe : ∀ i r v w w', L i r v w → Ext w w' → L i r v w')
  (hread : ∀ i, i < n → i ∉ ks → ∀ o, l[i]? = some o → ∀ r xs w, r ≤ ks.length → G r xs w → (∀ j, j ∈ depsOf l i → j ∉ ks → L j r (xs j) w) → (∀ t, t < ks.length → ks.getD t 0 ∈ depsOf l i → t < r) → (∀ t, t < r → i ∉ depsOf l (ks.getD t 0)) → ∀ Q' : Exit → Act → World → Prop, (∀ v w', Ext w w' → L i r v w' → Q' .normal ((fillAt l a0 xs n).put o.dst v) w') → wpList P l.toArray Q' [o] (fillAt l a0 xs n) w)
  (hwrite : ∀ t, t < ks.length → ks.getD t 0 < n → ∀ o, l[ks.getD t 0]? = some o → ∀ xs w, G t xs w → (∀ j, j ∈ depsOf l (ks.getD t 0) → j ∉ ks → L j t (xs j) w) → ∀ Q' : Exit → Act → World → Prop, (∀ v w', (∀ i u, L i t u w → L i (t + 1) u w') → G (t + 1) (updAt xs (ks.getD t 0) v) w' → Q' .normal ((fillAt l a0 xs n).put o.dst v) w') → wpList P l.toArray Q' [o] (fillAt l a0 xs n) w)
  (hend : (∀ t, t < ks.length → ks.getD t 0 < n) → ∀ xs w, G ks.length xs w → (∀ i, i < n → i ∉ ks → L i ks.length (xs i) w) → Q .normal (fillAt l a0 xs n) w) (hK : (ks.all fun k => decide (k < n)) = true) : (Code.region id l.toArray true).wp P Q a0 w0 := by
 subst hn
 have hkn : ∀ t, t < ks.length → ks.getD t 0 < l.length := fun t ht => by
  have := List.all_eq_true.1 hK (ks.getD t 0) (by rw [List.getD_eq_getElem?_getD]; simp [ht])
  simpa using this
 have hin : ∀ t, t < ks.length → ks.getD t 0 ∈ ks := fun t ht => by rw [List.getD_eq_getElem?_getD]; simp [ht]
 have hget : ∀ k, k ∈ ks → ∃ t, t < ks.length ∧ ks.getD t 0 = k := fun k hk => by
  obtain ⟨t, ht, rfl⟩ := List.getElem_of_mem hk
  exact ⟨t, ht, by rw [List.getD_eq_getElem?_getD]; simp [ht]⟩
 have hnd : ∀ t s, t < ks.length → s < ks.length → ks.getD t 0 = ks.getD s 0 → t = s := fun t s ht hs e => by
  simp only [nodupW, List.all_eq_true, List.mem_range, Bool.or_eq_true, decide_eq_true_eq] at hN
  rcases hN t ht s hs with h | h
  ·exact h
  ·exact absurd e h
 have hch : ∀ t, t < ks.length → 0 < t → ks.getD (t - 1) 0 ∈ depsOf l (ks.getD t 0) := fun t ht h0 => by
  simp only [chainW, List.all_eq_true, List.mem_range, Bool.or_eq_true, decide_eq_true_eq] at hC
  rcases hC t ht with h | h
  ·omega
  ·simpa using h
 refine wp_region_glob0 (fun S xs w => ∃ r, r ≤ ks.length ∧ (∀ t, t < ks.length → (S (ks.getD t 0) ↔ t < r)) ∧ G r xs w ∧ (∀ i, i < l.length → i ∉ ks → S i → L i r (xs i) w) ∧ ∀ k, k < l.length → S k → ∀ j, j ∈ depsOf l k → S j) hm hB ?_ ?_ ?_ ?_
 ·exact ⟨0, Nat.zero_le _, fun t ht => ⟨fun h => h.elim, fun h => absurd h (by omega)⟩, hG0, fun i _ _ h => h.elim, fun _ _ h => h.elim⟩
 ·rintro S S' xs w hS ⟨r, h1, h2, h3, h4, h5⟩
  have hdl' : ∀ i, i < l.length → ∀ j, j ∈ depsOf l i → j < l.length := fun i hi j hj => by
   simp only [allB, Bool.and_eq_true, decide_eq_true_eq, List.all_eq_true, List.mem_range] at hB
   have := hB.1 i hi j hj
   omega
  exact ⟨r, h1, fun t ht => (hS _ (hkn t ht)).symm.trans (h2 t ht), h3, fun i hi hk hs => h4 i hi hk ((hS i hi).2 hs), fun k hk hs j hj => (hS j (hdl' k hk j hj)).1 (h5 k hk ((hS k hk).2 hs) j hj)⟩
 ·rintro i hi o ho S xs w ⟨r, h1, h2, h3, h4, h5⟩ hns hd Q' hQ
  have hcl : ∀ k, k < l.length → (k = i ∨ S k) → ∀ j, j ∈ depsOf l k → j = i ∨ S j := fun k hk hs j hj => by
   rcases hs with rfl | h
   ·exact .inr (hd j hj)
   ·exact .inr (h5 k hk h j hj)
  have hdl : ∀ j, j ∈ depsOf l i → j < l.length := fun j hj => by
   simp only [allB, Bool.and_eq_true, decide_eq_true_eq, List.all_eq_true, List.mem_range] at hB
   have := hB.1 i hi j hj
   omega
  by_cases hik : i ∈ ks
  ·obtain ⟨t, ht, rfl⟩ := hget i hik
   have hrt : r = t := by
    have a1 : ¬ t < r := fun h => hns ((h2 t ht).2 h)
    by_cases h0 : t = 0
    ·omega
    ·have a2 := (h2 (t - 1) (by omega)).1 (hd _ (hch t ht (by omega)))
     omega
   subst hrt
   refine hwrite r ht hi o ho xs w h3 (fun j hj hjk => h4 j (hdl j hj) hjk (hd j hj)) Q' (fun v w' hL hG => hQ v w' ?_)
   refine ⟨r + 1, ht, fun t' ht' => ?_, hG, fun i' hi' hk' hs' => ?_, hcl⟩
   ·by_cases e : t' = r
    ·subst e; exact ⟨fun _ => by omega, fun _ => .inl rfl⟩
    ·have ne : ks.getD t' 0 ≠ ks.getD r 0 := fun h => e (hnd _ _ ht' ht h)
     constructor
     ·rintro (h | h)
      ·exact absurd h ne
      ·have := (h2 t' ht').1 h; omega
     ·intro h; exact .inr ((h2 t' ht').2 (by omega))
   ·have ne : i' ≠ ks.getD r 0 := fun h => hk' (h ▸ hin r ht)
    rcases hs' with h | h
    ·exact absurd h ne
    ·rw [updAt_ne _ _ ne]
     exact hL i' _ (h4 i' hi' hk' h)
  ·refine hread i hi hik o ho r xs w h1 h3 (fun j hj hjk => h4 j (hdl j hj) hjk (hd j hj)) (fun t ht hj => (h2 t ht).1 (hd _ hj)) (fun t ht hj => hns (h5 _ (hkn t (by omega)) ((h2 t (by omega)).2 ht) i hj)) Q' (fun v w' hx hL => hQ v w' ?_)
   refine ⟨r, h1, fun t ht => ?_, hGx r xs i v w' hik (hGe r xs w w' h3 hx), fun i' hi' hk' hs' => ?_, hcl⟩
   ·have ne : ks.getD t 0 ≠ i := fun h => hik (h ▸ hin t ht)
    constructor
    ·rintro (h | h)
     ·exact absurd h ne
     ·exact (h2 t ht).1 h
    ·intro h; exact .inr ((h2 t ht).2 h)
   ·by_cases e : i' = i
    ·subst e; rw [updAt_self]; exact hL
    ·rw [updAt_ne _ _ e]
     rcases hs' with h | h
     ·exact absurd h e
     ·exact hLe i' r _ _ _ (h4 i' hi' hk' h) hx
 ·rintro S xs w ⟨r, h1, h2, h3, h4, _⟩ hall
  have hr : r = ks.length := by
   by_cases h0 : ks.length = 0
   ·omega
   ·have := (h2 (ks.length - 1) (by omega)).1 (hall _ (hkn _ (by omega)))
    omega
  subst hr
  exact hend hkn xs w h3 (fun i hi hk => h4 i hi hk (hall i hi))
end
end Go.Proofs.YtmgekdggahoboaaGreatDoor

namespace Go.Proofs.YtmgekdggahoboaaGreatDoor
open Go.RowKit
open Go.Proofs
theorem ButS.setCells {S : Nat → Prop} {a b : World} (h : ButS S a b) {B : Nat} (hp : S B) (o : Nat) (vs : List Value) : ButS S a (b.setCells B o vs) := by
 induction vs generalizing o b with
 | nil => exact h
 | cons v r ih => exact ih (h.setCell (p := ⟨B, o, none⟩) (.inl hp) v) (o + 1)
section
variable {P : Program} {id : Nat} {Q : Exit → Act → World → Prop} {a0 : Act} {w0 : World} {l : List Oper}
end
theorem sopP {l : List Oper} {i : Nat} {o0 : Oper} (h0 : l[i]? = some o0) {w0 : World} {S : Nat → Prop} {D : (Nat → Value) → World → Prop} {G T : Oper → (Nat → Value) → World → (Exit → Act → World → Prop) → Prop}
  (H : ∀ xs W, Hid (ButS S w0 W) → w0.heap.size ≤ W.heap.size → Hid (D xs W) → ∀ Q', Hid (G o0 xs W Q') → T o0 xs W Q') : ∀ o, l[i]? = some o → ∀ xs w, ButS S w0 w → D xs w → ∀ Q', G o xs w Q' → T o xs w Q' := by
 intro o ho xs w hx hd Q' hg
 rw [h0] at ho
 obtain rfl := Option.some.inj ho
 exact H xs w (lh hx) hx.size (lh hd) Q' (lh hg)
end Go.Proofs.YtmgekdggahoboaaGreatDoor

namespace Go.Proofs.YtmgekdggahoboaaGreatDoor
open Go.RowKit
open Go.Proofs
section
variable {P : Program} {id : Nat} {Q : Exit → Act → World → Prop} {a0 : Act} {w0 : World} {l : List Oper}
theorem butS_sets {S : Nat → Prop} {a b : World} (h : ButS S a b) {m : Nat} (hm : S m ∨ a.heap.size ≤ m) (o : Nat) (vs : List Value) : ButS S a (b.setCells m o vs) := by
 induction vs generalizing o b with
 | nil => exact h
 | cons v r ih => exact ih (h.setCell (p := ⟨m, o, none⟩) hm v) (o + 1)
theorem wp_region_puts (n : Nat) (hn : l.length = n) (ks : List Nat) (vs : Nat → Value) (B : Nat) (C : Nat → Array Value) (off : Nat → Nat) (val : Nat → List Value) (hm : P.follows .mixedOrders = true) (hB : allB l = true) (hC : chainW l ks = true) (hN : nodupW ks = true) (hK : (ks.all fun k => decide (k < n)) = true)
  (hrow : RowAt w0 B (C 0)) (hstep : ∀ t, t < ks.length → laidOver (C t) (off t) (val t) = C (t + 1))
  (hread : ∀ i, i < n → i ∉ ks → ∀ o, l[i]? = some o → ∀ xs w, ButS (fun k => k = B) w0 w → (∀ j, j ∈ depsOf l i → j ∉ ks → xs j = vs j) → ∀ Q' : Exit → Act → World → Prop, (∀ v w', Ext w w' → v = vs i → Q' .normal ((fillAt l a0 xs n).put o.dst v) w') → wpList P l.toArray Q' [o] (fillAt l a0 xs n) w)
  (hwrite : ∀ t, t < ks.length → ∀ o, l[ks.getD t 0]? = some o → ∀ xs w, ButS (fun k => k = B) w0 w → RowAt w B (C t) → (∀ j, j ∈ depsOf l (ks.getD t 0) → j ∉ ks → xs j = vs j) → ∀ Q' : Exit → Act → World → Prop, (∀ v, Q' .normal ((fillAt l a0 xs n).put o.dst v) (w.setCells B (off t) (val t))) → wpList P l.toArray Q' [o] (fillAt l a0 xs n) w)
  (hend : ∀ xs w, ButS (fun k => k = B) w0 w → RowAt w B (C ks.length) → (∀ i, i < n → i ∉ ks → xs i = vs i) → Q .normal (fillAt l a0 xs n) w) : (Code.region id l.toArray true).wp P Q a0 w0 := by
 refine wp_region_steps n hn ks (fun r _ w => ButS (fun k => k = B) w0 w ∧ RowAt w B (C r)) (fun i _ v _ => v = vs i) hm hB hC hN ?_ ?_ ?_ ?_ ?_ ?_ ?_ hK
 ·exact ⟨(ButS.refl _ _).drew, hrow.drew⟩
 ·exact fun r xs i v w _ h => h
 ·exact fun r xs w w' h hx => ⟨h.1.ext hx, h.2.ext hx⟩
 ·exact fun i r v w w' h _ => h
 ·intro i hi hik o ho r xs w hr hG hd _ hno Q' hQ
  exact hread i hi hik o ho xs w hG.1 (fun j hj h1 => hd j hj h1) Q' (fun v w' hx hv => hQ v w' hx hv)
 ·intro t ht hlt o ho xs w hG hd Q' hQ
  refine hwrite t ht o ho xs w hG.1 hG.2 (fun j hj h1 => hd j hj h1) Q' (fun v => hQ v _ (fun i u h => h) ⟨butS_sets hG.1 (.inl rfl) _ _, ?_⟩)
  have h := hG.2.sets (off t) (val t)
  rwa [hstep t ht] at h
 ·intro _ xs w hG hd
  exact hend xs w hG.1 hG.2 (fun i hi h1 => hd i hi h1)
end
theorem sopW {l : List Oper} {i : Nat} {o0 : Oper} (h0 : l[i]? = some o0) {w0 : World} {S : Nat → Prop} {R : World → Prop} {D : (Nat → Value) → World → Prop} {G T : Oper → (Nat → Value) → World → (Exit → Act → World → Prop) → Prop}
  (H : ∀ xs W, Hid (ButS S w0 W) → w0.heap.size ≤ W.heap.size → Hid (R W) → Hid (D xs W) → ∀ Q', Hid (G o0 xs W Q') → T o0 xs W Q') : ∀ o, l[i]? = some o → ∀ xs w, ButS S w0 w → R w → D xs w → ∀ Q', G o xs w Q' → T o xs w Q' := by
 intro o ho xs w hx hr hd Q' hg
 rw [h0] at ho
 obtain rfl := Option.some.inj ho
 exact H xs w (lh hx) hx.size (lh hr) (lh hd) Q' (lh hg)
end Go.Proofs.YtmgekdggahoboaaGreatDoor

namespace Go.Proofs.YtmgekdggahoboaaGreatDoor
open Go.RowKit
open Go.Proofs
theorem ite_no {c : Prop} [Decidable c] {a b : Prop} (h : ¬ c) (hb : b) : if c then a else b := by rw [if_neg h]; exact hb
theorem ite_yes {c : Prop} [Decidable c] {a b : Prop} (h : c) (ha : a) : if c then a else b := by rw [if_pos h]; exact ha
section
variable {P : Program} {id : Nat} {Q : Exit → Act → World → Prop} {a0 : Act} {w0 : World} {l : List Oper}
theorem wp_region_app (n : Nat) (hn : l.length = n) (ib ia is : Nat) (vs : Nat → Value) (B base o : Nat) (cs0 : Array Value) (N R : Value → World → Prop) (hm : P.follows .mixedOrders = true) (hB : allB l = true) (hC : chainW l [ia, is] = true) (hN : nodupW [ia, is] = true) (hK : ([ia, is].all fun k => decide (k < n)) = true)
  (hib : ib ≠ ia ∧ ib ≠ is ∧ ib ∈ depsOf l ia) (hrow : RowAt w0 B cs0) (hBb : B < base) (hbase : base ≤ w0.heap.size)
  (hNx : ∀ v w w', N v w → Ext w w' → N v w') (hRx : ∀ v w w', R v w → Ext w w' → R v w') (hRs : ∀ v w u, R v w → R v (w.setCell ⟨B, o, none⟩ u))
  (hread : ∀ i, i < n → i ≠ ia ∧ i ≠ is → ∀ o, l[i]? = some o → ∀ xs w, ButS (fun k => base ≤ k ∨ k = B) w0 w → ((i ∈ depsOf l ia → Ext w0 w) ∧ ∀ j, j ∈ depsOf l i → j ≠ ia ∧ j ≠ is ∧ j ≠ ib → xs j = vs j) → ∀ Q' : Exit → Act → World → Prop, (∀ v w', Ext w w' → (if i = ib then N v w' else v = vs i) → Q' .normal ((fillAt l a0 xs n).put o.dst v) w') → wpList P l.toArray Q' [o] (fillAt l a0 xs n) w)
  (happ : ∀ o, l[ia]? = some o → ∀ xs w, Ext w0 w → N (xs ib) w → (∀ j, j ∈ depsOf l ia → j ≠ ia ∧ j ≠ is ∧ j ≠ ib → xs j = vs j) → ∀ Q' : Exit → Act → World → Prop, (∀ v w', R v w' → Below base w w' → Q' .normal ((fillAt l a0 xs n).put o.dst v) w') → wpList P l.toArray Q' [o] (fillAt l a0 xs n) w)
  (hstore : ∀ q, l[is]? = some q → ∀ xs w, ButS (fun k => base ≤ k ∨ k = B) w0 w → ((RowAt w B cs0 ∧ R (xs ia) w) ∧ ∀ j, j ∈ depsOf l is → j ≠ ia ∧ j ≠ is ∧ j ≠ ib → xs j = vs j) → ∀ Q' : Exit → Act → World → Prop, (∀ v, Q' .normal ((fillAt l a0 xs n).put q.dst v) (w.setCell ⟨B, o, none⟩ (xs ia))) → wpList P l.toArray Q' [q] (fillAt l a0 xs n) w)
  (hend : ∀ xs w, ButS (fun k => base ≤ k ∨ k = B) w0 w → RowAt w B (laidOver cs0 o [xs ia]) → R (xs ia) w → Q .normal (fillAt l a0 xs n) w) : (Code.region id l.toArray true).wp P Q a0 w0 := by
 obtain ⟨hb1, hb2, hb3⟩ := hib
 have hmem : ∀ {j}, j ∉ [ia, is] ↔ j ≠ ia ∧ j ≠ is := fun {j} => by simp
 have hne : ia ≠ is := by
  simp only [nodupW, List.all_eq_true, List.mem_range, Bool.or_eq_true, decide_eq_true_eq, List.length_cons, List.length_nil] at hN
  rcases hN 0 (by omega) 1 (by omega) with h | h
  ·omega
  ·exact h
 have up : ∀ {r : Nat} {w : World}, ButS (fun k => base ≤ k ∨ (r = 2 ∧ k = B)) w0 w → ButS (fun k => base ≤ k ∨ k = B) w0 w := fun h => h.mono (fun k _ e => e.elim .inl (fun e' => .inr e'.2))
 refine wp_region_steps n hn [ia, is] (fun r xs w => ButS (fun k => base ≤ k ∨ (r = 2 ∧ k = B)) w0 w ∧ (r = 0 → Ext w0 w) ∧ (r ≤ 1 → RowAt w B cs0) ∧ (1 ≤ r → R (xs ia) w) ∧ (r = 2 → RowAt w B (laidOver cs0 o [xs ia]))) (fun i r v w => if i = ib then (r = 0 → N v w) else v = vs i) hm hB hC hN ?_ ?_ ?_ ?_ ?_ ?_ ?_ hK
 ·exact ⟨(ButS.refl _ _).drew, fun _ => Ext.drew (eR _), fun _ => hrow.drew, fun h => absurd h (by omega), fun h => (by cases h)⟩
 ·intro r xs i v w hi h
  rw [updAt_ne _ _ (Ne.symm (hmem.1 hi).1)]
  exact h
 ·exact fun r xs w w' h hx => ⟨h.1.ext hx, fun e => (h.2.1 e).trans hx, fun e => (h.2.2.1 e).ext hx, fun e => hRx _ _ _ (h.2.2.2.1 e) hx, fun e => (h.2.2.2.2 e).ext hx⟩
 ·intro i r v w w' h hx
  by_cases e : i = ib
  ·rw [if_pos e] at h ⊢
   exact fun h0 => hNx _ _ _ (h h0) hx
  ·rw [if_neg e] at h ⊢
   exact h
 ·intro i hi hik q ho r xs w hr hG hd _ hno Q' hQ
  refine hread i hi (hmem.1 hik) q ho xs w (up hG.1) ⟨fun hi' => ?_, fun j hj h1 => ?_⟩ Q' (fun v w' hx hv => hQ v w' hx ?_)
  ·have hr0 : r = 0 := by
    rcases Nat.eq_zero_or_pos r with h | h
    ·exact h
    ·exact absurd hi' (hno 0 h)
   exact hG.2.1 hr0
  ·have := hd j hj (hmem.2 ⟨h1.1, h1.2.1⟩)
   rwa [if_neg h1.2.2] at this
  ·by_cases e : i = ib
   ·rw [if_pos e] at hv ⊢
    exact fun _ => hv
   ·rw [if_neg e] at hv ⊢
    exact hv
 ·intro t ht hlt q ho xs w hG hd Q' hQ
  rcases t with _ | _ | t
  ·have hNw : N (xs ib) w := by
    have := hd ib hb3 (hmem.2 ⟨hb1, hb2⟩)
    rw [if_pos rfl] at this
    exact this rfl
   refine happ q ho xs w (hG.2.1 rfl) hNw (fun j hj h1 => by
    have := hd j hj (hmem.2 ⟨h1.1, h1.2.1⟩)
    rwa [if_neg h1.2.2] at this) Q' (fun v w' hR hb => hQ v w' ?_ ⟨?_, ?_, ?_, ?_, ?_⟩)
   ·intro i u h
    by_cases e : i = ib
    ·rw [if_pos e]; exact fun k => absurd k (by omega)
    ·rw [if_neg e] at h ⊢; exact h
   ·have h1 := hG.2.1 rfl
    have h2 : ButS (fun k => base ≤ k ∨ (1 = 2 ∧ k = B)) w w' := ⟨hb.os, hb.tape, hb.output, hb.size, fun k hk hn => hb.block k (by
     have : ¬ base ≤ k := fun e => hn (.inl e)
     omega)⟩
    exact (ButS.of_ext h1).trans h2
   ·exact fun h => (by cases h)
   ·intro _
    have h1 := hG.2.2.1 (by omega)
    obtain ⟨T, hT⟩ := h1
    exact ⟨T, (hb.block B hBb).trans hT⟩
   ·intro _
    show R (updAt xs ia v ia) w'
    rw [updAt_self]
    exact hR
   ·exact fun h => (by cases h)
  ·refine hstore q ho xs w (up hG.1) ⟨⟨hG.2.2.1 (by omega), hG.2.2.2.1 (by omega)⟩, fun j hj h1 => by
    have := hd j hj (hmem.2 ⟨h1.1, h1.2.1⟩)
    rwa [if_neg h1.2.2] at this⟩ Q' (fun v => hQ v _ ?_ ⟨?_, ?_, ?_, ?_, ?_⟩)
   ·intro i u h
    by_cases e : i = ib
    ·rw [if_pos e]; exact fun k => absurd k (by omega)
    ·rw [if_neg e] at h ⊢; exact h
   ·refine ButS.setCell (hG.1.mono (fun k _ e => e.elim .inl (fun e' => .inr ⟨rfl, e'.2⟩))) (p := ⟨B, o, none⟩) (.inl (.inr ⟨rfl, rfl⟩)) _
   ·exact fun h => (by cases h)
   ·exact fun h => absurd h (by omega)
   ·intro _
    show R (updAt xs is v ia) _
    rw [updAt_ne _ _ hne]
    exact hRs _ _ _ (hG.2.2.2.1 (by omega))
   ·intro _
    show RowAt _ B (laidOver cs0 o [updAt xs is v ia])
    rw [updAt_ne _ _ hne]
    exact (hG.2.2.1 (by omega)).sets o [xs ia]
  ·simp at ht; omega
 ·intro _ xs w hG hd
  exact hend xs w (up hG.1) (hG.2.2.2.2 rfl) (hG.2.2.2.1 (by simp))
end
theorem sopA {l : List Oper} {i : Nat} {o0 : Oper} (h0 : l[i]? = some o0) {w0 : World} {N : (Nat → Value) → World → Prop} {D : (Nat → Value) → World → Prop} {G T : Oper → (Nat → Value) → World → (Exit → Act → World → Prop) → Prop}
  (H : ∀ xs W, Hid (Ext w0 W) → w0.heap.size ≤ W.heap.size → Hid (N xs W) → Hid (D xs W) → ∀ Q', Hid (G o0 xs W Q') → T o0 xs W Q') : ∀ o, l[i]? = some o → ∀ xs w, Ext w0 w → N xs w → D xs w → ∀ Q', G o xs w Q' → T o xs w Q' := by
 intro o ho xs w hx hn hd Q' hg
 rw [h0] at ho
 obtain rfl := Option.some.inj ho
 exact H xs w (lh hx) hx.size (lh hn) (lh hd) Q' (lh hg)
end Go.Proofs.YtmgekdggahoboaaGreatDoor