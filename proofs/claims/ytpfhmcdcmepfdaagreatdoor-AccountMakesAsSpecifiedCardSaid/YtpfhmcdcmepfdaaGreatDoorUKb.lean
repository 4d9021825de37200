
import Derived.WalkKit
import Derived.WalkSpells
import Derived.WalkLawsBesides
import Derived.Deep.QuietTactic
import Derived.BigQuiet
import Derived.Test.YtpfhmcdcmepfdaaGreatDoorUJp
import Derived.WalkMore
set_option maxRecDepth 100000
set_option maxHeartbeats 64000000
set_option linter.unusedVariables false
set_option linter.unusedSimpArgs false
namespace Go.Proofs.YtpfhmcdcmepfdaaGreatDoor
open Go.RowKit
open Go.Proofs
section
variable {P : Program} {id : Nat} {Q : Exit → Act → World → Prop} {a0 : Act} {w0 : World} {l : List Oper}
theorem getD_set_self {listed : Array Bool} {i : Nat} (h : i < listed.size) : (listed.setIfInBounds i true).getD i false = true := by
 simp [Array.getD_eq_getD_getElem?, h]
theorem wpAny_glob (J : (Nat → Prop) → (Nat → Value) → World → Prop) (hB : allB l = true)
  (hJ : ∀ S S' xs w, (∀ i, i < l.length → (S i ↔ S' i)) → J S xs w → J S' xs w)
  (hop : ∀ i, i < l.length → ∀ o, l[i]? = some o → ∀ S xs w, J S xs w → ¬ S i → (∀ j, j ∈ depsOf l i → S j) → ∀ Q' : Exit → Act → World → Prop, (∀ v w', J (fun k => k = i ∨ S k) (updAt xs i v) w' → Q' .normal ((fillAt l a0 xs l.length).put o.dst v) w') → wpList P l.toArray Q' [o] (fillAt l a0 xs l.length) w)
  (hend : ∀ S xs w, J S xs w → (∀ i, i < l.length → S i) → Q .normal (fillAt l a0 xs l.length) w) :
  ∀ (f : Nat) (listed : Array Bool) (xs : Nat → Value) (w : World), HeadInv .any l.toArray l.length listed → cntU listed l.length = f → J (fun i => listed.getD i false = true) xs w →
   wpAny P .any l.toArray Q f listed (fillAt l a0 xs l.length) w := by
 simp only [allB, Bool.and_eq_true, decide_eq_true_eq, List.all_eq_true, List.mem_range, Bool.or_eq_true] at hB
 obtain ⟨hdeps, hdst⟩ := hB
 intro f
 induction f with
 | zero =>
  intro listed xs w inv hcnt hx
  have hall := cnt_zero _ hcnt
  refine ⟨List.eq_nil_iff_forall_not_mem.2 fun i hi => ?_, hend _ xs w hx (fun i hi => hall i hi)⟩
  obtain ⟨hun, o, ho, _⟩ := mem_ready.1 hi
  have hin : i < l.length := by simpa using (Array.getElem?_eq_some_iff.1 ho).1
  have h1 := hall i hin
  rw [getD_both hun] at h1
  cases h1
 | succ f ih =>
  intro listed xs w inv hcnt hx
  obtain ⟨i0, hi0, hu0, hmin⟩ := cnt_pos l.length (by omega : 0 < cntU listed l.length)
  have hi0s : i0 < listed.size := by rw [inv.size]; simpa using hi0
  have hu0' := getD_in hi0s hu0
  have hready : i0 ∈ Region.ready .any l.toArray listed := by
   refine mem_ready.2 ⟨hu0', l[i0], by simp [hi0], fun e he hb => ?_⟩
   have hd : e.on ∈ depsOf l i0 := by
    simp only [depsOf, List.getElem?_eq_getElem hi0, Option.map_some, Option.getD_some, List.mem_map, List.mem_filter]
    exact ⟨e, ⟨by simpa using he, hb⟩, rfl⟩
   exact hmin _ (hdeps i0 hi0 _ hd)
  refine ⟨fun h0 => (by rw [h0] at hready; cases hready), fun i hi => ?_⟩
  obtain ⟨hun, o, ho, hall⟩ := mem_ready.1 hi
  have ho' : l[i]? = some o := by simpa using ho
  have hin : i < l.length := (List.getElem?_eq_some_iff.1 ho').1
  have hu := getD_both hun
  refine wpOp_of_one ho ?_
  refine hop i hin o ho' _ xs w hx (fun h => by rw [hu] at h; cases h) (fun j hj => ?_) _ (fun v w' hv => ?_)
  ·have hji := hdeps i hin j hj
   simp only [depsOf, ho', Option.map_some, Option.getD_some, List.mem_map, List.mem_filter] at hj
   obtain ⟨e, ⟨he, hb⟩, rfl⟩ := hj
   exact hall e (by simpa using he) hb
  ·show wpAny P .any l.toArray Q f (listed.setIfInBounds i true) _ w'
   have ed : o.dst = dstOf l i := by simp [dstOf, ho']
   rw [ed, fill_put l.length hin (fun j hj hji => by
    rcases hdst i hin j hj with (h | h) | h
    ·exact absurd h hji
    ·exact .inl h
    ·exact .inr h)]
   refine ih _ _ w' (inv.set hi hin) (by have := cnt_set (by rw [inv.size]; simpa using hin) hu l.length hin; omega) (hJ _ _ _ _ (fun j hj => ?_) hv)
   by_cases e : j = i
   ·subst e
    rw [getD_set_self (by rw [inv.size]; simpa using hin)]
    simp
   ·rw [getD_set_ne false (Ne.symm e)]
    simp [e]
end
end Go.Proofs.YtpfhmcdcmepfdaaGreatDoor

namespace Go.Proofs.YtpfhmcdcmepfdaaGreatDoor
open Go.RowKit
open Go.Proofs
section
variable {P : Program} {id : Nat} {Q : Exit → Act → World → Prop} {a0 : Act} {w0 : World} {l : List Oper}
def chainW (l : List Oper) (ks : List Nat) : Bool := (List.range ks.length).all fun t => decide (t = 0) || (depsOf l (ks.getD t 0)).contains (ks.getD (t - 1) 0)
def nodupW (ks : List Nat) : Bool := (List.range ks.length).all fun t => (List.range ks.length).all fun s => decide (t = s) || decide (ks.getD t 0 ≠ ks.getD s 0)
theorem updAt_self (xs : Nat → Value) (i : Nat) (v : Value) : updAt xs i v i = v := by simp [updAt]
theorem updAt_ne (xs : Nat → Value) {i j : Nat} (v : Value) (h : j ≠ i) : updAt xs i v j = xs j := by simp [updAt, h]
def xsOf (l : List Oper) (a0 : Act) : Nat → Value := fun i => ((dstOf l i).map fun t => a0.tmps.getD t undef).getD undef
theorem wp_region_glob0 (J : (Nat → Prop) → (Nat → Value) → World → Prop) (hm : P.follows .mixedOrders = true) (hB : allB l = true)
  (hJ0 : J (fun _ => False) (xsOf l a0) { w0 with drawn := w0.drawn + 1 })
  (hJ : ∀ S S' xs w, (∀ i, i < l.length → (S i ↔ S' i)) → J S xs w → J S' xs w)
  (hop : ∀ i, i < l.length → ∀ o, l[i]? = some o → ∀ S xs w, J S xs w → ¬ S i → (∀ j, j ∈ depsOf l i → S j) → ∀ Q' : Exit → Act → World → Prop, (∀ v w', J (fun k => k = i ∨ S k) (updAt xs i v) w' → Q' .normal ((fillAt l a0 xs l.length).put o.dst v) w') → wpList P l.toArray Q' [o] (fillAt l a0 xs l.length) w)
  (hend : ∀ S xs w, J S xs w → (∀ i, i < l.length → S i) → Q .normal (fillAt l a0 xs l.length) w) : (Code.region id l.toArray true).wp P Q a0 w0 := by
 refine wp_region_any hm ?_
 have inv0 : HeadInv .any l.toArray l.length (Array.replicate l.toArray.size false) :=
  ⟨by simp, fun j oj _ hl => (by rw [getD_replicate_false] at hl; cases hl), fun t _ ht => getD_in (by simpa using ht) (getD_replicate_false _ _)⟩
 have hc0 : ∀ m, cntU (Array.replicate l.toArray.size false) m = m := by
  intro m
  induction m with
  | zero => rfl
  | succ m ih => rw [cntU, ih, getD_replicate_false]; rfl
 have := wpAny_glob (P := P) (Q := Q) (a0 := a0) J hB hJ hop hend l.length _ (xsOf l a0) { w0 with drawn := w0.drawn + 1 } inv0 (hc0 _) (hJ _ _ _ _ (fun i _ => by rw [getD_replicate_false]; simp) hJ0)
 unfold xsOf at this
 rw [fill_self] at this
 have e : l.length = l.toArray.size := by simp
 rwa [e] at this
theorem wp_region_steps (n : Nat) (hn : l.length = n) (ks : List Nat) (G : Nat → (Nat → Value) → World → Prop) (L : Nat → Nat → Value → World → Prop) (hm : P.follows .mixedOrders = true) (hB : allB l = true) (hC : chainW l ks = true) (hN : nodupW ks = true)
  (hG0 : G 0 (xsOf l a0) { w0 with drawn := w0.drawn + 1 })
  (hGx : ∀ r xs i v w, i ∉ ks → G r xs w → G r (updAt xs i v) w)
  (hGe : ∀ r xs w w', G r xs w → Ext w w' → G r xs w')
  (hLe : ∀ i r v w w', L i r v w → Ext w w' → L i r v w')
  (hread : ∀ i, i < n → i ∉ ks → ∀ o, l[i]? = some o → ∀ r xs w, r ≤ ks.length → G r xs w → (∀ j, j ∈ depsOf l i → j ∉ ks → L j r (xs j) w) → (∀ t, t < ks.length → ks.getD t 0 ∈ depsOf l i → t < r) → (∀ t, t < r → i ∉ depsOf l (ks.getD t 0)) → ∀ Q' : Exit → Act → World → Prop, (∀ v w', Ext w w' → L i r v w' → Q' .normal ((fillAt l a0 xs n).put o.dst v) w') → wpList P l.toArray Q' [o] (fillAt l a0 xs n) w)
  (hwrite : ∀ t, t < ks.length → ks.getD t 0 < n → ∀ o, l[ks.getD t 0]? = some o → ∀ xs w, G t xs w → (∀ j, j ∈ depsOf l (ks.getD t 0) → j ∉ ks → L j t (xs j) w) → ∀ Q' : Exit → Act → World → Prop, (∀ v w', (∀ i u, L i t u w → L i (t + 1) u w') → G (t + 1) (updAt xs (ks.getD t 0) v) w' → Q' .normal ((fillAt l a0 xs n).put o.dst v) w') → wpList P l.toArray Q' [o] (fillAt l a0 xs n) w)
  (hend : (∀ t, t < ks.length → ks.getD t 0 < n) → ∀ xs w, G ks.length xs w → (∀ i, i < n → i ∉ ks → L i ks.length (xs i) w) → Q .normal (fillAt l a0 xs n) w) (hK : (ks.all fun k => decide (k < n)) = true) : (Code.region id l.toArray true).wp P Q a0 w0 := by
 subst hn
 have hkn : ∀ t, t < ks.length → ks.getD t 0 < l.length := fun t ht => by
  have := List.all_eq_true.1 hK (ks.getD t 0) (by rw [List.getD_eq_getElem?_getD]; simp [ht])
  simpa using this
 have hin : ∀ t, t < ks.length → ks.getD t 0 ∈ ks := fun t ht => by rw [List.getD_eq_getElem?_getD]; simp [ht]
 have hget : ∀ k, k ∈ ks → ∃ t, t < ks.length ∧ ks.getD t 0 = k := fun k hk => by
  obtain ⟨t, ht, rfl⟩ := List.getElem_of_mem hk
  exact ⟨t, ht, by rw [List.getD_eq_getElem?_getD]; simp [ht]⟩
 have hnd : ∀ t s, t < ks.length → s < ks.length → ks.getD t 0 = ks.getD s 0 → t = s := fun t s ht hs e => by
  simp only [nodupW, List.all_eq_true, List.mem_range, Bool.or_eq_true, decide_eq_true_eq] at hN
  rcases hN t ht s hs with h | h
  ·exact h
  ·exact absurd e h
 have hch : ∀ t, t < ks.length → 0 < t → ks.getD (t - 1) 0 ∈ depsOf l (ks.getD t 0) := fun t ht h0 => by
  simp only [chainW, List.all_eq_true, List.mem_range, Bool.or_eq_true, decide_eq_true_eq] at hC
  rcases hC t ht with h | h
  ·omega
  ·simpa using h
 refine wp_region_glob0 (fun S xs w => ∃ r, r ≤ ks.length ∧ (∀ t, t < ks.length → (S (ks.getD t 0) ↔ t < r)) ∧ G r xs w ∧ (∀ i, i < l.length → i ∉ ks → S i → L i r (xs i) w) ∧ ∀ k, k < l.length → S k → ∀ j, j ∈ depsOf l k → S j) hm hB ?_ ?_ ?_ ?_
 ·exact ⟨0, Nat.zero_le _, fun t ht => ⟨fun h => h.elim, fun h => absurd h (by omega)⟩, hG0, fun i _ _ h => h.elim, fun _ _ h => h.elim⟩
 ·rintro S S' xs w hS ⟨r, h1, h2, h3, h4, h5⟩
  have hdl' : ∀ i, i < l.length → ∀ j, j ∈ depsOf l i → j < l.length := fun i hi j hj => by
   simp only [allB, Bool.and_eq_true, decide_eq_true_eq, List.all_eq_true, List.mem_range] at hB
   have := hB.1 i hi j hj
   omega
  exact ⟨r, h1, fun t ht => (hS _ (hkn t ht)).symm.trans (h2 t ht), h3, fun i hi hk hs => h4 i hi hk ((hS i hi).2 hs), fun k hk hs j hj => (hS j (hdl' k hk j hj)).1 (h5 k hk ((hS k hk).2 hs) j hj)⟩
 ·rintro i hi o ho S xs w ⟨r, h1, h2, h3, h4, h5⟩ hns hd Q' hQ
  have hcl : ∀ k, k < l.length → (k = i ∨ S k) → ∀ j, j ∈ depsOf l k → j = i ∨ S j := fun k hk hs j hj => by
   rcases hs with rfl | h
   ·exact .inr (hd j hj)
   ·exact .inr (h5 k hk h j hj)
  have hdl : ∀ j, j ∈ depsOf l i → j < l.length := fun j hj => by
   simp only [allB, Bool.and_eq_true, decide_eq_true_eq, List.all_eq_true, List.mem_range] at hB
   have := hB.1 i hi j hj
   omega
  by_cases hik : i ∈ ks
  ·obtain ⟨t, ht, rfl⟩ := hget i hik
   have hrt : r = t := by
    have a1 : ¬ t < r := fun h => hns ((h2 t ht).2 h)
    by_cases h0 : t = 0
    ·omega
    ·have a2 := (h2 (t - 1) (by omega)).1 (hd _ (hch t ht (by omega)))
     omega
   subst hrt
   refine hwrite r ht hi o ho xs w h3 (fun j hj hjk => h4 j (hdl j hj) hjk (hd j hj)) Q' (fun v w' hL hG => hQ v w' ?_)
   refine ⟨r + 1, ht, fun t' ht' => ?_, hG, fun i' hi' hk' hs' => ?_, hcl⟩
   ·by_cases e : t' = r
    ·subst e; exact ⟨fun _ => by omega, fun _ => .inl rfl⟩
    ·have ne : ks.getD t' 0 ≠ ks.getD r 0 := fun h => e (hnd _ _ ht' ht h)
     constructor
     ·rintro (h | h)
      ·exact absurd h ne
      ·have := (h2 t' ht').1 h; omega
     ·intro h; exact .inr ((h2 t' ht').2 (by omega))
   ·have ne : i' ≠ ks.getD r 0 := fun h => hk' (h ▸ hin r ht)
    rcases hs' with h | h
    ·exact absurd h ne
    ·rw [updAt_ne _ _ ne]
     exact hL i' _ (h4 i' hi' hk' h)
  ·refine hread i hi hik o ho r xs w h1 h3 (fun j hj hjk => h4 j (hdl j hj) hjk (hd j hj)) (fun t ht hj => (h2 t ht).1 (hd _ hj)) (fun t ht hj => hns (h5 _ (hkn t (by omega)) ((h2 t (by omega)).2 ht) i hj)) Q' (fun v w' hx hL => hQ v w' ?_)
   refine ⟨r, h1, fun t ht => ?_, hGx r xs i v w' hik (hGe r xs w w' h3 hx), fun i' hi' hk' hs' => ?_, hcl⟩
   ·have ne : ks.getD t 0 ≠ i := fun h => hik (h ▸ hin t ht)
    constructor
    ·rintro (h | h)
     ·exact absurd h ne
     ·exact (h2 t ht).1 h
    ·intro h; exact .inr ((h2 t ht).2 h)
   ·by_cases e : i' = i
    ·subst e; rw [updAt_self]; exact hL
    ·rw [updAt_ne _ _ e]
     rcases hs' with h | h
     ·exact absurd h e
     ·exact hLe i' r _ _ _ (h4 i' hi' hk' h) hx
 ·rintro S xs w ⟨r, h1, h2, h3, h4, _⟩ hall
  have hr : r = ks.length := by
   by_cases h0 : ks.length = 0
   ·omega
   ·have := (h2 (ks.length - 1) (by omega)).1 (hall _ (hkn _ (by omega)))
    omega
  subst hr
  exact hend hkn xs w h3 (fun i hi hk => h4 i hi hk (hall i hi))
end
end Go.Proofs.YtpfhmcdcmepfdaaGreatDoor

namespace Go.Proofs.YtpfhmcdcmepfdaaGreatDoor
open Go.RowKit Go.Shelf
open Go.Proofs
structure SoftR where
 S : Nat → Value → World → Prop
 on : ∀ r v w w', S r v w → Ext w w' → S r v w'
def SoftR.eq (v : Value) : SoftR := ⟨fun _ u _ => u = v, fun _ _ _ _ h _ => h⟩
def SoftR.any : SoftR := ⟨fun _ _ _ => True, fun _ _ _ _ _ _ => trivial⟩
def SoftR.rd (ls : List ByteArray) : SoftR := ⟨fun r v w => r = 0 → (readS ls).S v w, fun _ _ _ _ h hx h0 => (readS ls).on _ _ _ (h h0) hx⟩
def SoftR.fr (B : Nat) (T : ByteArray) : SoftR := ⟨fun r v w => r ≤ 1 → ∃ b, v = .slice (some ⟨b, 0, none⟩) 1 1 ∧ B ≤ b ∧ b < w.heap.size ∧ w.cell? ⟨b, 0, none⟩ = some (.string T), fun _ _ _ _ h hx h1 => by
 obtain ⟨b, e, h2, h3, h4⟩ := h h1
 exact ⟨b, e, h2, Nat.lt_of_lt_of_le h3 hx.size, (hx.cell (p := ⟨b, 0, none⟩) h3).trans h4⟩⟩
def softRs (L : List SoftR) (i : Nat) : SoftR := L.getD i SoftR.any
theorem softRs_step {t : Nat} {w w' : World} (L : List SoftR) (h : ∀ s, s ∈ L → ∀ u, s.S t u w → s.S (t + 1) u w') (i : Nat) (u : Value) (hs : (softRs L i).S t u w) : (softRs L i).S (t + 1) u w' := by
 unfold softRs at *
 rw [List.getD_eq_getElem?_getD] at *
 cases hi : L[i]? with
 | none => rw [hi] at hs; simp only [Option.getD_none] at *; exact trivial
 | some s =>
  rw [hi] at hs
  simp only [Option.getD_some] at *
  exact h s (List.mem_of_getElem? hi) u hs
theorem fr_step {B : Nat} {T : ByteArray} {t : Nat} {w w' : World} {row : Option Nat} (hg : w.grownBy w' row) (hr : ∀ k, row = some k → k < B) (u : Value) (h : (SoftR.fr B T).S t u w) : (SoftR.fr B T).S (t + 1) u w' := by
 intro h1
 obtain ⟨b, e, h2, h3, h4⟩ := h (by omega)
 refine ⟨b, e, h2, Nat.lt_of_lt_of_le h3 hg.size, ?_⟩
 rw [World.cell?_of_block (w := w) (w' := w') (hg.block b h3 (fun h => by have := hr b h.symm; omega))]
 exact h4
theorem RowAt.grown {w w' : World} {b : Nat} {cs : Array Value} {row : Option Nat} (h : RowAt w b cs) (hg : w.grownBy w' row) (hn : row ≠ some b) : RowAt w' b cs := by
 obtain ⟨t, k⟩ := h
 exact ⟨t, (hg.block b (Array.getElem?_eq_some_iff.1 k).1 (fun e => hn e.symm)).trans k⟩
theorem owns_not_row {base : Nat} {w : World} {A : Option Addr} {c n g : Nat} {l : List ByteArray} {cs : Array Value} {v : Value} (h : OwnsStr base w A c l) (h0 : l ≠ []) (hr : RowAt w g cs) (hc : cs[0]? = some v) (hv : ∀ s, v ≠ .string s) : (Value.slice A n c).ownBlock ≠ some g := by
 rcases h.cases with ⟨rfl, _⟩ | ⟨k, cur, rfl, _, h3, _, _, _, h7⟩
 ·intro e; cases e
 ·intro e
  have e' : k = g := by
   simp only [Value.ownBlock, Option.some.injEq] at e
   exact e
  subst e'
  obtain ⟨t, h4⟩ := hr
  rw [h3] at h4
  injection h4 with h4
  injection h4 with h4 h5 h6
  subst h4
  cases l with
  | nil => exact h0 rfl
  | cons s t =>
   have h8 := congrArg (fun (x : List Value) => x[0]?) h7
   simp only [List.flatMap_cons, encStr, List.singleton_append, List.length_cons, Nat.mul_one, List.getElem?_take, List.getElem?_cons_zero] at h8
   rw [if_pos (by omega)] at h8
   rw [← Array.getElem?_toList, h8] at hc
   injection hc with hc
   exact hv s hc.symm
def AppG (W1 : World) (g : Nat) (rec : Array Value) (A2 : Option Addr) (c2 : Nat) (out p1 : List ByteArray) (T : ByteArray) (Z : Nat) (r : Nat) (xs : Nat → Value) (w : World) : Prop :=
 Ext W1 w ∧ RowAt w g rec ∧ Z ≤ w.heap.size ∧ (r = 0 → OwnsStr W1.heap.size w A2 c2 out) ∧ (r = 1 → ∃ A c l, xs 4 = .slice A l.length c ∧ Hid (l = out ++ p1) ∧ OwnsStr W1.heap.size w A c l) ∧ (2 ≤ r → ∃ A c l, xs 10 = .slice A l.length c ∧ Hid (l = out ++ p1 ++ [T]) ∧ OwnsStr W1.heap.size w A c l) ∧ (r = 3 → xs 11 = xs 10) ∧ (r ≤ 2 → xs 11 = .slice A2 out.length c2)
theorem appG_x {W1 : World} {g : Nat} {rec : Array Value} {A2 : Option Addr} {c2 : Nat} {out p1 : List ByteArray} {T : ByteArray} {Z : Nat} (r : Nat) (xs : Nat → Value) (i : Nat) (v : Value) (w : World) (hi : i ∉ [4, 10, 11]) (h : AppG W1 g rec A2 c2 out p1 T Z r xs w) : AppG W1 g rec A2 c2 out p1 T Z r (updAt xs i v) w := by
 have n4 : 4 ≠ i := fun h => hi (by simp [← h])
 have n10 : 10 ≠ i := fun h => hi (by simp [← h])
 have n11 : 11 ≠ i := fun h => hi (by simp [← h])
 obtain ⟨a, b, z, c, d, e, f, h⟩ := h
 exact ⟨a, b, z, c, by rw [updAt_ne _ _ n4]; exact d, by rw [updAt_ne _ _ n10]; exact e, by rw [updAt_ne _ _ n11, updAt_ne _ _ n10]; exact f, by rw [updAt_ne _ _ n11]; exact h⟩
theorem appG_e {W1 : World} {g : Nat} {rec : Array Value} {A2 : Option Addr} {c2 : Nat} {out p1 : List ByteArray} {T : ByteArray} {Z : Nat} (r : Nat) (xs : Nat → Value) (w w' : World) (h : AppG W1 g rec A2 c2 out p1 T Z r xs w) (hx : Ext w w') : AppG W1 g rec A2 c2 out p1 T Z r xs w' := by
 obtain ⟨a, b, z, c, d, e, f⟩ := h
 exact ⟨a.trans hx, b.ext hx, Nat.le_trans z hx.size, fun h => (c h).ext hx, fun h => by obtain ⟨A, cc, l, h1, h2, h3⟩ := d h; exact ⟨A, cc, l, h1, h2, h3.ext hx⟩, fun h => by obtain ⟨A, cc, l, h1, h2, h3⟩ := e h; exact ⟨A, cc, l, h1, h2, h3.ext hx⟩, f⟩
theorem own_lt {A : Option Addr} {n c B : Nat} (h : ∀ a, A = some a → a.block < B) : ∀ k, (Value.slice A n c).ownBlock = some k → k < B := by
 intro k hk
 cases A with
 | none => cases hk
 | some a =>
  simp only [Value.ownBlock, Option.some.injEq] at hk
  subst hk
  exact h a rfl
theorem whole_any (s : Rp) (w : World) (hok : RpOk s) (hl : s.lines.length ≤ 100000) (ha : Reads 59 lnL w w.heap.size s.LA s.lines) :
  Calls Tryz.prog 76 #[.agg (rpC s)] w fun e w' => ∃ A c, e = .returned (.slice A (rpParts s).length c) ∧ ReadsStr w' w'.heap.size A (rpParts s) ∧ (A = none → c = 0) ∧ Ext w w' := by
 have HI0 := lh (fun (A : Option Addr) (c : Nat) (W : World) (hr : ReadsInt W W.heap.size A [s.epoch, s.lo, s.hi, s.serial, (s.lines.length : Int)]) => wints_ok A c [s.epoch, s.lo, s.hi, s.serial, (s.lines.length : Int)] W (by show 5 ≤ 100000; decide) hr (fun x hx => by
  have h1 := hok.ints x
  simp only [List.mem_cons, List.not_mem_nil, or_false] at hx h1
  rcases hx with rfl | rfl | rfl | rfl | rfl
  ·exact h1 (.inl rfl)
  ·exact h1 (.inr (.inl rfl))
  ·exact h1 (.inr (.inr (.inl rfl)))
  ·exact h1 (.inr (.inr (.inr rfl)))
  ·unfold i64; omega))
 have HIp := lh (fun (k : Nat) (h : k < s.lines.length) (A : Option Addr) (c : Nat) (W : World) (hr : ReadsInt W W.heap.size A [s.lines[k].site, s.lines[k].kind]) => wints_ok A c [s.lines[k].site, s.lines[k].kind] W (by show 2 ≤ 100000; decide) hr (hok.lines _ (List.getElem_mem h)).ints)
 have HLn := lh hok.lines
 have H16 := lh hok.name.len
 have HAr := lh ha
 have HE : Hid (rpParts s = [strOfNums (encInts [s.epoch, s.lo, s.hi, s.serial, (s.lines.length : Int)]), strOfNums s.name] ++ s.lines.flatMap lnParts) := lh rfl
 have hft := rp_fits s
 clear hok ha
 go_enter Tryz.func76, Tryz.ntmps76
 go_wp2
 refine wp_world (fun W => Ext w W ∧ RowAt W w.heap.size (rpC s) ∧ W.heap.size = w.heap.size + 1) ⟨(by (with_reducible repeat first|exact eR _|apply eD|apply eN|apply eA|apply eO|apply eS|apply eC);all_goals first|omega|simp <;> omega), RowAt.new _ _ _, by simp⟩ ?_
 obtain ⟨B, hB⟩ : ∃ B, w.heap.size = B := ⟨_, rfl⟩
 rw [hB]
 rintro W1 ⟨x1, uB, hs1⟩
 have HX1 := lh x1
 have hlu := uB.lt
 have qB_0 : W1.cell? ⟨B, 0, none⟩ = some (.int .i64 s.epoch) := (uB.cell 0).trans (rp_g0 s)
 have qB_17 : W1.cell? ⟨B, 17, none⟩ = some (.int .i64 s.lo) := (uB.cell 17).trans (rp_g17 s)
 have qB_18 : W1.cell? ⟨B, 18, none⟩ = some (.int .i64 s.hi) := (uB.cell 18).trans (rp_g18 s)
 have qB_20 : W1.cell? ⟨B, 20, none⟩ = some (.int .i64 s.serial) := (uB.cell 20).trans (rp_g20 s)
 have qB_19 : W1.cell? ⟨B, 19, none⟩ = some (.slice s.LA s.lines.length s.lc) := (uB.cell 19).trans (rp_g19 s)
 have HQ19 := lh qB_19
 have rdB_1 := lh (arr_reads ((uB.row 1 16).trans (by rw [if_neg (by omega), rp_s1_16])) H16.out hlu)
 clear x1 uB
 generalize s.LA = LA at *
 refine wp_region_soft 19 (softsL [.eq (.pointer (some ⟨B, 0, none⟩)), .eq (.int .i64 s.epoch), .eq (.pointer (some ⟨B, 17, none⟩)), .eq (.pointer (some ⟨B, 17, none⟩)), .eq (.int .i64 s.lo), .eq (.pointer (some ⟨B, 17, none⟩)), .eq (.pointer (some ⟨B, 18, none⟩)), .eq (.int .i64 s.hi), .eq (.pointer (some ⟨B, 20, none⟩)), .eq (.int .i64 s.serial), .eq (.pointer (some ⟨B, 19, none⟩)), .eq (.slice LA s.lines.length s.lc), .eq (.int .i64 s.lines.length), readI ([s.epoch, s.lo, s.hi, s.serial, (s.lines.length : Int)]), readBy (encInts [s.epoch, s.lo, s.hi, s.serial, (s.lines.length : Int)]), .eq (.string (strOfNums (encInts [s.epoch, s.lo, s.hi, s.serial, (s.lines.length : Int)]))), .eq (.pointer (some ⟨B, 1, none⟩)), .eq (.slice (some ⟨B, 1, none⟩) 16 16), .eq (.string (strOfNums s.name))]) (by kernel_rfl) (by kernel_rfl) (lt_cons ?_ (lt_cons ?_ (lt_cons ?_ (lt_cons ?_ (lt_cons ?_ (lt_cons ?_ (lt_cons ?_ (lt_cons ?_ (lt_cons ?_ (lt_cons ?_ (lt_cons ?_ (lt_cons ?_ (lt_cons ?_ (lt_cons ?_ (lt_cons ?_ (lt_cons ?_ (lt_cons ?_ (lt_cons ?_ (lt_cons ?_ (lt_none)))))))))))))))))))) ?_
 any_goals (refine sop rfl fun xs W HW hsW HD Q' HQ => ?_; simp only [fillAt, dstOf, lc0, lcs, obs, Act.put, lsa, lsz, lss, nz, Nat.reduceAdd] at HQ ⊢)
 ·
  go_wp2
  exact HQ.out _ _ (eR _) rfl
 ·
  have hd0 : xs 0 = .pointer (some ⟨B, 0, none⟩) := (HD.out 0 (dk (by kernel_rfl)))
  generalize xs 0 = x0 at hd0 HQ ⊢; subst hd0
  have hc : W.cell? ⟨B, 0, none⟩ = some (.int .i64 s.epoch) := (HW.out.cell (p := ⟨B, 0, none⟩) (by show B < _; omega)).trans qB_0
  go_wp2
  exact HQ.out _ _ (eR _) rfl
 ·
  go_wp2
  exact HQ.out _ _ (eR _) rfl
 ·
  have hd2 : xs 2 = .pointer (some ⟨B, 17, none⟩) := (HD.out 2 (dk (by kernel_rfl)))
  generalize xs 2 = x2 at hd2 HQ ⊢; subst hd2
  go_wp2
  exact HQ.out _ _ (eR _) rfl
 ·
  have hd3 : xs 3 = .pointer (some ⟨B, 17, none⟩) := (HD.out 3 (dk (by kernel_rfl)))
  generalize xs 3 = x3 at hd3 HQ ⊢; subst hd3
  have hc : W.cell? ⟨B, 17, none⟩ = some (.int .i64 s.lo) := (HW.out.cell (p := ⟨B, 17, none⟩) (by show B < _; omega)).trans qB_17
  go_wp2
  exact HQ.out _ _ (eR _) rfl
 ·
  go_wp2
  exact HQ.out _ _ (eR _) rfl
 ·
  have hd5 : xs 5 = .pointer (some ⟨B, 17, none⟩) := (HD.out 5 (dk (by kernel_rfl)))
  generalize xs 5 = x5 at hd5 HQ ⊢; subst hd5
  go_wp2
  exact HQ.out _ _ (eR _) rfl
 ·
  have hd6 : xs 6 = .pointer (some ⟨B, 18, none⟩) := (HD.out 6 (dk (by kernel_rfl)))
  generalize xs 6 = x6 at hd6 HQ ⊢; subst hd6
  have hc : W.cell? ⟨B, 18, none⟩ = some (.int .i64 s.hi) := (HW.out.cell (p := ⟨B, 18, none⟩) (by show B < _; omega)).trans qB_18
  go_wp2
  exact HQ.out _ _ (eR _) rfl
 ·
  go_wp2
  exact HQ.out _ _ (eR _) rfl
 ·
  have hd8 : xs 8 = .pointer (some ⟨B, 20, none⟩) := (HD.out 8 (dk (by kernel_rfl)))
  generalize xs 8 = x8 at hd8 HQ ⊢; subst hd8
  have hc : W.cell? ⟨B, 20, none⟩ = some (.int .i64 s.serial) := (HW.out.cell (p := ⟨B, 20, none⟩) (by show B < _; omega)).trans qB_20
  go_wp2
  exact HQ.out _ _ (eR _) rfl
 ·
  go_wp2
  exact HQ.out _ _ (eR _) rfl
 ·
  have hd10 : xs 10 = .pointer (some ⟨B, 19, none⟩) := (HD.out 10 (dk (by kernel_rfl)))
  generalize xs 10 = x10 at hd10 HQ ⊢; subst hd10
  have hc : W.cell? ⟨B, 19, none⟩ = some (.slice LA s.lines.length s.lc) := (HW.out.cell (p := ⟨B, 19, none⟩) (by show B < _; omega)).trans qB_19
  go_wp2
  exact HQ.out _ _ (eR _) rfl
 ·
  have hd11 : xs 11 = .slice LA s.lines.length s.lc := (HD.out 11 (dk (by kernel_rfl)))
  generalize xs 11 = x11 at hd11 HQ ⊢; subst hd11
  go_wp2
  exact HQ.out _ _ (eR _) rfl
 ·
  have hd1 : xs 1 = .int .i64 s.epoch := (HD.out 1 (dk (by kernel_rfl)))
  generalize xs 1 = x1 at hd1 HQ ⊢; subst hd1
  have hd4 : xs 4 = .int .i64 s.lo := (HD.out 4 (dk (by kernel_rfl)))
  generalize xs 4 = x4 at hd4 HQ ⊢; subst hd4
  have hd7 : xs 7 = .int .i64 s.hi := (HD.out 7 (dk (by kernel_rfl)))
  generalize xs 7 = x7 at hd7 HQ ⊢; subst hd7
  have hd9 : xs 9 = .int .i64 s.serial := (HD.out 9 (dk (by kernel_rfl)))
  generalize xs 9 = x9 at hd9 HQ ⊢; subst hd9
  have hd12 : xs 12 = .int .i64 s.lines.length := (HD.out 12 (dk (by kernel_rfl)))
  generalize xs 12 = x12 at hd12 HQ ⊢; subst hd12
  go_wp2
  exact HQ.out _ _ ((eR _).alloc _) ⟨_, _, rfl, reads_fresh zE ([s.epoch, s.lo, s.hi, s.serial, (s.lines.length : Int)]) W _ _ rfl⟩
 ·
  obtain ⟨A13, c13, h13, hr13⟩ : (readI ([s.epoch, s.lo, s.hi, s.serial, (s.lines.length : Int)])).S (xs 13) W := (HD.out 13 (dk (by kernel_rfl)))
  generalize xs 13 = x13 at h13 HQ ⊢; subst h13
  go_wp2_with (go_at_call 119; refine (HI0.out A13 c13 _ hr13).mono ?_; rintro e w1 ⟨A, c, rfl, ho, hx⟩)
  exact HQ.out _ _ hx ⟨A, c, rfl, ho.reads bE⟩
 ·
  obtain ⟨A14, c14, h14, hr14⟩ : (readBy (encInts [s.epoch, s.lo, s.hi, s.serial, (s.lines.length : Int)])).S (xs 14) W := (HD.out 14 (dk (by kernel_rfl)))
  generalize xs 14 = x14 at h14 HQ ⊢; subst h14
  have hcv := conv_bytes c14 hr14 (encInts_pos _)
  go_wp2
  exact HQ.out _ _ (eR _) rfl
 ·
  go_wp2
  exact HQ.out _ _ (eR _) rfl
 ·
  have hd16 : xs 16 = .pointer (some ⟨B, 1, none⟩) := (HD.out 16 (dk (by kernel_rfl)))
  generalize xs 16 = x16 at hd16 HQ ⊢; subst hd16
  go_wp2
  exact HQ.out _ _ (eR _) rfl
 ·
  have hd17 : xs 17 = .slice (some ⟨B, 1, none⟩) 16 16 := (HD.out 17 (dk (by kernel_rfl)))
  generalize xs 17 = x17 at hd17 HQ ⊢; subst hd17
  have hcv := conv_bytes 16 (rdB_1.out.on HW.out) (by rw [H16.out]; omega)
  rw [H16.out] at hcv
  go_wp2
  exact HQ.out _ _ (eR _) rfl
 intro xs W3 hW hS
 have h15 : xs 15 = .string (strOfNums (encInts [s.epoch, s.lo, s.hi, s.serial, (s.lines.length : Int)])) := hS 15 (by omega)
 have h18 : xs 18 = .string (strOfNums s.name) := hS 18 (by omega)
 simp only [fillAt, dstOf, lc0, lcs, obs, Act.put, lsa, lsz, lss, nz, Nat.reduceAdd, List.drop_succ_cons, List.drop_zero, List.drop_nil]
 generalize xs 15 = x15 at *; subst h15
 generalize xs 18 = x18 at *; subst h18
 have HW3 := lh (HX1.out.trans hW)
 have HWW3 := lh hW
 clear hS hW qB_0 qB_17 qB_18 qB_20 qB_19
 have hls3 := HWW3.out.size
 generalize strOfNums (encInts [s.epoch, s.lo, s.hi, s.serial, (s.lines.length : Int)]) = T0 at *
 generalize strOfNums s.name = T1 at *
 go_upto_region 2 with (fail)
 refine wp_world (fun W => Ext W1 W ∧ OwnsStr W1.heap.size W (some ⟨W3.heap.size, 0, none⟩) 2 [T0, T1]) ⟨HWW3.out.alloc _, owns_fresh (e := 9) sE [T0, T1] W3 _ _ _ rfl hls3 rfl (by simp)⟩ ?_
 generalize W3.heap.size = g3
 rintro W4 ⟨x4, o4⟩
 have HX4 := lh x4
 have HO4 := lh o4
 have hs4 := x4.size
 have qB_19 : W4.cell? ⟨B, 19, none⟩ = some (.slice LA s.lines.length s.lc) := (x4.cell (p := ⟨B, 19, none⟩) hlu).trans HQ19.out
 clear x4 o4 HI0 rdB_1 HW3 HWW3
 go_wp2
 go_loopw [3, 29] (fun o i wr => ∃ (A2 : Option Addr) (c2 : Nat) (out : List ByteArray) (k : Nat), o = .slice A2 out.length c2 ∧ i = .int .i64 k ∧ k ≤ s.lines.length ∧ out.length ≤ 2 + 6 * k ∧ 2 ≤ out.length ∧ Hid (out = [T0, T1] ++ (s.lines.take k).flatMap lnParts) ∧ Hid (OwnsStr W1.heap.size wr A2 c2 out) ∧ Hid (Ext W1 wr)) (fun _ i _ => s.lines.length - (intOf i).toNat)
 case atStart => exact ⟨_, 2, [T0, T1], 0, rfl, rfl, Nat.zero_le _, Nat.le_refl _, Nat.le_refl _, lh (by simp), HO4, HX4⟩
 case round =>
  obtain ⟨A1, c1, ou1, k, rfl, rfl, hk, hol, hol2, HOu, HOw1, HX⟩ := hrel
  have hsz := HX.out.size
  by_cases hlt : k < s.lines.length
  ·obtain ⟨b, off, rfl, hb, hrow⟩ := reads_row lnE (HAr.out.ext (HX1.out.trans HX.out) (Nat.le_refl _)) k hlt
   have hb2 : b < wr.heap.size := by omega
   have HI1 := lh (HIp.out k hlt)
   have HN := lh (flat_snoc lnParts s.lines k hlt)
   have hxo := HLn.out _ (List.getElem_mem hlt)
   change rowOf wr b (off + k * 59) 59 = some (lnC s.lines[k]) at hrow
   have hfx := ln_fits s.lines[k]
   clear HIp
   generalize s.lines[k] = x at *
   have HCf := lh (fun W => cparts_any x.cf W hxo.cf)
   have HLe := lh (fun W => lparts_any x.le W hxo.le.ints)
   have HcN := lh hxo.cf.sl.len
   have HlN := lh hxo.le.sl.len
   have HPP : Hid (lnParts x = [strOfNums (encInts [x.site, x.kind])] ++ cfParts x.cf ++ [strOfNums x.cf.sl] ++ leParts x.le ++ [strOfNums x.le.sl]) := lh rfl
   have hfcf := cf_fits x.cf
   have hfle := le_fits x.le
   clear hxo
   go_upto_region 5 with (fail)
   refine wp_world (fun W => Ext wr W ∧ RowAt W wr.heap.size (lnC x)) ⟨(by (with_reducible repeat first|exact eR _|apply eD|apply eN|apply eA|apply eO|apply eS|apply eC);all_goals first|omega|simp <;> omega), (RowAt.newAt (by simp)).store rfl⟩ ?_
   generalize hg : wr.heap.size = g
   rintro W5 ⟨x5, ug⟩
   have HX5 := lh x5
   have HUg5 := lh ug
   have hl5 := ug.lt
   have hs5 := x5.size
   have qg_0 : W5.cell? ⟨g, 0, none⟩ = some (.int .i64 x.site) := (ug.cell 0).trans (ln_g0 x)
   have qg_1 : W5.cell? ⟨g, 1, none⟩ = some (.int .i64 x.kind) := (ug.cell 1).trans (ln_g1 x)
   clear ug x5 hrow
   have HIn : Hid (∀ (b : Nat) (W : World) (t : TypeId), b = W.heap.size → Calls Tryz.prog 119 #[.slice (some ⟨b, 0, none⟩) 2 2] (W.alloc (.cells #[.int .i64 x.site, .int .i64 x.kind] t)) (BytesIs (encInts [x.site, x.kind]) (W.alloc (.cells #[.int .i64 x.site, .int .i64 x.kind] t)))) := lh (fun b W t hb => by
    subst hb
    exact HI1.out _ 2 _ (reads_fresh zE [x.site, x.kind] W _ t rfl))
   clear HI1
   go_upto_region 6 with (first
    | (go_at_call 119; refine (HIn.out _ _ _ rfl).mono ?_; rintro e w1 ⟨Ab, cb, rfl, ho, hx⟩; have hcv := conv_bytes cb (ho.reads bE) (encInts_pos _); have HXb : Hid (Ext wr w1) := lh ((HX5.out.alloc _).trans hx); have HRb := lh ((HUg5.out.alloc _).ext hx); have hsb := HXb.out.size; clear ho hx)
    | (at_builtin; refine app_from strT sE rfl _ _ rfl W1.heap.size _ _ ou1 rfl (HOw1.out.ext (HXb.out.alloc _)) _ 1 _ [strOfNums (encInts [x.site, x.kind])] rfl rfl (new_cellsAt rfl _ _) (by omega) (by omega) (by first | omega | (simp; omega)) ?_; intro A2 c2 out w7 HL2 HO7 hB7 hl1 hl2 hg7))
   refine wp_world (fun W => Ext W1 W ∧ RowAt W g (lnC x) ∧ OwnsStr W1.heap.size W A2 c2 out) ⟨(HX.out.trans (HXb.out.alloc _)).grown hB7 (Nat.le_refl _), RowAt.grown (HRb.out.alloc _) hg7 (owns_not_row (HOw1.out.ext HXb.out) (by intro e; rw [e] at hol2; simp at hol2) HRb.out (ln_g0 x) (fun s h => by cases h)), HO7⟩ ?_
   have hol3 : out.length ≤ ou1.length + 1 := by omega
   have hol4 : ou1.length + 1 ≤ out.length := by omega
   clear hB7 hg7 HXb HRb HO7 HX5 HUg5 hl1 hl2 hcv HIn qg_0 qg_1
   rintro W6 ⟨x6, u6, o6⟩
   have HXr := lh x6
   have HRg := lh u6
   have HOw := lh o6
   have HA2 := lh (fun a h => (o6.lt a h).2)
   have HNe : Hid (out ≠ []) := lh (by intro e; rw [e] at hol4; simp at hol4)
   have HP1 : Hid ((cfParts x.cf).length = 2) := lh rfl
   have hlg6 := u6.lt
   have hs6 := x6.size
   clear x6 u6 o6
   refine wp_region_steps 12 (by kernel_rfl) [4, 10, 11] (AppG W1 g (lnC x) A2 c2 out (cfParts x.cf) (strOfNums x.cf.sl) W6.heap.size) (fun i => (softRs [.eq (.slice A2 out.length c2), .eq (.pointer (some ⟨g, 2, none⟩)), .eq (.agg (cfC x.cf)), .rd (cfParts x.cf), .any, .eq (.pointer (some ⟨g, 2, none⟩)), .eq (.pointer (some ⟨g, 23, none⟩)), .eq (.slice (some ⟨g, 23, none⟩) 16 16), .eq (.string (strOfNums x.cf.sl)), .fr W6.heap.size (strOfNums x.cf.sl), .any, .any] i).S) (by kernel_rfl) (by kernel_rfl) (by kernel_rfl) (by kernel_rfl) ?_ appG_x appG_e (fun i => (softRs _ i).on) (lt_cons ?_ (lt_cons ?_ (lt_cons ?_ (lt_cons ?_ (lt_cons ?_ (lt_cons ?_ (lt_cons ?_ (lt_cons ?_ (lt_cons ?_ (lt_cons ?_ (lt_cons ?_ (lt_cons ?_ lt_none)))))))))))) (lt_cons ?_ (lt_cons ?_ (lt_cons ?_ lt_none))) ?_ (by decide)
   ·exact ⟨HXr.out.drew, HRg.out.drew, Nat.le_refl _, fun _ => HOw.out.drew, fun h => absurd h (by decide), fun h => absurd h (by decide), fun h => absurd h (by decide), fun _ => rfl⟩
   ·
    intro hni o ho r xs W hr hG hd hk hbf Q' hQ; obtain rfl := Option.some.inj ho; clear ho hk hni; simp only [fillAt, dstOf, lc0, lcs, obs, Act.put, lsa, lsz, lss, nz, Nat.reduceAdd] at hQ ⊢; have HQ := lh hQ; have HD := lh hd; have HG := lh hG; clear hQ hd hG
    have hr2 : r ≤ 2 := by
     rcases Nat.lt_or_ge 2 r with h | h
     ·exact (hbf 0 (by omega) (dk (by kernel_rfl))).elim
     ·exact h
    have h11 : xs 11 = .slice A2 out.length c2 := HG.out.2.2.2.2.2.2.2 hr2
    generalize xs 11 = x11 at h11 HQ ⊢; subst h11
    go_wp2
    exact HQ.out _ _ (eR _) rfl
   ·
    intro hni o ho r xs W hr hG hd hk hbf Q' hQ; obtain rfl := Option.some.inj ho; clear ho hk hni; simp only [fillAt, dstOf, lc0, lcs, obs, Act.put, lsa, lsz, lss, nz, Nat.reduceAdd] at hQ ⊢; have HQ := lh hQ; have HD := lh hd; have HG := lh hG; clear hQ hd hG
    go_wp2
    exact HQ.out _ _ (eR _) rfl
   ·
    intro hni o ho r xs W hr hG hd hk hbf Q' hQ; obtain rfl := Option.some.inj ho; clear ho hk hni; simp only [fillAt, dstOf, lc0, lcs, obs, Act.put, lsa, lsz, lss, nz, Nat.reduceAdd] at hQ ⊢; have HQ := lh hQ; have HD := lh hd; have HG := lh hG; clear hQ hd hG
    have hd1 : xs 1 = .pointer (some ⟨g, 2, none⟩) := (HD.out 1 (dk (by kernel_rfl)) (by decide))
    generalize xs 1 = x1 at hd1 HQ ⊢; subst hd1
    have uG := HG.out.2.1
    have hc : rowOf W g 2 37 = some (cfC x.cf) := by rw [uG.row, if_neg (by omega), ln_s2_37]
    have hlG := uG.lt
    clear uG
    go_wp2
    exact HQ.out _ _ (eR _) rfl
   ·
    intro hni o ho r xs W hr hG hd hk hbf Q' hQ; obtain rfl := Option.some.inj ho; clear ho hk hni; simp only [fillAt, dstOf, lc0, lcs, obs, Act.put, lsa, lsz, lss, nz, Nat.reduceAdd] at hQ ⊢; have HQ := lh hQ; have HD := lh hd; have HG := lh hG; clear hQ hd hG
    have hd2 : xs 2 = .agg (cfC x.cf) := (HD.out 2 (dk (by kernel_rfl)) (by decide))
    generalize xs 2 = x2 at hd2 HQ ⊢; subst hd2
    go_wp2_with (go_at_call 60; refine (HCf.out _).mono ?_; rintro e w1 ⟨A, c, rfl, h1, h2, hx⟩)
    exact HQ.out _ _ hx (fun _ => ⟨A, c, rfl, h1, h2⟩)
   ·exact fun h => absurd (by decide) h
   ·
    intro hni o ho r xs W hr hG hd hk hbf Q' hQ; obtain rfl := Option.some.inj ho; clear ho hk hni; simp only [fillAt, dstOf, lc0, lcs, obs, Act.put, lsa, lsz, lss, nz, Nat.reduceAdd] at hQ ⊢; have HQ := lh hQ; have HD := lh hd; have HG := lh hG; clear hQ hd hG
    go_wp2
    exact HQ.out _ _ (eR _) rfl
   ·
    intro hni o ho r xs W hr hG hd hk hbf Q' hQ; obtain rfl := Option.some.inj ho; clear ho hk hni; simp only [fillAt, dstOf, lc0, lcs, obs, Act.put, lsa, lsz, lss, nz, Nat.reduceAdd] at hQ ⊢; have HQ := lh hQ; have HD := lh hd; have HG := lh hG; clear hQ hd hG
    have hd5 : xs 5 = .pointer (some ⟨g, 2, none⟩) := (HD.out 5 (dk (by kernel_rfl)) (by decide))
    generalize xs 5 = x5 at hd5 HQ ⊢; subst hd5
    go_wp2
    exact HQ.out _ _ (eR _) rfl
   ·
    intro hni o ho r xs W hr hG hd hk hbf Q' hQ; obtain rfl := Option.some.inj ho; clear ho hk hni; simp only [fillAt, dstOf, lc0, lcs, obs, Act.put, lsa, lsz, lss, nz, Nat.reduceAdd] at hQ ⊢; have HQ := lh hQ; have HD := lh hd; have HG := lh hG; clear hQ hd hG
    have hd6 : xs 6 = .pointer (some ⟨g, 23, none⟩) := (HD.out 6 (dk (by kernel_rfl)) (by decide))
    generalize xs 6 = x6 at hd6 HQ ⊢; subst hd6
    go_wp2
    exact HQ.out _ _ (eR _) rfl
   ·
    intro hni o ho r xs W hr hG hd hk hbf Q' hQ; obtain rfl := Option.some.inj ho; clear ho hk hni; simp only [fillAt, dstOf, lc0, lcs, obs, Act.put, lsa, lsz, lss, nz, Nat.reduceAdd] at hQ ⊢; have HQ := lh hQ; have HD := lh hd; have HG := lh hG; clear hQ hd hG
    have hd7 : xs 7 = .slice (some ⟨g, 23, none⟩) 16 16 := (HD.out 7 (dk (by kernel_rfl)) (by decide))
    generalize xs 7 = x7 at hd7 HQ ⊢; subst hd7
    have uG := HG.out.2.1
    have hcv := conv_bytes 16 (arr_reads ((uG.row 23 16).trans (by rw [if_neg (by omega), ln_s23_16])) HcN.out uG.lt) (by rw [HcN.out]; omega)
    rw [HcN.out] at hcv
    clear uG
    go_wp2
    exact HQ.out _ _ (eR _) rfl
   ·
    intro hni o ho r xs W hr hG hd hk hbf Q' hQ; obtain rfl := Option.some.inj ho; clear ho hk hni; simp only [fillAt, dstOf, lc0, lcs, obs, Act.put, lsa, lsz, lss, nz, Nat.reduceAdd] at hQ ⊢; have HQ := lh hQ; have HD := lh hd; have HG := lh hG; clear hQ hd hG
    have hd8 : xs 8 = .string (strOfNums x.cf.sl) := (HD.out 8 (dk (by kernel_rfl)) (by decide))
    generalize xs 8 = x8 at hd8 HQ ⊢; subst hd8
    have hZ := HG.out.2.2.1
    go_wp2
    exact HQ.out _ _ ((eR _).alloc _) (fun _ => ⟨_, rfl, hZ, by simp, by rw [alloc_cell_if, if_pos rfl]; rfl⟩)
   ·exact fun h => absurd (by decide) h
   ·exact fun h => absurd (by decide) h
   ·
    intro hkn o ho xs W hG hd Q' hQ; obtain rfl := Option.some.inj ho; clear ho hkn; simp only [fillAt, dstOf, lc0, lcs, obs, Act.put, lsa, lsz, lss, nz, Nat.reduceAdd] at hQ ⊢; have HQ := lh hQ; have HD := lh hd; have HG := lh hG; clear hQ hd hG
    have hd0 : xs 0 = .slice A2 out.length c2 := (HD.out 0 (dk (by kernel_rfl)) (by decide))
    obtain ⟨A3, c3, h3, hr3, hz3⟩ : (readS (cfParts x.cf)).S (xs 3) W := (HD.out 3 (dk (by kernel_rfl)) (by decide)) rfl
    generalize xs 0 = x0 at hd0 HQ ⊢; subst hd0
    generalize xs 3 = x3 at h3 HQ ⊢; subst h3
    obtain ⟨xW, uG, hZ, o0, _, _, _, hv11⟩ := HG.out
    have HO0 := lh (o0 rfl)
    have HXW := lh xW
    have HUG := lh uG
    have hsW := xW.size
    have HV11 := lh (hv11 (by decide))
    have hp1l := Nat.le_of_eq HP1.out
    clear xW uG o0 HG hv11
    go_wp2_with (at_builtin; refine app_reads strT sE rfl _ _ rfl W1.heap.size _ _ out rfl HO0.out W.heap.size _ _ (cfParts x.cf) rfl hr3 hz3 (by omega) (by omega) hsW ?_; intro A7 c7 l7 w7 HL HO5 hB hl1 hl2 hg)
    exact HQ.out _ _ (softRs_step _ (by
     intro s hs u h
     simp only [List.mem_cons, List.not_mem_nil, or_false] at hs
     rcases hs with rfl | rfl | rfl | rfl | rfl | rfl | rfl | rfl | rfl | rfl | rfl | rfl
     all_goals first
      | exact h
      | exact trivial
      | exact fun h0 => absurd h0 (by decide)
      | exact fr_step hg (own_lt HA2.out) u h)) ⟨HXW.out.grown hB (Nat.le_refl _), HUG.out.grown hg (owns_not_row HO0.out HNe.out HUG.out (ln_g0 x) (fun s h => by cases h)), Nat.le_trans hZ hg.size, fun h => absurd h (by decide), fun _ => ⟨A7, c7, l7, rfl, HL, HO5⟩, fun h => absurd h (by decide), fun h => absurd h (by decide), fun _ => HV11.out⟩
   ·
    intro hkn o ho xs W hG hd Q' hQ; obtain rfl := Option.some.inj ho; clear ho hkn; simp only [fillAt, dstOf, lc0, lcs, obs, Act.put, lsa, lsz, lss, nz, Nat.reduceAdd] at hQ ⊢; have HQ := lh hQ; have HD := lh hd; have HG := lh hG; clear hQ hd hG
    obtain ⟨b9, h9, hb9, hl9, hc9⟩ : ∃ b, xs 9 = .slice (some ⟨b, 0, none⟩) 1 1 ∧ W6.heap.size ≤ b ∧ b < W.heap.size ∧ W.cell? ⟨b, 0, none⟩ = some (.string (strOfNums x.cf.sl)) := (HD.out 9 (dk (by kernel_rfl)) (by decide)) (by decide)
    obtain ⟨xW, uG, hZ, _, o1, _, _, hv11⟩ := HG.out
    obtain ⟨A4, c4, l4, h4, HL4, o4⟩ := o1 rfl
    generalize xs 4 = x4 at h4 HQ ⊢; subst h4
    generalize xs 9 = x9 at h9 HQ ⊢; subst h9
    have hl4 : l4.length ≤ out.length + (cfParts x.cf).length := Nat.le_of_eq (by rw [HL4.out, List.length_append])
    have HO0 := lh o4
    have HXW := lh xW
    have HUG := lh uG
    have hsW := xW.size
    have HV11 := lh (hv11 (by decide))
    have hp1l := Nat.le_of_eq HP1.out
    have HR9 := lh (one_reads hl9 hc9)
    clear xW uG o1 o4 HG hc9 hv11
    go_wp2_with (at_builtin; refine app_reads strT sE rfl _ _ rfl W1.heap.size _ _ l4 rfl HO0.out W.heap.size _ _ [strOfNums x.cf.sl] rfl HR9.out (fun h => by cases h) (by simp; omega) (by simp; omega) hsW ?_; intro A7 c7 l7 w7 HL HO5 hB hl1 hl2 hg)
    exact HQ.out _ _ (softRs_step _ (by
     intro s hs u h
     simp only [List.mem_cons, List.not_mem_nil, or_false] at hs
     rcases hs with rfl | rfl | rfl | rfl | rfl | rfl | rfl | rfl | rfl | rfl | rfl | rfl
     all_goals first
      | exact h
      | exact trivial
      | exact fun h0 => absurd h0 (by decide)
      | exact trivial)) ⟨HXW.out.grown hB (Nat.le_refl _), HUG.out.grown hg (owns_not_row HO0.out (fun e => HNe.out (by have h9 := HL4.out; rw [e] at h9; exact (List.append_eq_nil_iff.1 h9.symm).1)) HUG.out (ln_g0 x) (fun s h => by cases h)), Nat.le_trans hZ hg.size, fun h => absurd h (by decide), fun h => absurd h (by decide), fun _ => ⟨A7, c7, l7, rfl, lh (by rw [HL.out, HL4.out]), HO5⟩, fun h => absurd h (by decide), fun _ => HV11.out⟩
   ·
    intro hkn o ho xs W hG hd Q' hQ; obtain rfl := Option.some.inj ho; clear ho hkn; simp only [fillAt, dstOf, lc0, lcs, obs, Act.put, lsa, lsz, lss, nz, Nat.reduceAdd] at hQ ⊢; have HQ := lh hQ; have HD := lh hd; have HG := lh hG; clear hQ hd hG
    go_wp2
    exact HQ.out _ _ (softRs_step _ (by
     intro s hs u h
     simp only [List.mem_cons, List.not_mem_nil, or_false] at hs
     rcases hs with rfl | rfl | rfl | rfl | rfl | rfl | rfl | rfl | rfl | rfl | rfl | rfl
     all_goals first
      | exact h
      | exact trivial
      | exact fun h0 => absurd h0 (by decide)
      | exact trivial)) (by
     obtain ⟨a, b, z, _, _, e, _, _⟩ := HG.out
     exact ⟨a, b, z, fun h => absurd h (by decide), fun h => absurd h (by decide), fun _ => e (by decide), fun _ => rfl, fun h => absurd h (by decide)⟩)
   intro _ xs W7 hG _
   obtain ⟨xW, uG, _, _, _, o2, o3, _⟩ := hG
   obtain ⟨A5, c5, l5, h5, HLl5, ho5⟩ := o2 (by decide)
   have h11 := (o3 rfl).trans h5
   simp only [fillAt, dstOf, lc0, lcs, obs, Act.put, lsa, lsz, lss, nz, Nat.reduceAdd]
   generalize xs 11 = x11 at *
   subst h11
   have HXq := lh xW
   have HRq := lh uG
   have HOq := lh ho5
   have HLnl5 : Hid (l5.length = out.length + (cfParts x.cf).length + 1) := lh (by rw [HLl5.out, List.length_append, List.length_append]; rfl)
   clear xW uG o2 o3 ho5 h5
   go_upto_region 7 with (fail)
   refine wp_world (fun W => Ext W1 W ∧ RowAt W g (lnC x) ∧ OwnsStr W1.heap.size W A5 c5 l5) ⟨HXq.out, HRq.out, HOq.out⟩ ?_
   have hol5 : l5.length ≤ out.length + 3 := by have h1 := HLnl5.out; have h2 := HP1.out; omega
   have hol6 : out.length + 3 ≤ l5.length := by have h1 := HLnl5.out; have h2 := HP1.out; omega
   clear HLnl5
   clear HXr HRg HOw HA2 HXq HRq HOq HP1 hlg6 hs6
   rintro W8 ⟨x6, u6, o6⟩
   have HXr := lh x6
   have HRg := lh u6
   have HOw := lh o6
   have HA2 := lh (fun a h => (o6.lt a h).2)
   have HNe : Hid (l5 ≠ []) := lh (by intro e; rw [e] at hol6; simp at hol6)
   have HP1 : Hid ((leParts x.le).length = 1) := lh rfl
   have hlg6 := u6.lt
   have hs6 := x6.size
   clear x6 u6 o6
   refine wp_region_steps 12 (by kernel_rfl) [4, 10, 11] (AppG W1 g (lnC x) A5 c5 l5 (leParts x.le) (strOfNums x.le.sl) W8.heap.size) (fun i => (softRs [.eq (.slice A5 l5.length c5), .eq (.pointer (some ⟨g, 39, none⟩)), .eq (.agg (leC x.le)), .rd (leParts x.le), .any, .eq (.pointer (some ⟨g, 39, none⟩)), .eq (.pointer (some ⟨g, 43, none⟩)), .eq (.slice (some ⟨g, 43, none⟩) 16 16), .eq (.string (strOfNums x.le.sl)), .fr W8.heap.size (strOfNums x.le.sl), .any, .any] i).S) (by kernel_rfl) (by kernel_rfl) (by kernel_rfl) (by kernel_rfl) ?_ appG_x appG_e (fun i => (softRs _ i).on) (lt_cons ?_ (lt_cons ?_ (lt_cons ?_ (lt_cons ?_ (lt_cons ?_ (lt_cons ?_ (lt_cons ?_ (lt_cons ?_ (lt_cons ?_ (lt_cons ?_ (lt_cons ?_ (lt_cons ?_ lt_none)))))))))))) (lt_cons ?_ (lt_cons ?_ (lt_cons ?_ lt_none))) ?_ (by decide)
   ·exact ⟨HXr.out.drew, HRg.out.drew, Nat.le_refl _, fun _ => HOw.out.drew, fun h => absurd h (by decide), fun h => absurd h (by decide), fun h => absurd h (by decide), fun _ => rfl⟩
   ·
    intro hni o ho r xs W hr hG hd hk hbf Q' hQ; obtain rfl := Option.some.inj ho; clear ho hk hni; simp only [fillAt, dstOf, lc0, lcs, obs, Act.put, lsa, lsz, lss, nz, Nat.reduceAdd] at hQ ⊢; have HQ := lh hQ; have HD := lh hd; have HG := lh hG; clear hQ hd hG
    have hr2 : r ≤ 2 := by
     rcases Nat.lt_or_ge 2 r with h | h
     ·exact (hbf 0 (by omega) (dk (by kernel_rfl))).elim
     ·exact h
    have h11 : xs 11 = .slice A5 l5.length c5 := HG.out.2.2.2.2.2.2.2 hr2
    generalize xs 11 = x11 at h11 HQ ⊢; subst h11
    go_wp2
    exact HQ.out _ _ (eR _) rfl
   ·
    intro hni o ho r xs W hr hG hd hk hbf Q' hQ; obtain rfl := Option.some.inj ho; clear ho hk hni; simp only [fillAt, dstOf, lc0, lcs, obs, Act.put, lsa, lsz, lss, nz, Nat.reduceAdd] at hQ ⊢; have HQ := lh hQ; have HD := lh hd; have HG := lh hG; clear hQ hd hG
    go_wp2
    exact HQ.out _ _ (eR _) rfl
   ·
    intro hni o ho r xs W hr hG hd hk hbf Q' hQ; obtain rfl := Option.some.inj ho; clear ho hk hni; simp only [fillAt, dstOf, lc0, lcs, obs, Act.put, lsa, lsz, lss, nz, Nat.reduceAdd] at hQ ⊢; have HQ := lh hQ; have HD := lh hd; have HG := lh hG; clear hQ hd hG
    have hd1 : xs 1 = .pointer (some ⟨g, 39, none⟩) := (HD.out 1 (dk (by kernel_rfl)) (by decide))
    generalize xs 1 = x1 at hd1 HQ ⊢; subst hd1
    have uG := HG.out.2.1
    have hc : rowOf W g 39 20 = some (leC x.le) := by rw [uG.row, if_neg (by omega), ln_s39_20]
    have hlG := uG.lt
    clear uG
    go_wp2
    exact HQ.out _ _ (eR _) rfl
   ·
    intro hni o ho r xs W hr hG hd hk hbf Q' hQ; obtain rfl := Option.some.inj ho; clear ho hk hni; simp only [fillAt, dstOf, lc0, lcs, obs, Act.put, lsa, lsz, lss, nz, Nat.reduceAdd] at hQ ⊢; have HQ := lh hQ; have HD := lh hd; have HG := lh hG; clear hQ hd hG
    have hd2 : xs 2 = .agg (leC x.le) := (HD.out 2 (dk (by kernel_rfl)) (by decide))
    generalize xs 2 = x2 at hd2 HQ ⊢; subst hd2
    go_wp2_with (go_at_call 126; refine (HLe.out _).mono ?_; rintro e w1 ⟨A, c, rfl, h1, h2, hx⟩)
    exact HQ.out _ _ hx (fun _ => ⟨A, c, rfl, h1, h2⟩)
   ·exact fun h => absurd (by decide) h
   ·
    intro hni o ho r xs W hr hG hd hk hbf Q' hQ; obtain rfl := Option.some.inj ho; clear ho hk hni; simp only [fillAt, dstOf, lc0, lcs, obs, Act.put, lsa, lsz, lss, nz, Nat.reduceAdd] at hQ ⊢; have HQ := lh hQ; have HD := lh hd; have HG := lh hG; clear hQ hd hG
    go_wp2
    exact HQ.out _ _ (eR _) rfl
   ·
    intro hni o ho r xs W hr hG hd hk hbf Q' hQ; obtain rfl := Option.some.inj ho; clear ho hk hni; simp only [fillAt, dstOf, lc0, lcs, obs, Act.put, lsa, lsz, lss, nz, Nat.reduceAdd] at hQ ⊢; have HQ := lh hQ; have HD := lh hd; have HG := lh hG; clear hQ hd hG
    have hd5 : xs 5 = .pointer (some ⟨g, 39, none⟩) := (HD.out 5 (dk (by kernel_rfl)) (by decide))
    generalize xs 5 = x5 at hd5 HQ ⊢; subst hd5
    go_wp2
    exact HQ.out _ _ (eR _) rfl
   ·
    intro hni o ho r xs W hr hG hd hk hbf Q' hQ; obtain rfl := Option.some.inj ho; clear ho hk hni; simp only [fillAt, dstOf, lc0, lcs, obs, Act.put, lsa, lsz, lss, nz, Nat.reduceAdd] at hQ ⊢; have HQ := lh hQ; have HD := lh hd; have HG := lh hG; clear hQ hd hG
    have hd6 : xs 6 = .pointer (some ⟨g, 43, none⟩) := (HD.out 6 (dk (by kernel_rfl)) (by decide))
    generalize xs 6 = x6 at hd6 HQ ⊢; subst hd6
    go_wp2
    exact HQ.out _ _ (eR _) rfl
   ·
    intro hni o ho r xs W hr hG hd hk hbf Q' hQ; obtain rfl := Option.some.inj ho; clear ho hk hni; simp only [fillAt, dstOf, lc0, lcs, obs, Act.put, lsa, lsz, lss, nz, Nat.reduceAdd] at hQ ⊢; have HQ := lh hQ; have HD := lh hd; have HG := lh hG; clear hQ hd hG
    have hd7 : xs 7 = .slice (some ⟨g, 43, none⟩) 16 16 := (HD.out 7 (dk (by kernel_rfl)) (by decide))
    generalize xs 7 = x7 at hd7 HQ ⊢; subst hd7
    have uG := HG.out.2.1
    have hcv := conv_bytes 16 (arr_reads ((uG.row 43 16).trans (by rw [if_neg (by omega), ln_s43_16])) HlN.out uG.lt) (by rw [HlN.out]; omega)
    rw [HlN.out] at hcv
    clear uG
    go_wp2
    exact HQ.out _ _ (eR _) rfl
   ·
    intro hni o ho r xs W hr hG hd hk hbf Q' hQ; obtain rfl := Option.some.inj ho; clear ho hk hni; simp only [fillAt, dstOf, lc0, lcs, obs, Act.put, lsa, lsz, lss, nz, Nat.reduceAdd] at hQ ⊢; have HQ := lh hQ; have HD := lh hd; have HG := lh hG; clear hQ hd hG
    have hd8 : xs 8 = .string (strOfNums x.le.sl) := (HD.out 8 (dk (by kernel_rfl)) (by decide))
    generalize xs 8 = x8 at hd8 HQ ⊢; subst hd8
    have hZ := HG.out.2.2.1
    go_wp2
    exact HQ.out _ _ ((eR _).alloc _) (fun _ => ⟨_, rfl, hZ, by simp, by rw [alloc_cell_if, if_pos rfl]; rfl⟩)
   ·exact fun h => absurd (by decide) h
   ·exact fun h => absurd (by decide) h
   ·
    intro hkn o ho xs W hG hd Q' hQ; obtain rfl := Option.some.inj ho; clear ho hkn; simp only [fillAt, dstOf, lc0, lcs, obs, Act.put, lsa, lsz, lss, nz, Nat.reduceAdd] at hQ ⊢; have HQ := lh hQ; have HD := lh hd; have HG := lh hG; clear hQ hd hG
    have hd0 : xs 0 = .slice A5 l5.length c5 := (HD.out 0 (dk (by kernel_rfl)) (by decide))
    obtain ⟨A3, c3, h3, hr3, hz3⟩ : (readS (leParts x.le)).S (xs 3) W := (HD.out 3 (dk (by kernel_rfl)) (by decide)) rfl
    generalize xs 0 = x0 at hd0 HQ ⊢; subst hd0
    generalize xs 3 = x3 at h3 HQ ⊢; subst h3
    obtain ⟨xW, uG, hZ, o0, _, _, _, hv11⟩ := HG.out
    have HO0 := lh (o0 rfl)
    have HXW := lh xW
    have HUG := lh uG
    have hsW := xW.size
    have HV11 := lh (hv11 (by decide))
    have hp1l := Nat.le_of_eq HP1.out
    clear xW uG o0 HG hv11
    go_wp2_with (at_builtin; refine app_reads strT sE rfl _ _ rfl W1.heap.size _ _ l5 rfl HO0.out W.heap.size _ _ (leParts x.le) rfl hr3 hz3 (by omega) (by omega) hsW ?_; intro A7 c7 l7 w7 HL HO5 hB hl1 hl2 hg)
    exact HQ.out _ _ (softRs_step _ (by
     intro s hs u h
     simp only [List.mem_cons, List.not_mem_nil, or_false] at hs
     rcases hs with rfl | rfl | rfl | rfl | rfl | rfl | rfl | rfl | rfl | rfl | rfl | rfl
     all_goals first
      | exact h
      | exact trivial
      | exact fun h0 => absurd h0 (by decide)
      | exact fr_step hg (own_lt HA2.out) u h)) ⟨HXW.out.grown hB (Nat.le_refl _), HUG.out.grown hg (owns_not_row HO0.out HNe.out HUG.out (ln_g0 x) (fun s h => by cases h)), Nat.le_trans hZ hg.size, fun h => absurd h (by decide), fun _ => ⟨A7, c7, l7, rfl, HL, HO5⟩, fun h => absurd h (by decide), fun h => absurd h (by decide), fun _ => HV11.out⟩
   ·
    intro hkn o ho xs W hG hd Q' hQ; obtain rfl := Option.some.inj ho; clear ho hkn; simp only [fillAt, dstOf, lc0, lcs, obs, Act.put, lsa, lsz, lss, nz, Nat.reduceAdd] at hQ ⊢; have HQ := lh hQ; have HD := lh hd; have HG := lh hG; clear hQ hd hG
    obtain ⟨b9, h9, hb9, hl9, hc9⟩ : ∃ b, xs 9 = .slice (some ⟨b, 0, none⟩) 1 1 ∧ W8.heap.size ≤ b ∧ b < W.heap.size ∧ W.cell? ⟨b, 0, none⟩ = some (.string (strOfNums x.le.sl)) := (HD.out 9 (dk (by kernel_rfl)) (by decide)) (by decide)
    obtain ⟨xW, uG, hZ, _, o1, _, _, hv11⟩ := HG.out
    obtain ⟨A4, c4, l4, h4, HL4, o4⟩ := o1 rfl
    generalize xs 4 = x4 at h4 HQ ⊢; subst h4
    generalize xs 9 = x9 at h9 HQ ⊢; subst h9
    have hl4 : l4.length ≤ l5.length + (leParts x.le).length := Nat.le_of_eq (by rw [HL4.out, List.length_append])
    have HO0 := lh o4
    have HXW := lh xW
    have HUG := lh uG
    have hsW := xW.size
    have HV11 := lh (hv11 (by decide))
    have hp1l := Nat.le_of_eq HP1.out
    have HR9 := lh (one_reads hl9 hc9)
    clear xW uG o1 o4 HG hc9 hv11
    go_wp2_with (at_builtin; refine app_reads strT sE rfl _ _ rfl W1.heap.size _ _ l4 rfl HO0.out W.heap.size _ _ [strOfNums x.le.sl] rfl HR9.out (fun h => by cases h) (by simp; omega) (by simp; omega) hsW ?_; intro A7 c7 l7 w7 HL HO5 hB hl1 hl2 hg)
    exact HQ.out _ _ (softRs_step _ (by
     intro s hs u h
     simp only [List.mem_cons, List.not_mem_nil, or_false] at hs
     rcases hs with rfl | rfl | rfl | rfl | rfl | rfl | rfl | rfl | rfl | rfl | rfl | rfl
     all_goals first
      | exact h
      | exact trivial
      | exact fun h0 => absurd h0 (by decide)
      | exact trivial)) ⟨HXW.out.grown hB (Nat.le_refl _), HUG.out.grown hg (owns_not_row HO0.out (fun e => HNe.out (by have h9 := HL4.out; rw [e] at h9; exact (List.append_eq_nil_iff.1 h9.symm).1)) HUG.out (ln_g0 x) (fun s h => by cases h)), Nat.le_trans hZ hg.size, fun h => absurd h (by decide), fun h => absurd h (by decide), fun _ => ⟨A7, c7, l7, rfl, lh (by rw [HL.out, HL4.out]), HO5⟩, fun h => absurd h (by decide), fun _ => HV11.out⟩
   ·
    intro hkn o ho xs W hG hd Q' hQ; obtain rfl := Option.some.inj ho; clear ho hkn; simp only [fillAt, dstOf, lc0, lcs, obs, Act.put, lsa, lsz, lss, nz, Nat.reduceAdd] at hQ ⊢; have HQ := lh hQ; have HD := lh hd; have HG := lh hG; clear hQ hd hG
    go_wp2
    exact HQ.out _ _ (softRs_step _ (by
     intro s hs u h
     simp only [List.mem_cons, List.not_mem_nil, or_false] at hs
     rcases hs with rfl | rfl | rfl | rfl | rfl | rfl | rfl | rfl | rfl | rfl | rfl | rfl
     all_goals first
      | exact h
      | exact trivial
      | exact fun h0 => absurd h0 (by decide)
      | exact trivial)) (by
     obtain ⟨a, b, z, _, _, e, _, _⟩ := HG.out
     exact ⟨a, b, z, fun h => absurd h (by decide), fun h => absurd h (by decide), fun _ => e (by decide), fun _ => rfl, fun h => absurd h (by decide)⟩)
   intro _ xs W9 hG _
   obtain ⟨xW, uG, _, _, _, o2, o3, _⟩ := hG
   obtain ⟨A6, c6, l6, h5, HLl6, ho5⟩ := o2 (by decide)
   have h11 := (o3 rfl).trans h5
   simp only [fillAt, dstOf, lc0, lcs, obs, Act.put, lsa, lsz, lss, nz, Nat.reduceAdd]
   generalize xs 11 = x11 at *
   subst h11
   have HXq := lh xW
   have HRq := lh uG
   have HOq := lh ho5
   have HLnl6 : Hid (l6.length = l5.length + (leParts x.le).length + 1) := lh (by rw [HLl6.out, List.length_append, List.length_append]; rfl)
   clear xW uG o2 o3 ho5 h5
   have hol7 : l6.length ≤ 2 + 6 * (k + 1) := by have h1 := HLnl6.out; have h2 := HP1.out; omega
   have hol8 : 2 ≤ l6.length := by have h1 := HLnl6.out; omega
   have HFin : Hid (l6 = [T0, T1] ++ (s.lines.take (k + 1)).flatMap lnParts) := lh (by rw [HLl6.out, HLl5.out, HL2.out, HN.out, HOu.out, HPP.out]; simp only [List.append_assoc])
   clear HLnl6 HLl6 HLl5 HL2 HN HOu HPP HP1 HXr HRg HOw HA2
   go_wp2
   go_roundw
   case rel => exact ⟨A6, c6, l6, k + 1, rfl, by go_num, by omega, hol7, hol8, HFin, HOq, HXq⟩
   case measure => simp [intOf]; omega
  ·have e1 : k = s.lines.length := by omega
   subst e1
   have HOf : Hid (ou1 = rpParts s) := lh (by rw [HOu.out, List.take_of_length_le (Nat.le_refl _), HE.out])
   go_wp2
   go_ret
   obtain rfl := HOf.out
   exact ⟨A1, c1, rfl, HOw1.out.reads sE, HOw1.out.none0, HX1.out.trans HX.out⟩
theorem lnT : ElemTy Tryz.prog 66 89 59 136 := ⟨by kernel_rfl, by kernel_rfl, by omega⟩
abbrev OwnsLn (base : Nat) (w : World) (A : Option Addr) (c : Nat) (l : List Ln) : Prop := Owns 89 59 lnL base w A c l
theorem noCf_ok : CfOk noCf := ⟨zeros_ok, zeros_ok, by intro x hx; simp [cfInts, noCf] at hx; subst hx; unfold i64; omega⟩
theorem noLe_ok : LeOk noLe := ⟨zeros_ok, by intro x hx; simp [leInts, noLe] at hx; subst hx; unfold i64; omega⟩
theorem best_mem {α : Type} (z : α) (p : α → Bool) (q : α → α → Bool) (l : List α) : (bestS z p q l).1 = z ∨ (bestS z p q l).1 ∈ l := by
 have h : ∀ (l : List α) (o : α × Bool) (m : List α), (o.1 = z ∨ o.1 ∈ m) → (l.foldl (fun o x => if p x && (!o.2 || q x o.1) then (x, true) else o) o).1 = z ∨ (l.foldl (fun o x => if p x && (!o.2 || q x o.1) then (x, true) else o) o).1 ∈ m ++ l := by
  intro l
  induction l with
  | nil => intro o m h; simpa using h
  | cons x t ih =>
   intro o m h
   rw [List.foldl_cons, show m ++ x :: t = (m ++ [x]) ++ t by simp]
   refine ih _ (m ++ [x]) ?_
   split
   ·right; simp
   ·rcases h with h | h
    ·exact .inl h
    ·right; simp [h]
 have := h l (z, false) [] (.inl rfl)
 simpa [bestS] using this
theorem lineN_ok {x : Gr} {num lo : Int} {cs : List Cf} {ls : List Le} (hx : i64 x.site) (hc : ∀ c ∈ cs, CfOk c) (hl : ∀ l ∈ ls, LeOk l) : LnOk (lineN x num cs ls lo) := by
 have h1 : CfOk (bestS noCf (cfHit x.site num) cfNone cs).1 := by
  rcases best_mem noCf (cfHit x.site num) cfNone cs with h | h
  ·rw [h]; exact noCf_ok
  ·exact hc _ h
 have h2 : LeOk (bestS noLe (leHit x.site) leMore ls).1 := by
  rcases best_mem noLe (leHit x.site) leMore ls with h | h
  ·rw [h]; exact noLe_ok
  ·exact hl _ h
 unfold lineN
 split
 ·refine ⟨h1, noLe_ok, ?_⟩
  intro y hy
  simp only [List.mem_cons, List.not_mem_nil, or_false] at hy
  rcases hy with rfl | rfl
  ·exact hx
  ·unfold i64; omega
 ·refine ⟨noCf_ok, h2, ?_⟩
  intro y hy
  simp only [List.mem_cons, List.not_mem_nil, or_false] at hy
  rcases hy with rfl | rfl
  ·exact hx
  ·split <;> unfold i64 <;> omega
def makeB (k : Ky) (g : Gs) (e : Ep) (now : Clk) : Bool := okKy k && decide (k.party = 1) && okGs g && okEp e && decide (e.num ≤ g.latest) && okClk now
def mkLines (g : Gs) (e : Ep) (cs : List Cf) (ls : List Le) (now : Clk) : List Ln := g.l.map fun x => lineN x e.num cs ls now.lo
def rpOf (k : Ky) (g : Gs) (e : Ep) (cs : List Cf) (ls : List Le) (now : Clk) (LA : Option Addr) (lc : Nat) : Rp := ⟨e.num, epName e, now.lo, now.hi, LA, lc, mkLines g e cs ls now, k.serial, zeros32 16⟩
noncomputable def rpSeal (k : Ky) (r : Rp) : Rp := { r with sl := makeN k 321 (rpParts r) }
noncomputable def mkR (k : Ky) (g : Gs) (e : Ep) (cs : List Cf) (ls : List Le) (now : Clk) (LA : Option Addr) (lc : Nat) : Rp := if makeB k g e now = true then rpSeal k (rpOf k g e cs ls now LA lc) else { noRp with LA := LA, lc := lc }
def mkE (k : Ky) (g : Gs) (e : Ep) (now : Clk) : Int := if makeB k g e now = true then 0 else 1
theorem okGs_at {g : Gs} (h : okGs g = true) : ∀ x ∈ g.l, 0 ≤ x.site ∧ x.site < 64 := by
 intro x hx
 obtain ⟨i, hi, rfl⟩ := List.getElem_of_mem hx
 simp only [okGs, Bool.and_eq_true, List.all_eq_true, List.mem_range] at h
 have := (gAt_is hi).1 (h.2 i hi)
 omega
theorem rpOf_ok {k : Ky} {g : Gs} {e : Ep} {cs : List Cf} {ls : List Le} {now : Clk} {LA : Option Addr} {lc : Nat} (h : makeB k g e now = true) (hc : ∀ c ∈ cs, CfOk c) (hl : ∀ l ∈ ls, LeOk l) : RpOk (rpOf k g e cs ls now LA lc) := by
 simp only [makeB, Bool.and_eq_true, decide_eq_true_eq] at h
 obtain ⟨⟨⟨⟨⟨h1, h2⟩, h3⟩, h4⟩, h5⟩, h6⟩ := h
 have g1 := okKy_lims h1
 have g4 := okEp_num h4
 have g6 := okClk_lims h6
 refine ⟨⟨epName_len e, epName_byt e⟩, zeros_ok, ?_, ?_⟩
 ·intro x hx
  simp only [rpOf, mkLines, List.mem_map] at hx
  obtain ⟨y, hy, rfl⟩ := hx
  have := okGs_at h3 y hy
  exact lineN_ok (by unfold i64; omega) hc hl
 ·intro x hx
  simp only [rpOf, List.mem_cons, List.not_mem_nil, or_false] at hx
  unfold i64
  rcases hx with rfl | rfl | rfl | rfl <;> omega
def rpW (s : Rp) (A : Option Addr) (c : Nat) (l : List Ln) : Rp := { s with LA := A, lc := c, lines := l }
theorem rpw_g19 (s : Rp) (A : Option Addr) (c : Nat) (l : List Ln) : (rpC (rpW s A c l))[19]? = some (.slice A l.length c) := by kernel_rfl
theorem rpw_set (s : Rp) (A A' : Option Addr) (c c' : Nat) (l l' : List Ln) : (rpC (rpW s A c l)).setIfInBounds 19 (.slice A' l'.length c') = rpC (rpW s A' c' l') := by kernel_rfl
theorem rp_seal_set (s : Rp) (D : List Int) : laidOver (rpC s) 21 (dgC D).toList = rpC { s with sl := D } := by kernel_rfl
theorem rp_loaded {w : World} {b : Nat} {x : Rp} (h : rowOf w b 0 37 = some (rpC x)) : (loadVar 68 ⟨b, 0, none⟩).run Tryz.prog w = .ok (.agg (rpC x)) w := run_loadVar_row rp_ty h
def rpB4 (a b c d : Value) : Sem Next := do pure (.value (← Instr.build 68 #[(0, a), (1, b), (2, c), (4, d)]))
theorem rpB4_x (ρ : Operand → Value) (dst : Option Tmp) (a b c d : Operand) (t : TypeId) (pos : String) (after : Array Edge) (guard : Option (Nat × Bool)) : execOp ρ { dst, op := .build 68 #[(0, a), (1, b), (2, c), (4, d)], type := t, pos, after, guard } = rpB4 (ρ a) (ρ b) (ρ c) (ρ d) := by kernel_rfl
attribute [go_sem ↓] rpB4_x
theorem rpB4_run (n lo hi s : Int) (d : List Int) (W : World) : (rpB4 (.int .i64 n) (.agg (dgC d)) (.agg #[.int .i64 lo, .int .i64 hi]) (.int .i64 s)).run Tryz.prog W = .ok (.value (.agg (rpC ⟨n, d, lo, hi, none, 0, [], s, zeros32 16⟩))) W := by kernel_rfl
def rpB0 : Sem Next := do pure (.value (← Instr.build 68 #[]))
theorem rpB0_x (ρ : Operand → Value) (dst : Option Tmp) (t : TypeId) (pos : String) (after : Array Edge) (guard : Option (Nat × Bool)) : execOp ρ { dst, op := .build 68 #[], type := t, pos, after, guard } = rpB0 := by kernel_rfl
attribute [go_sem ↓] rpB0_x
theorem rpB0_run (W : World) : rpB0.run Tryz.prog W = .ok (.value (.agg (rpC noRp))) W := by kernel_rfl
attribute [go_sem] rpB4_run rpB0_run
def SoftR.ln (L : Ln) : SoftR := ⟨fun r v w => r = 0 → ∃ b, v = .slice (some ⟨b, 0, none⟩) 1 1 ∧ Reads 59 lnL w w.heap.size (some ⟨b, 0, none⟩) [L], fun _ _ _ _ h hx h0 => by
 obtain ⟨b, e, h1⟩ := h h0
 exact ⟨b, e, h1.on hx⟩⟩
def RepG (W1 : World) (R q : Nat) (s : Rp) (x : Gr) (A2 : Option Addr) (c2 : Nat) (out : List Ln) (L : Ln) (r : Nat) (xs : Nat → Value) (w : World) : Prop :=
 Ext W1 w ∧ RowAt w q (grC x) ∧ R < w.heap.size ∧ (r ≤ 1 → RowAt w R (rpC (rpW s A2 c2 out))) ∧ (r = 0 → OwnsLn (R + 1) w A2 c2 out) ∧
 (r = 1 → ∃ A c l, xs 6 = .slice A l.length c ∧ Hid (l = out ++ [L]) ∧ OwnsLn (R + 1) w A c l) ∧ (r = 2 → ∃ A c l, Hid (l = out ++ [L]) ∧ OwnsLn (R + 1) w A c l ∧ RowAt w R (rpC (rpW s A c l)))
theorem repG_x {W1 : World} {R q : Nat} {s : Rp} {x : Gr} {A2 : Option Addr} {c2 : Nat} {out : List Ln} {L : Ln} (r : Nat) (xs : Nat → Value) (i : Nat) (v : Value) (w : World) (hi : i ∉ [6, 8]) (h : RepG W1 R q s x A2 c2 out L r xs w) : RepG W1 R q s x A2 c2 out L r (updAt xs i v) w := by
 have n6 : 6 ≠ i := fun h => hi (by simp [← h])
 obtain ⟨a, b, z, c, d, e, f⟩ := h
 exact ⟨a, b, z, c, d, by rw [updAt_ne _ _ n6]; exact e, f⟩
theorem repG_e {W1 : World} {R q : Nat} {s : Rp} {x : Gr} {A2 : Option Addr} {c2 : Nat} {out : List Ln} {L : Ln} (r : Nat) (xs : Nat → Value) (w w' : World) (h : RepG W1 R q s x A2 c2 out L r xs w) (hx : Ext w w') : RepG W1 R q s x A2 c2 out L r xs w' := by
 obtain ⟨a, b, z, c, d, e, f⟩ := h
 exact ⟨a.trans hx, b.ext hx, Nat.lt_of_lt_of_le z hx.size, fun h => (c h).ext hx, fun h => (d h).ext hx, fun h => by obtain ⟨A, cc, l, h1, h2, h3⟩ := e h; exact ⟨A, cc, l, h1, h2, h3.ext hx⟩, fun h => by obtain ⟨A, cc, l, h1, h2, h3⟩ := f h; exact ⟨A, cc, l, h1, h2.ext hx, h3.ext hx⟩⟩
theorem dg_eqIn (d : Nat) (t : TypeId) (ht : Tryz.prog.underlying t = some (.array 16 5)) {a b : List Int} (ha : DgOk a) (hb : DgOk b) (W : World) : (Op.equalIn (d + 2) t (.agg (dgC a)) (.agg (dgC b))).run Tryz.prog W = .ok (decide (a = b)) W := by
 have h := run_equalIn_bytes (P := Tryz.prog) W d t 5 16 ht (by kernel_rfl) u8_size (u8s a) (u8s b) (by simp [u8s, ha.len]) (by simp [u8s, hb.len])
 rw [u8s_cells ha.byt, u8s_cells hb.byt, u8s_beq ha.byt hb.byt] at h
 rw [dgC_cells ha.len, dgC_cells hb.len, h]
theorem le_ext (l : Le) : (leC l).extract 4 20 = dgC l.sl := by kernel_rfl
theorem seal_under : Tryz.prog.underlying 30 = some (.array 16 5) := by kernel_rfl
theorem dig_under : Tryz.prog.underlying 25 = some (.array 16 5) := by kernel_rfl
def leEq (a b : Le) : Bool := decide (a.site = b.site) && (decide (a.epoch = b.epoch) && (decide (a.until_ = b.until_) && (decide (a.serial = b.serial) && decide (a.sl = b.sl))))
theorem le_neq (a b : Le) (ha : DgOk a.sl) (hb : DgOk b.sl) (W : World) : (binOp .neq 87 (.agg (leC a)) (.agg (leC b))).run Tryz.prog W = .ok (.bool (!leEq a b)) W := by
 have h := dg_eqIn 9997 30 seal_under ha hb W
 rw [run_neq_struct]
 simp [go_sem, le_ext, h]
 unfold leEq
 repeat' split
 all_goals simp [*]
theorem le_eql (a b : Le) (ha : DgOk a.sl) (hb : DgOk b.sl) (W : World) : (binOp .eql 87 (.agg (leC a)) (.agg (leC b))).run Tryz.prog W = .ok (.bool (leEq a b)) W := by
 have h := dg_eqIn 9997 30 seal_under ha hb W
 rw [run_eql_struct]
 simp [go_sem, le_ext, h]
 unfold leEq
 repeat' split
 all_goals simp [*]
theorem cf_ext2 (l : Cf) : (cfC l).extract 2 18 = dgC l.name := by kernel_rfl
theorem cf_ext21 (l : Cf) : (cfC l).extract 21 37 = dgC l.sl := by kernel_rfl
theorem cf_ext18 (l : Cf) : (cfC l).extract 18 20 = #[.int .i64 l.lo, .int .i64 l.hi] := by kernel_rfl
def cfEq (a b : Cf) : Bool := decide (a.site = b.site) && (decide (a.epoch = b.epoch) && (decide (a.name = b.name) && (decide (a.lo = b.lo) && (decide (a.hi = b.hi) && (decide (a.serial = b.serial) && decide (a.sl = b.sl))))))
theorem cf_neq (a b : Cf) (ha : DgOk a.name) (hb : DgOk b.name) (ha2 : DgOk a.sl) (hb2 : DgOk b.sl) (W : World) : (binOp .neq 51 (.agg (cfC a)) (.agg (cfC b))).run Tryz.prog W = .ok (.bool (!cfEq a b)) W := by
 have h := dg_eqIn 9997 30 seal_under ha2 hb2 W
 have h' := dg_eqIn 9997 25 dig_under ha hb W
 rw [run_neq_struct]
 simp [go_sem, cf_ext2, cf_ext21, cf_ext18, h, h']
 unfold cfEq
 repeat' split
 all_goals simp [*]
theorem neq_dg {a b : List Int} (ha : DgOk a) (hb : DgOk b) (W : World) : (binOp .neq 25 (.agg (dgC a)) (.agg (dgC b))).run Tryz.prog W = .ok (.bool (!(decide (a = b)))) W := by
 have h := run_equalIn_bytes (P := Tryz.prog) W 9998 25 5 16 (by kernel_rfl) (by kernel_rfl) u8_size (u8s a) (u8s b) (by simp [u8s, ha.len]) (by simp [u8s, hb.len])
 rw [u8s_cells ha.byt, u8s_cells hb.byt, u8s_beq ha.byt hb.byt] at h
 rw [dgC_cells ha.len, dgC_cells hb.len, run_neq_struct, h]
 rfl
def leB0 : Sem Next := do pure (.value (← Instr.build 87 #[]))
theorem leB0_x (ρ : Operand → Value) (dst : Option Tmp) (t : TypeId) (pos : String) (after : Array Edge) (guard : Option (Nat × Bool)) : execOp ρ { dst, op := .build 87 #[], type := t, pos, after, guard } = leB0 := by kernel_rfl
attribute [go_sem ↓] leB0_x
theorem leB0_run (W : World) : leB0.run Tryz.prog W = .ok (.value (.agg (leC noLe))) W := by kernel_rfl
attribute [go_sem] leB0_run
noncomputable def wrongCf (l : List Ky) (e : Ep) (x : Ln) : Int :=
 if leEq x.le noLe = true then if x.cf.site = x.site then if x.cf.epoch < e.num then 3 else if x.cf.epoch = e.num then (if x.cf.name = epName e then checkCf l x.cf else 3) else checkCf l x.cf else 3 else 3
noncomputable def wrongLe (l : List Ky) (e : Ep) (lo : Int) (x : Ln) : Int :=
 if cfEq x.cf noCf = true then if leEq x.le noLe = true then 0 else if x.le.site = x.site then if e.num ≤ x.le.epoch then 3 else if checkLe l x.le = 0 then (if decide (x.le.until_ ≤ lo) = decide (x.kind = 2) then 0 else 9) else checkLe l x.le else 3 else 3
theorem confirmed_any (Ar : Option Addr) (cr : Nat) (l : List Ky) (e : Ep) (x : Ln) (w : World) (hg : RingOk l) (hrk : ReadsKy w w.heap.size Ar l) (hok : EpOk e) (hs : EpShort e) (ha : EpAt w e) (hx : LnOk x) (hk : KonstP w) :
  Calls Tryz.prog 81 #[.slice Ar l.length cr, .agg (epC e), .agg (lnC x)] w fun r w' => r = .returned (.int .i64 (wrongCf l e x)) ∧ Ext w w' := by
 have HNm := lh (fun (W : World) (hx : Ext w W) => ename_any e W hok hs (ha.on hx) (RowAt.ext hk hx))
 have HCk := lh (fun (W : World) (hx' : Ext w W) => acheckCf_any Ar cr l x.cf W hg (hrk.on hx') hx.cf (RowAt.ext hk hx'))
 have hn1 := le_neq x.le noLe hx.le.sl zeros_ok
 have hn2 := neq_dg hx.cf.name (⟨epName_len e, epName_byt e⟩ : DgOk (epName e))
 have HO : Hid (wrongCf l e x = if leEq x.le noLe = true then if x.cf.site = x.site then if x.cf.epoch < e.num then 3 else if x.cf.epoch = e.num then (if x.cf.name = epName e then checkCf l x.cf else 3) else checkCf l x.cf else 3 else 3) := lh rfl
 have hfe := ep_fits e
 have hfx := ln_fits x
 have hfc := cf_fits x.cf
 have hfd : fitsRow 16 (dgC (epName e)) = true := by simp [fitsRow, dgC, Value.oneCell']
 generalize wrongCf l e x = O at *
 generalize checkCf l x.cf = C at *
 generalize epName e = N at *
 clear hg hrk hok hs ha hx hk
 go_enter Tryz.func81, Tryz.ntmps81
 go_upto_region 2 with (fail)
 refine wp_world (fun W => Ext w W ∧ RowAt W w.heap.size (epC e) ∧ RowAt W (w.heap.size + 1) (lnC x) ∧ RowAt W (w.heap.size + 1 + 1) (cfC x.cf)) ⟨(by (with_reducible repeat first|exact eR _|apply eD|apply eN|apply eA|apply eO|apply eS|apply eC);all_goals first|omega|simp <;> omega), ?_, ?_, ?_⟩ ?_
 ·exact (((RowAt.new _ _ _).alloc _).alloc _).others (by omega) _ _
 ·exact ((RowAt.newAt (by simp)).alloc _).others (by omega) _ _
 ·exact (RowAt.newAt (by simp)).store rfl
 obtain ⟨B, hB⟩ : ∃ B, w.heap.size = B := ⟨_, rfl⟩
 rw [hB]
 rintro W1 ⟨x1, uE, uX, uC⟩
 have HX1 := lh x1
 have hlc := uC.lt
 have q1 : W1.cell? ⟨B, 0, none⟩ = some (.int .i64 e.num) := (uE.cell 0).trans (ep_g0 e)
 have k1 : rowOf W1 B 0 38 = some (epC e) := uE.all rfl (by omega)
 have q2 : W1.cell? ⟨B + 1, 0, none⟩ = some (.int .i64 x.site) := (uX.cell 0).trans (ln_g0 x)
 have k2 : rowOf W1 (B + 1) 39 20 = some (leC x.le) := by rw [uX.row, if_neg (by omega), ln_s39_20]
 have q3 : W1.cell? ⟨B + 1 + 1, 0, none⟩ = some (.int .i64 x.cf.site) := (uC.cell 0).trans (cf_g0 x.cf)
 have q4 : W1.cell? ⟨B + 1 + 1, 1, none⟩ = some (.int .i64 x.cf.epoch) := (uC.cell 1).trans (cf_g1 x.cf)
 have k3 : rowOf W1 (B + 1 + 1) 2 16 = some (dgC x.cf.name) := by rw [uC.row, if_neg (by omega), cf_s2_16]
 have k4 : rowOf W1 (B + 1 + 1) 0 37 = some (cfC x.cf) := uC.all rfl (by omega)
 clear x1 uE uX uC
 cases b1 : leEq x.le noLe with
 | false =>
  have HR : Hid (O = 3) := lh (by rw [HO.out, b1]; simp)
  clear HO
  rw [b1] at hn1
  refine wp_region_later (by kernel_rfl) (by kernel_rfl) ?_
  repeat (first | go_big_quiet_step ((go_at_call 58; exact quietE (HNm.out _ (by first | exact (by (with_reducible repeat first|exact HX1.out|exact eR _|apply eD|apply eN|apply eA|apply eO|apply eS|apply eC);all_goals first|omega|simp <;> omega) | exact (HX1.out.onto _))))) | quiet_step ((go_at_call 58; exact quietE (HNm.out _ (by first | exact (by (with_reducible repeat first|exact HX1.out|exact eR _|apply eD|apply eN|apply eA|apply eO|apply eS|apply eC);all_goals first|omega|simp <;> omega) | exact (HX1.out.onto _))))))
  refine wpQuiet_nil ?_
  rintro _ ⟨xq, rfl⟩
  go_wp2_with (go_at_call 19; refine (HCk.out _ (by (with_reducible repeat first|exact HX1.out|exact eR _|apply eD|apply eN|apply eA|apply eO|apply eS|apply eC);all_goals first|omega|simp <;> omega)).mono ?_; rintro e w' ⟨rfl, hxl⟩; obtain ⟨xl, rfl⟩ := hxl.asLater; clear hxl)
  go_ret
  exact ⟨ret_int HR.out.symm, (by (with_reducible repeat first|exact HX1.out|exact eR _|apply eD|apply eN|apply eA|apply eO|apply eS|apply eC);all_goals first|omega|simp <;> omega)⟩
 | true =>
  rw [b1] at hn1
  by_cases b2 : x.cf.site = x.site
  ·have e2 : (x.cf.site != x.site) = false := by simpa using b2
   by_cases b3 : x.cf.epoch < e.num
   ·have e3 : decide (x.cf.epoch < e.num) = true := by simpa using b3
    have HR : Hid (O = 3) := lh (by rw [HO.out, b1, if_pos rfl, if_pos b2, if_pos b3])
    clear HO b2 b3
    refine wp_region_later (by kernel_rfl) (by kernel_rfl) ?_
    repeat (first | go_big_quiet_step ((go_at_call 58; exact quietE (HNm.out _ (by first | exact (by (with_reducible repeat first|exact HX1.out|exact eR _|apply eD|apply eN|apply eA|apply eO|apply eS|apply eC);all_goals first|omega|simp <;> omega) | exact (HX1.out.onto _))))) | quiet_step ((go_at_call 58; exact quietE (HNm.out _ (by first | exact (by (with_reducible repeat first|exact HX1.out|exact eR _|apply eD|apply eN|apply eA|apply eO|apply eS|apply eC);all_goals first|omega|simp <;> omega) | exact (HX1.out.onto _))))))
    refine wpQuiet_nil ?_
    rintro _ ⟨xq, rfl⟩
    go_wp2_with (go_at_call 19; refine (HCk.out _ (by (with_reducible repeat first|exact HX1.out|exact eR _|apply eD|apply eN|apply eA|apply eO|apply eS|apply eC);all_goals first|omega|simp <;> omega)).mono ?_; rintro e w' ⟨rfl, hxl⟩; obtain ⟨xl, rfl⟩ := hxl.asLater; clear hxl)
    go_ret
    exact ⟨ret_int HR.out.symm, (by (with_reducible repeat first|exact HX1.out|exact eR _|apply eD|apply eN|apply eA|apply eO|apply eS|apply eC);all_goals first|omega|simp <;> omega)⟩
   ·have e3 : decide (x.cf.epoch < e.num) = false := by simpa using b3
    by_cases b4 : x.cf.epoch = e.num
    ·have e4 : (x.cf.epoch == e.num) = true := by simpa using b4
     by_cases b5 : x.cf.name = N
     ·have e5 : decide (x.cf.name = N) = true := by simpa using b5
      have HR : Hid (O = C) := lh (by rw [HO.out, b1, if_pos rfl, if_pos b2, if_neg b3, if_pos b4, if_pos b5])
      rw [e5] at hn2
      clear HO b2 b3 b4 b5 e5
      refine wp_region_later (by kernel_rfl) (by kernel_rfl) ?_
      repeat (first | go_big_quiet_step ((go_at_call 58; exact quietE (HNm.out _ (by first | exact (by (with_reducible repeat first|exact HX1.out|exact eR _|apply eD|apply eN|apply eA|apply eO|apply eS|apply eC);all_goals first|omega|simp <;> omega) | exact (HX1.out.onto _))))) | quiet_step ((go_at_call 58; exact quietE (HNm.out _ (by first | exact (by (with_reducible repeat first|exact HX1.out|exact eR _|apply eD|apply eN|apply eA|apply eO|apply eS|apply eC);all_goals first|omega|simp <;> omega) | exact (HX1.out.onto _))))))
      refine wpQuiet_nil ?_
      rintro _ ⟨xq, rfl⟩
      go_wp2_with (go_at_call 19; refine (HCk.out _ (by (with_reducible repeat first|exact HX1.out|exact eR _|apply eD|apply eN|apply eA|apply eO|apply eS|apply eC);all_goals first|omega|simp <;> omega)).mono ?_; rintro e w' ⟨rfl, hxl⟩; obtain ⟨xl, rfl⟩ := hxl.asLater; clear hxl)
      go_ret
      exact ⟨ret_int HR.out.symm, (by (with_reducible repeat first|exact HX1.out|exact eR _|apply eD|apply eN|apply eA|apply eO|apply eS|apply eC);all_goals first|omega|simp <;> omega)⟩
     ·have e5 : decide (x.cf.name = N) = false := by simpa using b5
      have HR : Hid (O = 3) := lh (by rw [HO.out, b1, if_pos rfl, if_pos b2, if_neg b3, if_pos b4, if_neg b5])
      rw [e5] at hn2
      clear HO b2 b3 b4 b5 e5
      refine wp_region_later (by kernel_rfl) (by kernel_rfl) ?_
      repeat (first | go_big_quiet_step ((go_at_call 58; exact quietE (HNm.out _ (by first | exact (by (with_reducible repeat first|exact HX1.out|exact eR _|apply eD|apply eN|apply eA|apply eO|apply eS|apply eC);all_goals first|omega|simp <;> omega) | exact (HX1.out.onto _))))) | quiet_step ((go_at_call 58; exact quietE (HNm.out _ (by first | exact (by (with_reducible repeat first|exact HX1.out|exact eR _|apply eD|apply eN|apply eA|apply eO|apply eS|apply eC);all_goals first|omega|simp <;> omega) | exact (HX1.out.onto _))))))
      refine wpQuiet_nil ?_
      rintro _ ⟨xq, rfl⟩
      go_wp2_with (go_at_call 19; refine (HCk.out _ (by (with_reducible repeat first|exact HX1.out|exact eR _|apply eD|apply eN|apply eA|apply eO|apply eS|apply eC);all_goals first|omega|simp <;> omega)).mono ?_; rintro e w' ⟨rfl, hxl⟩; obtain ⟨xl, rfl⟩ := hxl.asLater; clear hxl)
      go_ret
      exact ⟨ret_int HR.out.symm, (by (with_reducible repeat first|exact HX1.out|exact eR _|apply eD|apply eN|apply eA|apply eO|apply eS|apply eC);all_goals first|omega|simp <;> omega)⟩
    ·have e4 : (x.cf.epoch == e.num) = false := by simpa using b4
     have HR : Hid (O = C) := lh (by rw [HO.out, b1, if_pos rfl, if_pos b2, if_neg b3, if_neg b4])
     clear HO b2 b3 b4
     refine wp_region_later (by kernel_rfl) (by kernel_rfl) ?_
     repeat (first | go_big_quiet_step ((go_at_call 58; exact quietE (HNm.out _ (by first | exact (by (with_reducible repeat first|exact HX1.out|exact eR _|apply eD|apply eN|apply eA|apply eO|apply eS|apply eC);all_goals first|omega|simp <;> omega) | exact (HX1.out.onto _))))) | quiet_step ((go_at_call 58; exact quietE (HNm.out _ (by first | exact (by (with_reducible repeat first|exact HX1.out|exact eR _|apply eD|apply eN|apply eA|apply eO|apply eS|apply eC);all_goals first|omega|simp <;> omega) | exact (HX1.out.onto _))))))
     refine wpQuiet_nil ?_
     rintro _ ⟨xq, rfl⟩
     go_wp2_with (go_at_call 19; refine (HCk.out _ (by (with_reducible repeat first|exact HX1.out|exact eR _|apply eD|apply eN|apply eA|apply eO|apply eS|apply eC);all_goals first|omega|simp <;> omega)).mono ?_; rintro e w' ⟨rfl, hxl⟩; obtain ⟨xl, rfl⟩ := hxl.asLater; clear hxl)
     go_ret
     exact ⟨ret_int HR.out.symm, (by (with_reducible repeat first|exact HX1.out|exact eR _|apply eD|apply eN|apply eA|apply eO|apply eS|apply eC);all_goals first|omega|simp <;> omega)⟩
  ·have e2 : (x.cf.site != x.site) = true := by simpa using b2
   have HR : Hid (O = 3) := lh (by rw [HO.out, b1, if_pos rfl, if_neg b2])
   clear HO b2
   refine wp_region_later (by kernel_rfl) (by kernel_rfl) ?_
   repeat (first | go_big_quiet_step ((go_at_call 58; exact quietE (HNm.out _ (by first | exact (by (with_reducible repeat first|exact HX1.out|exact eR _|apply eD|apply eN|apply eA|apply eO|apply eS|apply eC);all_goals first|omega|simp <;> omega) | exact (HX1.out.onto _))))) | quiet_step ((go_at_call 58; exact quietE (HNm.out _ (by first | exact (by (with_reducible repeat first|exact HX1.out|exact eR _|apply eD|apply eN|apply eA|apply eO|apply eS|apply eC);all_goals first|omega|simp <;> omega) | exact (HX1.out.onto _))))))
   refine wpQuiet_nil ?_
   rintro _ ⟨xq, rfl⟩
   go_wp2_with (go_at_call 19; refine (HCk.out _ (by (with_reducible repeat first|exact HX1.out|exact eR _|apply eD|apply eN|apply eA|apply eO|apply eS|apply eC);all_goals first|omega|simp <;> omega)).mono ?_; rintro e w' ⟨rfl, hxl⟩; obtain ⟨xl, rfl⟩ := hxl.asLater; clear hxl)
   go_ret
   exact ⟨ret_int HR.out.symm, (by (with_reducible repeat first|exact HX1.out|exact eR _|apply eD|apply eN|apply eA|apply eO|apply eS|apply eC);all_goals first|omega|simp <;> omega)⟩
theorem leased_any (Ar : Option Addr) (cr : Nat) (l : List Ky) (e : Ep) (p : Clk) (x : Ln) (w : World) (hg : RingOk l) (hrk : ReadsKy w w.heap.size Ar l) (hx : LnOk x) (hk : KonstP w) :
  Calls Tryz.prog 82 #[.slice Ar l.length cr, .agg (epC e), .agg (clkC p), .agg (lnC x)] w fun r w' => r = .returned (.int .i64 (wrongLe l e p.lo x)) ∧ Ext w w' := by
 have HCk := lh (fun (W : World) (hx' : Ext w W) => scheckLe_any Ar cr l x.le W hg (hrk.on hx') hx.le (RowAt.ext hk hx'))
 have hn1 := le_eql x.le noLe hx.le.sl zeros_ok
 have hn2 := cf_neq x.cf noCf hx.cf.name zeros_ok hx.cf.sl zeros_ok
 have HO : Hid (wrongLe l e p.lo x = if cfEq x.cf noCf = true then if leEq x.le noLe = true then 0 else if x.le.site = x.site then if e.num ≤ x.le.epoch then 3 else if checkLe l x.le = 0 then (if decide (x.le.until_ ≤ p.lo) = decide (x.kind = 2) then 0 else 9) else checkLe l x.le else 3 else 3) := lh rfl
 have hfe := ep_fits e
 have hfx := ln_fits x
 have hfl := le_fits x.le
 generalize wrongLe l e p.lo x = O at *
 generalize checkLe l x.le = C at *
 clear hg hrk hx hk
 obtain ⟨p0, p1⟩ := p
 go_enter Tryz.func82, Tryz.ntmps82
 go_upto_region 2 with (fail)
 refine wp_world (fun W => Ext w W ∧ RowAt W w.heap.size (epC e) ∧ RowAt W (w.heap.size + 1) #[.int .i64 p0, .int .i64 p1] ∧ RowAt W (w.heap.size + 1 + 1) (lnC x) ∧ RowAt W (w.heap.size + 1 + 1 + 1) (leC x.le)) ⟨(by (with_reducible repeat first|exact eR _|apply eD|apply eN|apply eA|apply eO|apply eS|apply eC);all_goals first|omega|simp <;> omega), ?_, ?_, ?_, ?_⟩ ?_
 ·exact ((((RowAt.new _ _ _).alloc _).alloc _).alloc _).others (by omega) _ _
 ·exact (((RowAt.newAt (by simp)).alloc _).alloc _).others (by omega) _ _
 ·exact ((RowAt.newAt (by simp)).alloc _).others (by omega) _ _
 ·exact (RowAt.newAt (by simp)).store rfl
 obtain ⟨B, hB⟩ : ∃ B, w.heap.size = B := ⟨_, rfl⟩
 rw [hB]
 rintro W1 ⟨x1, uE, uP, uX, uL⟩
 have HX1 := lh x1
 have hll := uL.lt
 have q1 : W1.cell? ⟨B, 0, none⟩ = some (.int .i64 e.num) := (uE.cell 0).trans (ep_g0 e)
 have p0' : W1.cell? ⟨B + 1, 0, none⟩ = some (.int .i64 p0) := uP.cell 0
 have q2 : W1.cell? ⟨B + 1 + 1, 0, none⟩ = some (.int .i64 x.site) := (uX.cell 0).trans (ln_g0 x)
 have q3 : W1.cell? ⟨B + 1 + 1, 1, none⟩ = some (.int .i64 x.kind) := (uX.cell 1).trans (ln_g1 x)
 have k2 : rowOf W1 (B + 1 + 1) 2 37 = some (cfC x.cf) := by rw [uX.row, if_neg (by omega), ln_s2_37]
 have k3 : rowOf W1 (B + 1 + 1 + 1) 0 20 = some (leC x.le) := uL.all rfl (by omega)
 have q4 : W1.cell? ⟨B + 1 + 1 + 1, 0, none⟩ = some (.int .i64 x.le.site) := (uL.cell 0).trans (le_g0 x.le)
 have q5 : W1.cell? ⟨B + 1 + 1 + 1, 1, none⟩ = some (.int .i64 x.le.epoch) := (uL.cell 1).trans (le_g1 x.le)
 have q6 : W1.cell? ⟨B + 1 + 1 + 1, 2, none⟩ = some (.int .i64 x.le.until_) := (uL.cell 2).trans (le_g2 x.le)
 clear x1 uE uP uX uL
 cases b1 : cfEq x.cf noCf with
 | false =>
  have HR : Hid (O = 3) := lh (by rw [HO.out, b1]; simp)
  rw [b1] at hn2
  clear HO
  go_wp2_with (go_at_call 83; refine (HCk.out _ (by (with_reducible repeat first|exact HX1.out|exact eR _|apply eD|apply eN|apply eA|apply eO|apply eS|apply eC);all_goals first|omega|simp <;> omega)).mono ?_; rintro e w' ⟨rfl, hxl⟩; obtain ⟨xl, rfl⟩ := hxl.asLater; clear hxl)
  go_ret
  exact ⟨ret_int HR.out.symm, (by (with_reducible repeat first|exact HX1.out|exact eR _|apply eD|apply eN|apply eA|apply eO|apply eS|apply eC);all_goals first|omega|simp <;> omega)⟩
 | true =>
  rw [b1] at hn2
  cases b2 : leEq x.le noLe with
  | true =>
   have HR : Hid (O = 0) := lh (by rw [HO.out, b1, b2]; simp)
   rw [b2] at hn1
   clear HO
   go_wp2_with (go_at_call 83; refine (HCk.out _ (by (with_reducible repeat first|exact HX1.out|exact eR _|apply eD|apply eN|apply eA|apply eO|apply eS|apply eC);all_goals first|omega|simp <;> omega)).mono ?_; rintro e w' ⟨rfl, hxl⟩; obtain ⟨xl, rfl⟩ := hxl.asLater; clear hxl)
   go_ret
   exact ⟨ret_int HR.out.symm, (by (with_reducible repeat first|exact HX1.out|exact eR _|apply eD|apply eN|apply eA|apply eO|apply eS|apply eC);all_goals first|omega|simp <;> omega)⟩
  | false =>
   rw [b2] at hn1
   by_cases b3 : x.le.site = x.site
   ·have e3 : (x.le.site != x.site) = false := by simpa using b3
    by_cases b4 : e.num ≤ x.le.epoch
    ·have e4 : decide (e.num ≤ x.le.epoch) = true := by simpa using b4
     have HR : Hid (O = 3) := lh (by rw [HO.out, b1, b2, if_pos rfl, if_neg (by decide), if_pos b3, if_pos b4])
     clear HO b3 b4
     go_wp2_with (go_at_call 83; refine (HCk.out _ (by (with_reducible repeat first|exact HX1.out|exact eR _|apply eD|apply eN|apply eA|apply eO|apply eS|apply eC);all_goals first|omega|simp <;> omega)).mono ?_; rintro e w' ⟨rfl, hxl⟩; obtain ⟨xl, rfl⟩ := hxl.asLater; clear hxl)
     go_ret
     exact ⟨ret_int HR.out.symm, (by (with_reducible repeat first|exact HX1.out|exact eR _|apply eD|apply eN|apply eA|apply eO|apply eS|apply eC);all_goals first|omega|simp <;> omega)⟩
    ·have e4 : decide (e.num ≤ x.le.epoch) = false := by simpa using b4
     by_cases b5 : C = 0
     ·have e5 : (C != 0) = false := by simpa using b5
      have HR0 : Hid (O = if decide (x.le.until_ ≤ p0) = decide (x.kind = 2) then 0 else 9) := lh (by rw [HO.out, b1, b2, if_pos rfl, if_neg (by decide), if_pos b3, if_neg b4, if_pos b5])
      clear HO b3 b4 b5
      by_cases c1 : x.le.until_ ≤ p0
      ·have f1 : decide (x.le.until_ ≤ p0) = true := by simpa using c1
       by_cases c2 : x.kind = 2
       ·have f2 : (x.kind == 2) = true := by simpa using c2
        have HR : Hid (O = 0) := lh (by rw [HR0.out, f1, decide_eq_true c2, if_pos rfl])
        clear HR0 c2
        go_wp2_with (go_at_call 83; refine (HCk.out _ (by (with_reducible repeat first|exact HX1.out|exact eR _|apply eD|apply eN|apply eA|apply eO|apply eS|apply eC);all_goals first|omega|simp <;> omega)).mono ?_; rintro e w' ⟨rfl, hxl⟩; obtain ⟨xl, rfl⟩ := hxl.asLater; clear hxl)
        go_ret
        exact ⟨ret_int HR.out.symm, (by (with_reducible repeat first|exact HX1.out|exact eR _|apply eD|apply eN|apply eA|apply eO|apply eS|apply eC);all_goals first|omega|simp <;> omega)⟩
       ·have f2 : (x.kind == 2) = false := by simpa using c2
        have HR : Hid (O = 9) := lh (by rw [HR0.out, f1, decide_eq_false c2, if_neg (by decide)])
        clear HR0 c2
        go_wp2_with (go_at_call 83; refine (HCk.out _ (by (with_reducible repeat first|exact HX1.out|exact eR _|apply eD|apply eN|apply eA|apply eO|apply eS|apply eC);all_goals first|omega|simp <;> omega)).mono ?_; rintro e w' ⟨rfl, hxl⟩; obtain ⟨xl, rfl⟩ := hxl.asLater; clear hxl)
        go_ret
        exact ⟨ret_int HR.out.symm, (by (with_reducible repeat first|exact HX1.out|exact eR _|apply eD|apply eN|apply eA|apply eO|apply eS|apply eC);all_goals first|omega|simp <;> omega)⟩
      ·have f1 : decide (x.le.until_ ≤ p0) = false := by simpa using c1
       by_cases c2 : x.kind = 2
       ·have f2 : (x.kind == 2) = true := by simpa using c2
        have HR : Hid (O = 9) := lh (by rw [HR0.out, f1, decide_eq_true c2, if_neg (by decide)])
        clear HR0 c2
        go_wp2_with (go_at_call 83; refine (HCk.out _ (by (with_reducible repeat first|exact HX1.out|exact eR _|apply eD|apply eN|apply eA|apply eO|apply eS|apply eC);all_goals first|omega|simp <;> omega)).mono ?_; rintro e w' ⟨rfl, hxl⟩; obtain ⟨xl, rfl⟩ := hxl.asLater; clear hxl)
        go_ret
        exact ⟨ret_int HR.out.symm, (by (with_reducible repeat first|exact HX1.out|exact eR _|apply eD|apply eN|apply eA|apply eO|apply eS|apply eC);all_goals first|omega|simp <;> omega)⟩
       ·have f2 : (x.kind == 2) = false := by simpa using c2
        have HR : Hid (O = 0) := lh (by rw [HR0.out, f1, decide_eq_false c2, if_pos rfl])
        clear HR0 c2
        go_wp2_with (go_at_call 83; refine (HCk.out _ (by (with_reducible repeat first|exact HX1.out|exact eR _|apply eD|apply eN|apply eA|apply eO|apply eS|apply eC);all_goals first|omega|simp <;> omega)).mono ?_; rintro e w' ⟨rfl, hxl⟩; obtain ⟨xl, rfl⟩ := hxl.asLater; clear hxl)
        go_ret
        exact ⟨ret_int HR.out.symm, (by (with_reducible repeat first|exact HX1.out|exact eR _|apply eD|apply eN|apply eA|apply eO|apply eS|apply eC);all_goals first|omega|simp <;> omega)⟩
     ·have e5 : (C != 0) = true := by simpa using b5
      have HR : Hid (O = C) := lh (by rw [HO.out, b1, b2, if_pos rfl, if_neg (by decide), if_pos b3, if_neg b4, if_neg b5])
      clear HO b3 b4 b5
      go_wp2_with (go_at_call 83; refine (HCk.out _ (by (with_reducible repeat first|exact HX1.out|exact eR _|apply eD|apply eN|apply eA|apply eO|apply eS|apply eC);all_goals first|omega|simp <;> omega)).mono ?_; rintro e w' ⟨rfl, hxl⟩; obtain ⟨xl, rfl⟩ := hxl.asLater; clear hxl)
      go_ret
      exact ⟨ret_int HR.out.symm, (by (with_reducible repeat first|exact HX1.out|exact eR _|apply eD|apply eN|apply eA|apply eO|apply eS|apply eC);all_goals first|omega|simp <;> omega)⟩
   ·have e3 : (x.le.site != x.site) = true := by simpa using b3
    have HR : Hid (O = 3) := lh (by rw [HO.out, b1, b2, if_pos rfl, if_neg (by decide), if_neg b3])
    clear HO b3
    go_wp2_with (go_at_call 83; refine (HCk.out _ (by (with_reducible repeat first|exact HX1.out|exact eR _|apply eD|apply eN|apply eA|apply eO|apply eS|apply eC);all_goals first|omega|simp <;> omega)).mono ?_; rintro e w' ⟨rfl, hxl⟩; obtain ⟨xl, rfl⟩ := hxl.asLater; clear hxl)
    go_ret
    exact ⟨ret_int HR.out.symm, (by (with_reducible repeat first|exact HX1.out|exact eR _|apply eD|apply eN|apply eA|apply eO|apply eS|apply eC);all_goals first|omega|simp <;> omega)⟩
noncomputable def wrongLn (l : List Ky) (e : Ep) (r : Rp) (k : Nat) : Int :=
 if siteB (r.lines.getD k noLn).site = true ∧ (k = 0 ∨ (r.lines.getD (k - 1) noLn).site < (r.lines.getD k noLn).site) then
  (if (r.lines.getD k noLn).kind = 1 then wrongCf l e (r.lines.getD k noLn) else if (r.lines.getD k noLn).kind = 2 ∨ (r.lines.getD k noLn).kind = 3 then wrongLe l e r.lo (r.lines.getD k noLn) else 3)
 else 3
def firstBad (f : Nat → Int) (n : Nat) : Int × Int := match (List.range n).find? (fun k => f k != 0) with
 | some k => ((k : Int), f k)
 | none => (-1, 0)
theorem firstBad_hit {f : Nat → Int} {n k : Nat} (hk : k < n) (h0 : ∀ i, i < k → f i = 0) (h1 : f k ≠ 0) : firstBad f n = ((k : Int), f k) := by
 have h : (List.range n).find? (fun k => f k != 0) = some k := by
  rw [List.find?_eq_some_iff_getElem]
  refine ⟨by simpa using h1, k, by simpa using hk, by simp, fun j hj => ?_⟩
  simp [h0 j hj]
 unfold firstBad
 rw [h]
theorem firstBad_none {f : Nat → Int} {n : Nat} (h0 : ∀ i, i < n → f i = 0) : firstBad f n = (-1, 0) := by
 have h : (List.range n).find? (fun k => f k != 0) = none := by
  rw [List.find?_eq_none]
  intro k hk
  simp only [List.mem_range] at hk
  simp [h0 k hk]
 unfold firstBad
 rw [h]
noncomputable def checkRp (l : List Ky) (e : Ep) (r : Rp) : Int × Int :=
 if r.epoch = e.num then if r.name = epName e then if okClk ⟨r.lo, r.hi⟩ = true then if checkR l 1 r.serial 321 (rpParts r) r.sl r.lo r.hi = 0 then firstBad (wrongLn l e r) r.lines.length else (-1, checkR l 1 r.serial 321 (rpParts r) r.sl r.lo r.hi) else (-1, 1) else (-1, 1) else (-1, 1)
theorem lnget {l : List Ln} {k : Nat} (h : k < l.length) : l.getD k noLn = l[k] := by rw [List.getD_eq_getElem?_getD, List.getElem?_eq_getElem h]; rfl
theorem acheck_any (Ar : Option Addr) (cr : Nat) (l : List Ky) (e : Ep) (r : Rp) (w : World) (hg : RingOk l) (hrk : ReadsKy w w.heap.size Ar l) (hok : EpOk e) (hs : EpShort e) (ha : EpAt w e) (hro : RpOk r) (hrl : r.lines.length ≤ 100000) (hra : Reads 59 lnL w w.heap.size r.LA r.lines) (hk : KonstP w) :
  Calls Tryz.prog 28 #[.slice Ar l.length cr, .agg (epC e), .agg (rpC r)] w fun o w' => o = .returned (.tuple #[.int .i64 (checkRp l e r).1, .int .i64 (checkRp l e r).2]) ∧ Ext w w' := by
 have HNm := lh (fun (W : World) (hx : Ext w W) => ename_any e W hok hs (ha.on hx) (RowAt.ext hk hx))
 have HCv : Hid (∀ W : World, Calls Tryz.prog 49 #[.agg #[.int .i64 r.lo, .int .i64 r.hi]] W fun e' w' => e' = .returned (.bool (okClk ⟨r.lo, r.hi⟩)) ∧ Ext W w') := lh (fun W => cvalid_any ⟨r.lo, r.hi⟩ W)
 have HWh := lh (fun (W : World) (hx : Ext w W) => whole_any r W hro hrl (hra.on hx))
 have hpl := rpParts_lens hro hrl
 have hser : i64 r.serial := hro.ints _ (by simp)
 have HCk := lh (fun (A : Option Addr) (c : Nat) (W : World) (h1 : ReadsStr W W.heap.size A (rpParts r)) (h2 : A = none → c = 0) (hx : Ext w W) => scheck_ring Ar cr l 1 r.serial 321 A c (rpParts r) r.sl r.lo r.hi W hg (hrk.on hx) (by unfold small40; omega) hser hro.sl h1 h2 (by omega) (RowAt.ext hk hx))
 have HSi := lh asite_any
 have HCf := lh (fun (k : Nat) (h : k < r.lines.length) (W : World) (hx : Ext w W) => confirmed_any Ar cr l e r.lines[k] W hg (hrk.on hx) hok hs (ha.on hx) (hro.lines _ (List.getElem_mem h)) (RowAt.ext hk hx))
 have HLe := lh (fun (k : Nat) (h : k < r.lines.length) (W : World) (hx : Ext w W) => leased_any Ar cr l e ⟨r.lo, r.hi⟩ r.lines[k] W hg (hrk.on hx) (hro.lines _ (List.getElem_mem h)) (RowAt.ext hk hx))
 have hn2 := neq_dg hro.name (⟨epName_len e, epName_byt e⟩ : DgOk (epName e))
 have HO : Hid (checkRp l e r = if r.epoch = e.num then if r.name = epName e then if okClk ⟨r.lo, r.hi⟩ = true then if checkR l 1 r.serial 321 (rpParts r) r.sl r.lo r.hi = 0 then firstBad (wrongLn l e r) r.lines.length else (-1, checkR l 1 r.serial 321 (rpParts r) r.sl r.lo r.hi) else (-1, 1) else (-1, 1) else (-1, 1)) := lh rfl
 have HRA := lh hra
 have hfe := ep_fits e
 have hfr := rp_fits r
 have hfN : fitsRow 16 (dgC (epName e)) = true := by simp [fitsRow, dgC, Value.oneCell']
 have hfn : fitsRow 16 (dgC r.name) = true := by simp [fitsRow, dgC, Value.oneCell']
 have hfs : fitsRow 16 (dgC r.sl) = true := by simp [fitsRow, dgC, Value.oneCell']
 have HF : Hid (∀ k (h : k < r.lines.length), wrongLn l e r k = if siteB r.lines[k].site = true ∧ (k = 0 ∨ (r.lines.getD (k - 1) noLn).site < r.lines[k].site) then (if r.lines[k].kind = 1 then wrongCf l e r.lines[k] else if r.lines[k].kind = 2 ∨ r.lines[k].kind = 3 then wrongLe l e r.lo r.lines[k] else 3) else 3) := lh (fun k h => by unfold wrongLn; rw [lnget h])
 generalize checkRp l e r = O at *
 generalize wrongLn l e r = F at *
 generalize epName e = N at *
 generalize checkR l 1 r.serial 321 (rpParts r) r.sl r.lo r.hi = C at *
 generalize okClk ⟨r.lo, r.hi⟩ = V at *
 clear hg hrk hok hs ha hro hra hk hpl hser
 go_enter Tryz.func28, Tryz.ntmps28
 go_wp2
 refine wp_world (fun W => Ext w W ∧ RowAt W w.heap.size (epC e) ∧ RowAt W (w.heap.size + 1) (rpC r)) ⟨(by (with_reducible repeat first|exact eR _|apply eD|apply eN|apply eA|apply eO|apply eS|apply eC);all_goals first|omega|simp <;> omega), (RowAt.new _ _ _).alloc _, RowAt.newAt (by simp)⟩ ?_
 obtain ⟨B, hB⟩ : ∃ B, w.heap.size = B := ⟨_, rfl⟩
 rw [hB]
 rintro W1 ⟨x1, uE, uR⟩
 have HX1 := lh x1
 have hlr := uR.lt
 have e1 : W1.cell? ⟨B, 0, none⟩ = some (.int .i64 e.num) := (uE.cell 0).trans (ep_g0 e)
 have e2 : rowOf W1 B 0 38 = some (epC e) := uE.all rfl (by omega)
 have r1 : W1.cell? ⟨B + 1, 0, none⟩ = some (.int .i64 r.epoch) := (uR.cell 0).trans (rp_g0 r)
 have r2 : rowOf W1 (B + 1) 1 16 = some (dgC r.name) := by rw [uR.row, if_neg (by omega), rp_s1_16]
 have r3 : W1.cell? ⟨B + 1, 17, none⟩ = some (.int .i64 r.lo) := (uR.cell 17).trans (rp_g17 r)
 have r4 : W1.cell? ⟨B + 1, 18, none⟩ = some (.int .i64 r.hi) := (uR.cell 18).trans (rp_g18 r)
 have HUE := lh uE
 have HUR := lh uR
 clear x1 uE uR
 by_cases b1 : r.epoch = e.num
 ·have d1 : (r.epoch != e.num) = false := by simpa using b1
  by_cases b2 : r.name = N
  ·have d2 : decide (r.name = N) = true := by simpa using b2
   rw [d2] at hn2
   cases V with
   | false =>
    have HR : Hid (O = (-1, 1)) := lh (by rw [HO.out, if_pos b1, if_pos b2]; simp)
    clear HO b1 b2 d2
    go_step3
    go_wp2
    refine wp_region_later (by kernel_rfl) (by kernel_rfl) ?_
    repeat (first | go_big_quiet_step ((first | (go_at_call 58; exact quietE (HNm.out _ (by first | exact (by (with_reducible repeat first|exact HX1.out|exact eR _|apply eD|apply eN|apply eA|apply eO|apply eS|apply eC);all_goals first|omega|simp <;> omega) | exact (HX1.out.onto _)))) | (go_at_call 49; exact quietE (HCv.out _)))) | quiet_step ((first | (go_at_call 58; exact quietE (HNm.out _ (by first | exact (by (with_reducible repeat first|exact HX1.out|exact eR _|apply eD|apply eN|apply eA|apply eO|apply eS|apply eC);all_goals first|omega|simp <;> omega) | exact (HX1.out.onto _)))) | (go_at_call 49; exact quietE (HCv.out _)))))
    refine wpQuiet_nil ?_
    rintro _ ⟨xq, rfl⟩
    go_wp2
    rw [Exit.noGoto_ret]
    refine bodyPost_ret (v := .tuple #[.int .i64 (-1), .int .i64 1]) ?_ rfl ⟨by rw [HR.out], (by (with_reducible repeat first|exact HX1.out|exact eR _|apply eD|apply eN|apply eA|apply eO|apply eS|apply eC);all_goals first|omega|simp <;> omega)⟩
    simp [results, Tryz.results28, go_sem, ↓IntWalk.iteOmega]
   | true =>
    have HO2 : Hid (O = if C = 0 then firstBad F r.lines.length else (-1, C)) := lh (by rw [HO.out, if_pos b1, if_pos b2, if_pos rfl])
    clear HO b1 b2 d2
    go_step3
    go_wp2
    refine wp_region_later (by kernel_rfl) (by kernel_rfl) ?_
    repeat (first | go_big_quiet_step ((first | (go_at_call 58; exact quietE (HNm.out _ (by first | exact (by (with_reducible repeat first|exact HX1.out|exact eR _|apply eD|apply eN|apply eA|apply eO|apply eS|apply eC);all_goals first|omega|simp <;> omega) | exact (HX1.out.onto _)))) | (go_at_call 49; exact quietE (HCv.out _)))) | quiet_step ((first | (go_at_call 58; exact quietE (HNm.out _ (by first | exact (by (with_reducible repeat first|exact HX1.out|exact eR _|apply eD|apply eN|apply eA|apply eO|apply eS|apply eC);all_goals first|omega|simp <;> omega) | exact (HX1.out.onto _)))) | (go_at_call 49; exact quietE (HCv.out _)))))
    refine wpQuiet_nil ?_
    rintro _ ⟨xq, rfl⟩
    go_upto_region 3 with (fail)
    refine wp_world (fun W => Ext W1 W) (by (with_reducible repeat first|exact eR _|apply eD|apply eN|apply eA|apply eO|apply eS|apply eC);all_goals first|omega|simp <;> omega) ?_
    clear e1 e2 r1 r2 r3 r4 d1 hn2 HCv HNm
    rintro W2 x2
    have HX2 := lh (HX1.out.trans x2)
    have HUE2 := lh (HUE.out.ext x2)
    have HUR2 := lh (HUR.out.ext x2)
    have hl2 := (HUR.out.ext x2).lt
    have s1 : W2.cell? ⟨B+1, 20, none⟩ = some (.int .i64 r.serial) := (HUR2.out.cell 20).trans (rp_g20 r)
    have s2 : rowOf W2 (B+1) 0 37 = some (rpC r) := HUR2.out.all rfl (by omega)
    have s3 : rowOf W2 (B+1) 21 16 = some (dgC r.sl) := by rw [HUR2.out.row, if_neg (by omega), rp_s21_16]
    have s4 : W2.cell? ⟨B+1, 17, none⟩ = some (.int .i64 r.lo) := (HUR2.out.cell 17).trans (rp_g17 r)
    have s5 : W2.cell? ⟨B+1, 18, none⟩ = some (.int .i64 r.hi) := (HUR2.out.cell 18).trans (rp_g18 r)
    clear x2 HUE HUR hlr HX1
    refine wp_region_soft 10 (softsL [.eq (.slice Ar l.length cr), .eq (.pointer (some ⟨B+1, 20, none⟩)), .eq (.int .i64 r.serial), .eq (.agg (rpC r)), readS (rpParts r), .eq (.pointer (some ⟨B+1, 21, none⟩)), .eq (.agg (dgC r.sl)), .eq (.pointer (some ⟨B+1, 17, none⟩)), .eq (.agg #[.int .i64 r.lo, .int .i64 r.hi]), .eq (.int .i64 C)]) (by kernel_rfl) (by kernel_rfl) (lt_cons ?_ (lt_cons ?_ (lt_cons ?_ (lt_cons ?_ (lt_cons ?_ (lt_cons ?_ (lt_cons ?_ (lt_cons ?_ (lt_cons ?_ (lt_cons ?_ (lt_none))))))))))) ?_
    any_goals (refine sop rfl fun xs W HW hsW HD Q' HQ => ?_; simp only [fillAt, dstOf, lc0, lcs, obs, Act.put, lsa, lsz, lss, nz, Nat.reduceAdd] at HQ ⊢)
    ·
     go_wp2
     exact HQ.out _ _ (eR _) rfl
    ·
     go_wp2
     exact HQ.out _ _ (eR _) rfl
    ·
     have hd1 : xs 1 = .pointer (some ⟨B+1, 20, none⟩) := (HD.out 1 (dk (by kernel_rfl)))
     generalize xs 1 = x1 at hd1 HQ ⊢; subst hd1
     have hc : W.cell? ⟨B+1, 20, none⟩ = some (.int .i64 r.serial) := (HW.out.cell (p := ⟨B+1, 20, none⟩) (by show B+1 < _; omega)).trans s1
     go_wp2
     exact HQ.out _ _ (eR _) rfl
    ·
     have hc := (row_extW HW.out (b := B+1) (by omega) 0 37).trans s2
     go_wp2
     exact HQ.out _ _ (eR _) rfl
    ·
     have hd3 : xs 3 = .agg (rpC r) := (HD.out 3 (dk (by kernel_rfl)))
     generalize xs 3 = x3 at hd3 HQ ⊢; subst hd3
     go_wp2_with (go_at_call 76; refine (HWh.out _ (HX2.out.trans HW.out)).mono ?_; rintro e w1 ⟨A, c, rfl, h1, h2, hx⟩)
     exact HQ.out _ _ hx ⟨A, c, rfl, h1, h2⟩
    ·
     go_wp2
     exact HQ.out _ _ (eR _) rfl
    ·
     have hd5 : xs 5 = .pointer (some ⟨B+1, 21, none⟩) := (HD.out 5 (dk (by kernel_rfl)))
     generalize xs 5 = x5 at hd5 HQ ⊢; subst hd5
     have hc := (row_extW HW.out (b := B+1) (by omega) 21 16).trans s3
     go_wp2
     exact HQ.out _ _ (eR _) rfl
    ·
     go_wp2
     exact HQ.out _ _ (eR _) rfl
    ·
     have hd7 : xs 7 = .pointer (some ⟨B+1, 17, none⟩) := (HD.out 7 (dk (by kernel_rfl)))
     generalize xs 7 = x7 at hd7 HQ ⊢; subst hd7
     have hc := (HW.out.cell (p := ⟨B+1, 17, none⟩) (by show B+1 < _; omega)).trans s4
     have hc2 := (HW.out.cell (p := ⟨B+1, 18, none⟩) (by show B+1 < _; omega)).trans s5
     go_wp2
     exact HQ.out _ _ (eR _) rfl
    ·
     have hd0 : xs 0 = .slice Ar l.length cr := (HD.out 0 (dk (by kernel_rfl)))
     generalize xs 0 = x0 at hd0 HQ ⊢; subst hd0
     have hd2 : xs 2 = .int .i64 r.serial := (HD.out 2 (dk (by kernel_rfl)))
     generalize xs 2 = x2 at hd2 HQ ⊢; subst hd2
     obtain ⟨A4, c4, h4, hr4, hz4⟩ : (readS (rpParts r)).S (xs 4) W := (HD.out 4 (dk (by kernel_rfl)))
     generalize xs 4 = x4 at h4 HQ ⊢; subst h4
     have hd6 : xs 6 = .agg (dgC r.sl) := (HD.out 6 (dk (by kernel_rfl)))
     generalize xs 6 = x6 at hd6 HQ ⊢; subst hd6
     have hd8 : xs 8 = .agg #[.int .i64 r.lo, .int .i64 r.hi] := (HD.out 8 (dk (by kernel_rfl)))
     generalize xs 8 = x8 at hd8 HQ ⊢; subst hd8
     go_wp2_with (go_at_call 65; refine (HCk.out A4 c4 _ hr4 hz4 (HX2.out.trans HW.out)).mono ?_; rintro e w1 ⟨rfl, hx⟩)
     exact HQ.out _ _ hx rfl
    intro xs W3 hW hS
    have h9 : xs 9 = .int .i64 C := hS 9 (by omega)
    simp only [fillAt, dstOf, lc0, lcs, obs, Act.put, lsa, lsz, lss, nz, Nat.reduceAdd, List.drop_succ_cons, List.drop_zero, List.drop_nil]
    generalize xs 9 = x9 at *; subst h9
    have HW3 := lh (HX2.out.trans hW)
    have HWW3 := lh hW
    clear hS hW s1 s2 s3 s4 s5
    have HUE3 := lh (HUE2.out.ext HWW3.out)
    have HUR3 := lh (HUR2.out.ext HWW3.out)
    have hl3 := HUR3.out.lt
    clear HUE2 HUR2 HWh HCk
    by_cases hC : C = 0
    ·have HO3 : Hid (O = firstBad F r.lines.length) := lh (by rw [HO2.out, if_pos hC])
     subst hC
     have t19 : W3.cell? ⟨B+1, 19, none⟩ = some (.slice r.LA r.lines.length r.lc) := (HUR3.out.cell 19).trans (rp_g19 r)
     clear HO2
     obtain ⟨LA, hLA⟩ : ∃ A, r.LA = A := ⟨_, rfl⟩
     have HLA : Hid (some (Value.slice r.LA r.lines.length r.lc) = some (Value.slice LA r.lines.length r.lc)) := lh (by rw [hLA])
     rw [hLA] at t19 HRA
     clear hLA
     go_wp2
     go_step3
     go_wp2
     go_loopw [10, 47] (fun t i wr => ∃ k : Nat, k ≤ r.lines.length ∧ t = .int .i64 0 ∧ i = .int .i64 k ∧ Hid (∀ j, j < k → F j = 0) ∧ Hid (Ext W3 wr)) (fun _ i _ => r.lines.length - (intOf i).toNat)
     case atStart => exact ⟨0, Nat.zero_le _, rfl, rfl, lh (fun j h => absurd h (by omega)), lh (eR _)⟩
     case round =>
      obtain ⟨k, hk, rfl, rfl, HK, HX⟩ := hrel
      have hsz := HX.out.size
      by_cases hlt : k < r.lines.length
      ·obtain ⟨b, off, rfl, hb, hrow⟩ := reads_row lnE (HRA.out.ext (HW3.out.trans HX.out) (Nat.le_refl _)) k hlt
       have hb2 : b < wr.heap.size := by have := HW3.out.size; omega
       have HPv : Hid (0 < k → wr.cell? ⟨b, off + (k - 1) * 59, none⟩ = some (.int .i64 (r.lines.getD (k - 1) noLn).site)) := lh (fun h => by
        obtain ⟨b', off', e1, _, hrp⟩ := reads_row lnE (HRA.out.ext (HW3.out.trans HX.out) (Nat.le_refl _)) (k - 1) (by omega)
        injection e1 with e1
        injection e1 with e1 e2
        subst e1 e2
        rw [lnget (by omega)]
        exact (rowOf_cell hrp (i := 0) (by omega)).trans (ln_g0 _))
       have HFk := lh (HF.out k hlt)
       have HHit := lh (fun (h : F k ≠ 0) => firstBad_hit hlt HK.out h)
       have HNx := lh (fun (h : F k = 0) => show ∀ j, j < k + 1 → F j = 0 from fun j hj => by
        by_cases e : j = k
        ·subst e; exact h
        ·exact HK.out j (by omega))
       have HCf1 := lh (HCf.out k hlt)
       have HLe1 := lh (HLe.out k hlt)
       have HSi1 := lh (HSi.out r.lines[k].site)
       change rowOf wr b (off + k * 59) 59 = some (lnC r.lines[k]) at hrow
       have hfx := ln_fits r.lines[k]
       generalize (r.lines.getD (k - 1) noLn).site = pv at *
       generalize r.lines[k] = x at *
       generalize hfk : F k = fk at *
       clear HF HCf HLe HSi hfk
       go_upto_region 11 with (fail)
       refine wp_world (fun W => Ext wr W ∧ RowAt W wr.heap.size (lnC x)) ⟨(by (with_reducible repeat first|exact eR _|apply eD|apply eN|apply eA|apply eO|apply eS|apply eC);all_goals first|omega|simp <;> omega), (RowAt.newAt (by simp)).store rfl⟩ ?_
       generalize hq : wr.heap.size = q
       rintro W5 ⟨x5, uX⟩
       have HX5 := lh (HX.out.trans x5)
       have HX6 := lh (HW3.out.trans HX5.out)
       have hs5 := x5.size
       have hl5 := uX.lt
       have uE := HUE3.out.ext HX5.out
       have uR := HUR3.out.ext HX5.out
       have hlR := uR.lt
       have q1 : W5.cell? ⟨q, 0, none⟩ = some (.int .i64 x.site) := (uX.cell 0).trans (ln_g0 x)
       have q2 : W5.cell? ⟨q, 1, none⟩ = some (.int .i64 x.kind) := (uX.cell 1).trans (ln_g1 x)
       have q3 : rowOf W5 q 0 59 = some (lnC x) := uX.all rfl (by omega)
       have q4 : rowOf W5 B 0 38 = some (epC e) := uE.all rfl (by omega)
       have q5 : W5.cell? ⟨B + 1, 19, none⟩ = some (.slice (some ⟨b, off, none⟩) r.lines.length r.lc) := (uR.cell 19).trans ((rp_g19 r).trans HLA.out)
       have q6 : W5.cell? ⟨B + 1, 17, none⟩ = some (.int .i64 r.lo) := (uR.cell 17).trans (rp_g17 r)
       have q7 : W5.cell? ⟨B + 1, 18, none⟩ = some (.int .i64 r.hi) := (uR.cell 18).trans (rp_g18 r)
       have HPv5 : Hid (0 < k → W5.cell? ⟨b, off + (k - 1) * 59, none⟩ = some (.int .i64 pv)) := lh (fun h => (x5.cell (p := ⟨b, off + (k - 1) * 59, none⟩) hb2).trans (HPv.out h))
       have hb5 : b < W5.heap.size := by omega
       clear uX uE uR x5 hrow HPv t19
       cases bs : siteB x.site with
       | false =>
        have HR : Hid (O = ((k : Int), 3)) := lh (by
         have h3 : fk = 3 := by rw [HFk.out, if_neg (fun h => by rw [bs] at h; cases h.1)]
         rw [HO3.out, HHit.out (by rw [h3]; decide), h3])
        rw [bs] at HSi1
        clear HFk HHit HNx HPv5 bs
        refine wp_region_later (by kernel_rfl) (by kernel_rfl) ?_
        repeat (first | go_big_quiet_step ((go_at_call 56; exact quietE (HSi1.out _))) | quiet_step ((go_at_call 56; exact quietE (HSi1.out _))))
        refine wpQuiet_nil ?_
        rintro _ ⟨xq, rfl⟩
        go_wp2
        rw [Exit.noGoto_ret]
        refine bodyPost_ret (v := .tuple #[.int .i64 k, .int .i64 3]) ?_ rfl ⟨by rw [HR.out], (by (with_reducible repeat first|exact HX6.out|exact eR _|apply eD|apply eN|apply eA|apply eO|apply eS|apply eC);all_goals first|omega|simp <;> omega)⟩
        simp [results, Tryz.results28, go_sem, ↓IntWalk.iteOmega]
       | true =>
        rw [bs] at HSi1
        by_cases hbad : 0 < k ∧ x.site ≤ pv
        ·obtain ⟨k0, k1⟩ := hbad
         have HR : Hid (O = ((k : Int), 3)) := lh (by
          have h3 : fk = 3 := by rw [HFk.out, if_neg (fun h => by rcases h.2 with h | h <;> omega)]
          rw [HO3.out, HHit.out (by rw [h3]; decide), h3])
         have hpv := HPv5.out k0
         have d0 : decide (0 < (k : Int)) = true := by simp; omega
         have d00 : decide (0 < k) = true := by simp; omega
         have d1 : decide (x.site ≤ pv) = true := by simpa using k1
         clear HFk HHit HNx HPv5 bs
         refine wp_region_later (by kernel_rfl) (by kernel_rfl) ?_
         repeat (first | go_big_quiet_step ((go_at_call 56; exact quietE (HSi1.out _))) | quiet_step ((go_at_call 56; exact quietE (HSi1.out _))))
         refine wpQuiet_nil ?_
         rintro _ ⟨xq, rfl⟩
         go_wp2
         rw [Exit.noGoto_ret]
         refine bodyPost_ret (v := .tuple #[.int .i64 k, .int .i64 3]) ?_ rfl ⟨by rw [HR.out], (by (with_reducible repeat first|exact HX6.out|exact eR _|apply eD|apply eN|apply eA|apply eO|apply eS|apply eC);all_goals first|omega|simp <;> omega)⟩
         simp [results, Tryz.results28, go_sem, ↓IntWalk.iteOmega]
        ·have HF2 : Hid (fk = if x.kind = 1 then wrongCf l e x else if x.kind = 2 ∨ x.kind = 3 then wrongLe l e r.lo x else 3) := lh (by rw [HFk.out, if_pos ⟨bs, by omega⟩])
         generalize wrongCf l e x = wc at *
         generalize wrongLe l e r.lo x = wl at *
         clear HFk bs
         by_cases k0 : 0 < k
         ·have hpv := HPv5.out k0
          have d0 : decide (0 < (k : Int)) = true := by simp; omega
          have d00 : decide (0 < k) = true := by simp; omega
          have d1 : decide (x.site ≤ pv) = false := by simp; omega
          clear HPv5 hbad
          by_cases k1 : x.kind = 1
          ·have f1 : (x.kind == 1) = true := by simpa using k1
           have HF3 : Hid (fk = wc) := lh (by rw [HF2.out, if_pos k1])
           clear HF2 k1
           by_cases hw : wc = 0
           ·have HNx1 := lh (HNx.out (HF3.out.trans hw))
            have d9 : (wc != 0) = false := by simpa using hw
            subst hw
            clear HF3 HHit HNx
            refine wp_region_later (by kernel_rfl) (by kernel_rfl) ?_
            repeat (first | go_big_quiet_step ((go_at_call 56; exact quietE (HSi1.out _))) | quiet_step ((go_at_call 56; exact quietE (HSi1.out _))))
            refine wpQuiet_nil ?_
            rintro _ ⟨xq, rfl⟩
            go_wp2_with (go_at_call 81; refine (HCf1.out _ (by (with_reducible repeat first|exact HX6.out|exact eR _|apply eD|apply eN|apply eA|apply eO|apply eS|apply eC);all_goals first|omega|simp <;> omega)).mono ?_; rintro o w' ⟨rfl, hxl⟩; obtain ⟨xm, rfl⟩ := hxl.asLater; clear hxl)
            go_roundw
            case rel => exact ⟨k + 1, by omega, rfl, by go_num, HNx1, lh (by (with_reducible repeat first|exact HX5.out|exact eR _|apply eD|apply eN|apply eA|apply eO|apply eS|apply eC);all_goals first|omega|simp <;> omega)⟩
            case measure => simp [intOf]; omega
           ·have HR : Hid (O = ((k : Int), wc)) := lh (by rw [HO3.out, HHit.out (by rw [HF3.out]; exact hw), HF3.out])
            have d9 : (wc != 0) = true := by simpa using hw
            clear HF3 HHit HNx hw
            refine wp_region_later (by kernel_rfl) (by kernel_rfl) ?_
            repeat (first | go_big_quiet_step ((go_at_call 56; exact quietE (HSi1.out _))) | quiet_step ((go_at_call 56; exact quietE (HSi1.out _))))
            refine wpQuiet_nil ?_
            rintro _ ⟨xq, rfl⟩
            go_wp2_with (go_at_call 81; refine (HCf1.out _ (by (with_reducible repeat first|exact HX6.out|exact eR _|apply eD|apply eN|apply eA|apply eO|apply eS|apply eC);all_goals first|omega|simp <;> omega)).mono ?_; rintro o w' ⟨rfl, hxl⟩; obtain ⟨xm, rfl⟩ := hxl.asLater; clear hxl)
            rw [Exit.noGoto_ret]
            refine bodyPost_ret (v := .tuple #[.int .i64 k, .int .i64 wc]) ?_ rfl ⟨by rw [HR.out], (by (with_reducible repeat first|exact HX6.out|exact eR _|apply eD|apply eN|apply eA|apply eO|apply eS|apply eC);all_goals first|omega|simp <;> omega)⟩
            simp [results, Tryz.results28, go_sem, ↓IntWalk.iteOmega]
          have f1 : (x.kind == 1) = false := by simpa using k1
          by_cases k2 : x.kind = 2
          ·have f2 : (x.kind == 2) = true := by simpa using k2
           have HF3 : Hid (fk = wl) := lh (by rw [HF2.out, if_neg k1, if_pos (.inl k2)])
           clear HF2 k1 k2
           by_cases hw : wl = 0
           ·have HNx1 := lh (HNx.out (HF3.out.trans hw))
            have d9 : (wl != 0) = false := by simpa using hw
            subst hw
            clear HF3 HHit HNx
            refine wp_region_later (by kernel_rfl) (by kernel_rfl) ?_
            repeat (first | go_big_quiet_step ((go_at_call 56; exact quietE (HSi1.out _))) | quiet_step ((go_at_call 56; exact quietE (HSi1.out _))))
            refine wpQuiet_nil ?_
            rintro _ ⟨xq, rfl⟩
            go_wp2_with (go_at_call 82; refine (HLe1.out _ (by (with_reducible repeat first|exact HX6.out|exact eR _|apply eD|apply eN|apply eA|apply eO|apply eS|apply eC);all_goals first|omega|simp <;> omega)).mono ?_; rintro o w' ⟨rfl, hxl⟩; obtain ⟨xm, rfl⟩ := hxl.asLater; clear hxl)
            go_roundw
            case rel => exact ⟨k + 1, by omega, rfl, by go_num, HNx1, lh (by (with_reducible repeat first|exact HX5.out|exact eR _|apply eD|apply eN|apply eA|apply eO|apply eS|apply eC);all_goals first|omega|simp <;> omega)⟩
            case measure => simp [intOf]; omega
           ·have HR : Hid (O = ((k : Int), wl)) := lh (by rw [HO3.out, HHit.out (by rw [HF3.out]; exact hw), HF3.out])
            have d9 : (wl != 0) = true := by simpa using hw
            clear HF3 HHit HNx hw
            refine wp_region_later (by kernel_rfl) (by kernel_rfl) ?_
            repeat (first | go_big_quiet_step ((go_at_call 56; exact quietE (HSi1.out _))) | quiet_step ((go_at_call 56; exact quietE (HSi1.out _))))
            refine wpQuiet_nil ?_
            rintro _ ⟨xq, rfl⟩
            go_wp2_with (go_at_call 82; refine (HLe1.out _ (by (with_reducible repeat first|exact HX6.out|exact eR _|apply eD|apply eN|apply eA|apply eO|apply eS|apply eC);all_goals first|omega|simp <;> omega)).mono ?_; rintro o w' ⟨rfl, hxl⟩; obtain ⟨xm, rfl⟩ := hxl.asLater; clear hxl)
            rw [Exit.noGoto_ret]
            refine bodyPost_ret (v := .tuple #[.int .i64 k, .int .i64 wl]) ?_ rfl ⟨by rw [HR.out], (by (with_reducible repeat first|exact HX6.out|exact eR _|apply eD|apply eN|apply eA|apply eO|apply eS|apply eC);all_goals first|omega|simp <;> omega)⟩
            simp [results, Tryz.results28, go_sem, ↓IntWalk.iteOmega]
          have f2 : (x.kind == 2) = false := by simpa using k2
          by_cases k3 : x.kind = 3
          ·have f3 : (x.kind == 3) = true := by simpa using k3
           have HF3 : Hid (fk = wl) := lh (by rw [HF2.out, if_neg k1, if_pos (.inr k3)])
           clear HF2 k1 k2 k3
           by_cases hw : wl = 0
           ·have HNx1 := lh (HNx.out (HF3.out.trans hw))
            have d9 : (wl != 0) = false := by simpa using hw
            subst hw
            clear HF3 HHit HNx
            refine wp_region_later (by kernel_rfl) (by kernel_rfl) ?_
            repeat (first | go_big_quiet_step ((go_at_call 56; exact quietE (HSi1.out _))) | quiet_step ((go_at_call 56; exact quietE (HSi1.out _))))
            refine wpQuiet_nil ?_
            rintro _ ⟨xq, rfl⟩
            go_wp2_with (go_at_call 82; refine (HLe1.out _ (by (with_reducible repeat first|exact HX6.out|exact eR _|apply eD|apply eN|apply eA|apply eO|apply eS|apply eC);all_goals first|omega|simp <;> omega)).mono ?_; rintro o w' ⟨rfl, hxl⟩; obtain ⟨xm, rfl⟩ := hxl.asLater; clear hxl)
            go_roundw
            case rel => exact ⟨k + 1, by omega, rfl, by go_num, HNx1, lh (by (with_reducible repeat first|exact HX5.out|exact eR _|apply eD|apply eN|apply eA|apply eO|apply eS|apply eC);all_goals first|omega|simp <;> omega)⟩
            case measure => simp [intOf]; omega
           ·have HR : Hid (O = ((k : Int), wl)) := lh (by rw [HO3.out, HHit.out (by rw [HF3.out]; exact hw), HF3.out])
            have d9 : (wl != 0) = true := by simpa using hw
            clear HF3 HHit HNx hw
            refine wp_region_later (by kernel_rfl) (by kernel_rfl) ?_
            repeat (first | go_big_quiet_step ((go_at_call 56; exact quietE (HSi1.out _))) | quiet_step ((go_at_call 56; exact quietE (HSi1.out _))))
            refine wpQuiet_nil ?_
            rintro _ ⟨xq, rfl⟩
            go_wp2_with (go_at_call 82; refine (HLe1.out _ (by (with_reducible repeat first|exact HX6.out|exact eR _|apply eD|apply eN|apply eA|apply eO|apply eS|apply eC);all_goals first|omega|simp <;> omega)).mono ?_; rintro o w' ⟨rfl, hxl⟩; obtain ⟨xm, rfl⟩ := hxl.asLater; clear hxl)
            rw [Exit.noGoto_ret]
            refine bodyPost_ret (v := .tuple #[.int .i64 k, .int .i64 wl]) ?_ rfl ⟨by rw [HR.out], (by (with_reducible repeat first|exact HX6.out|exact eR _|apply eD|apply eN|apply eA|apply eO|apply eS|apply eC);all_goals first|omega|simp <;> omega)⟩
            simp [results, Tryz.results28, go_sem, ↓IntWalk.iteOmega]
          have f3 : (x.kind == 3) = false := by simpa using k3
          have HR : Hid (O = ((k : Int), 3)) := lh (by
           have h3 : fk = 3 := by rw [HF2.out, if_neg k1, if_neg (by omega)]
           rw [HO3.out, HHit.out (by rw [h3]; decide), h3])
          clear HF2 HHit HNx k1 k2 k3
          refine wp_region_later (by kernel_rfl) (by kernel_rfl) ?_
          repeat (first | go_big_quiet_step ((go_at_call 56; exact quietE (HSi1.out _))) | quiet_step ((go_at_call 56; exact quietE (HSi1.out _))))
          refine wpQuiet_nil ?_
          rintro _ ⟨xq, rfl⟩
          go_wp2
          rw [Exit.noGoto_ret]
          refine bodyPost_ret (v := .tuple #[.int .i64 k, .int .i64 3]) ?_ rfl ⟨by rw [HR.out], (by (with_reducible repeat first|exact HX6.out|exact eR _|apply eD|apply eN|apply eA|apply eO|apply eS|apply eC);all_goals first|omega|simp <;> omega)⟩
          simp [results, Tryz.results28, go_sem, ↓IntWalk.iteOmega]
         ·have d0 : decide (0 < (k : Int)) = false := by simp; omega
          have d00 : decide (0 < k) = false := by simp; omega
          clear HPv5 hbad k0
          by_cases k1 : x.kind = 1
          ·have f1 : (x.kind == 1) = true := by simpa using k1
           have HF3 : Hid (fk = wc) := lh (by rw [HF2.out, if_pos k1])
           clear HF2 k1
           by_cases hw : wc = 0
           ·have HNx1 := lh (HNx.out (HF3.out.trans hw))
            have d9 : (wc != 0) = false := by simpa using hw
            subst hw
            clear HF3 HHit HNx
            refine wp_region_later (by kernel_rfl) (by kernel_rfl) ?_
            repeat (first | go_big_quiet_step ((go_at_call 56; exact quietE (HSi1.out _))) | quiet_step ((go_at_call 56; exact quietE (HSi1.out _))))
            refine wpQuiet_nil ?_
            rintro _ ⟨xq, rfl⟩
            go_wp2_with (go_at_call 81; refine (HCf1.out _ (by (with_reducible repeat first|exact HX6.out|exact eR _|apply eD|apply eN|apply eA|apply eO|apply eS|apply eC);all_goals first|omega|simp <;> omega)).mono ?_; rintro o w' ⟨rfl, hxl⟩; obtain ⟨xm, rfl⟩ := hxl.asLater; clear hxl)
            go_roundw
            case rel => exact ⟨k + 1, by omega, rfl, by go_num, HNx1, lh (by (with_reducible repeat first|exact HX5.out|exact eR _|apply eD|apply eN|apply eA|apply eO|apply eS|apply eC);all_goals first|omega|simp <;> omega)⟩
            case measure => simp [intOf]; omega
           ·have HR : Hid (O = ((k : Int), wc)) := lh (by rw [HO3.out, HHit.out (by rw [HF3.out]; exact hw), HF3.out])
            have d9 : (wc != 0) = true := by simpa using hw
            clear HF3 HHit HNx hw
            refine wp_region_later (by kernel_rfl) (by kernel_rfl) ?_
            repeat (first | go_big_quiet_step ((go_at_call 56; exact quietE (HSi1.out _))) | quiet_step ((go_at_call 56; exact quietE (HSi1.out _))))
            refine wpQuiet_nil ?_
            rintro _ ⟨xq, rfl⟩
            go_wp2_with (go_at_call 81; refine (HCf1.out _ (by (with_reducible repeat first|exact HX6.out|exact eR _|apply eD|apply eN|apply eA|apply eO|apply eS|apply eC);all_goals first|omega|simp <;> omega)).mono ?_; rintro o w' ⟨rfl, hxl⟩; obtain ⟨xm, rfl⟩ := hxl.asLater; clear hxl)
            rw [Exit.noGoto_ret]
            refine bodyPost_ret (v := .tuple #[.int .i64 k, .int .i64 wc]) ?_ rfl ⟨by rw [HR.out], (by (with_reducible repeat first|exact HX6.out|exact eR _|apply eD|apply eN|apply eA|apply eO|apply eS|apply eC);all_goals first|omega|simp <;> omega)⟩
            simp [results, Tryz.results28, go_sem, ↓IntWalk.iteOmega]
          have f1 : (x.kind == 1) = false := by simpa using k1
          by_cases k2 : x.kind = 2
          ·have f2 : (x.kind == 2) = true := by simpa using k2
           have HF3 : Hid (fk = wl) := lh (by rw [HF2.out, if_neg k1, if_pos (.inl k2)])
           clear HF2 k1 k2
           by_cases hw : wl = 0
           ·have HNx1 := lh (HNx.out (HF3.out.trans hw))
            have d9 : (wl != 0) = false := by simpa using hw
            subst hw
            clear HF3 HHit HNx
            refine wp_region_later (by kernel_rfl) (by kernel_rfl) ?_
            repeat (first | go_big_quiet_step ((go_at_call 56; exact quietE (HSi1.out _))) | quiet_step ((go_at_call 56; exact quietE (HSi1.out _))))
            refine wpQuiet_nil ?_
            rintro _ ⟨xq, rfl⟩
            go_wp2_with (go_at_call 82; refine (HLe1.out _ (by (with_reducible repeat first|exact HX6.out|exact eR _|apply eD|apply eN|apply eA|apply eO|apply eS|apply eC);all_goals first|omega|simp <;> omega)).mono ?_; rintro o w' ⟨rfl, hxl⟩; obtain ⟨xm, rfl⟩ := hxl.asLater; clear hxl)
            go_roundw
            case rel => exact ⟨k + 1, by omega, rfl, by go_num, HNx1, lh (by (with_reducible repeat first|exact HX5.out|exact eR _|apply eD|apply eN|apply eA|apply eO|apply eS|apply eC);all_goals first|omega|simp <;> omega)⟩
            case measure => simp [intOf]; omega
           ·have HR : Hid (O = ((k : Int), wl)) := lh (by rw [HO3.out, HHit.out (by rw [HF3.out]; exact hw), HF3.out])
            have d9 : (wl != 0) = true := by simpa using hw
            clear HF3 HHit HNx hw
            refine wp_region_later (by kernel_rfl) (by kernel_rfl) ?_
            repeat (first | go_big_quiet_step ((go_at_call 56; exact quietE (HSi1.out _))) | quiet_step ((go_at_call 56; exact quietE (HSi1.out _))))
            refine wpQuiet_nil ?_
            rintro _ ⟨xq, rfl⟩
            go_wp2_with (go_at_call 82; refine (HLe1.out _ (by (with_reducible repeat first|exact HX6.out|exact eR _|apply eD|apply eN|apply eA|apply eO|apply eS|apply eC);all_goals first|omega|simp <;> omega)).mono ?_; rintro o w' ⟨rfl, hxl⟩; obtain ⟨xm, rfl⟩ := hxl.asLater; clear hxl)
            rw [Exit.noGoto_ret]
            refine bodyPost_ret (v := .tuple #[.int .i64 k, .int .i64 wl]) ?_ rfl ⟨by rw [HR.out], (by (with_reducible repeat first|exact HX6.out|exact eR _|apply eD|apply eN|apply eA|apply eO|apply eS|apply eC);all_goals first|omega|simp <;> omega)⟩
            simp [results, Tryz.results28, go_sem, ↓IntWalk.iteOmega]
          have f2 : (x.kind == 2) = false := by simpa using k2
          by_cases k3 : x.kind = 3
          ·have f3 : (x.kind == 3) = true := by simpa using k3
           have HF3 : Hid (fk = wl) := lh (by rw [HF2.out, if_neg k1, if_pos (.inr k3)])
           clear HF2 k1 k2 k3
           by_cases hw : wl = 0
           ·have HNx1 := lh (HNx.out (HF3.out.trans hw))
            have d9 : (wl != 0) = false := by simpa using hw
            subst hw
            clear HF3 HHit HNx
            refine wp_region_later (by kernel_rfl) (by kernel_rfl) ?_
            repeat (first | go_big_quiet_step ((go_at_call 56; exact quietE (HSi1.out _))) | quiet_step ((go_at_call 56; exact quietE (HSi1.out _))))
            refine wpQuiet_nil ?_
            rintro _ ⟨xq, rfl⟩
            go_wp2_with (go_at_call 82; refine (HLe1.out _ (by (with_reducible repeat first|exact HX6.out|exact eR _|apply eD|apply eN|apply eA|apply eO|apply eS|apply eC);all_goals first|omega|simp <;> omega)).mono ?_; rintro o w' ⟨rfl, hxl⟩; obtain ⟨xm, rfl⟩ := hxl.asLater; clear hxl)
            go_roundw
            case rel => exact ⟨k + 1, by omega, rfl, by go_num, HNx1, lh (by (with_reducible repeat first|exact HX5.out|exact eR _|apply eD|apply eN|apply eA|apply eO|apply eS|apply eC);all_goals first|omega|simp <;> omega)⟩
            case measure => simp [intOf]; omega
           ·have HR : Hid (O = ((k : Int), wl)) := lh (by rw [HO3.out, HHit.out (by rw [HF3.out]; exact hw), HF3.out])
            have d9 : (wl != 0) = true := by simpa using hw
            clear HF3 HHit HNx hw
            refine wp_region_later (by kernel_rfl) (by kernel_rfl) ?_
            repeat (first | go_big_quiet_step ((go_at_call 56; exact quietE (HSi1.out _))) | quiet_step ((go_at_call 56; exact quietE (HSi1.out _))))
            refine wpQuiet_nil ?_
            rintro _ ⟨xq, rfl⟩
            go_wp2_with (go_at_call 82; refine (HLe1.out _ (by (with_reducible repeat first|exact HX6.out|exact eR _|apply eD|apply eN|apply eA|apply eO|apply eS|apply eC);all_goals first|omega|simp <;> omega)).mono ?_; rintro o w' ⟨rfl, hxl⟩; obtain ⟨xm, rfl⟩ := hxl.asLater; clear hxl)
            rw [Exit.noGoto_ret]
            refine bodyPost_ret (v := .tuple #[.int .i64 k, .int .i64 wl]) ?_ rfl ⟨by rw [HR.out], (by (with_reducible repeat first|exact HX6.out|exact eR _|apply eD|apply eN|apply eA|apply eO|apply eS|apply eC);all_goals first|omega|simp <;> omega)⟩
            simp [results, Tryz.results28, go_sem, ↓IntWalk.iteOmega]
          have f3 : (x.kind == 3) = false := by simpa using k3
          have HR : Hid (O = ((k : Int), 3)) := lh (by
           have h3 : fk = 3 := by rw [HF2.out, if_neg k1, if_neg (by omega)]
           rw [HO3.out, HHit.out (by rw [h3]; decide), h3])
          clear HF2 HHit HNx k1 k2 k3
          refine wp_region_later (by kernel_rfl) (by kernel_rfl) ?_
          repeat (first | go_big_quiet_step ((go_at_call 56; exact quietE (HSi1.out _))) | quiet_step ((go_at_call 56; exact quietE (HSi1.out _))))
          refine wpQuiet_nil ?_
          rintro _ ⟨xq, rfl⟩
          go_wp2
          rw [Exit.noGoto_ret]
          refine bodyPost_ret (v := .tuple #[.int .i64 k, .int .i64 3]) ?_ rfl ⟨by rw [HR.out], (by (with_reducible repeat first|exact HX6.out|exact eR _|apply eD|apply eN|apply eA|apply eO|apply eS|apply eC);all_goals first|omega|simp <;> omega)⟩
          simp [results, Tryz.results28, go_sem, ↓IntWalk.iteOmega]
      ·have e1 : k = r.lines.length := by omega
       subst e1
       have HR : Hid (O = (-1, 0)) := lh (by rw [HO3.out, firstBad_none HK.out])
       clear HF HCf HLe HSi
       go_wp2
       rw [Exit.noGoto_ret]
       refine bodyPost_ret (v := .tuple #[.int .i64 (-1), .int .i64 0]) ?_ rfl ⟨by rw [HR.out], (by (with_reducible repeat first|exact HW3.out.trans HX.out|exact eR _|apply eD|apply eN|apply eA|apply eO|apply eS|apply eC);all_goals first|omega|simp <;> omega)⟩
       simp [results, Tryz.results28, go_sem, ↓IntWalk.iteOmega]
    ·have HR : Hid (O = (-1, C)) := lh (by rw [HO2.out, if_neg hC])
     have d0 : (C != 0) = true := by simpa using hC
     clear HO2 hC
     go_wp2
     rw [Exit.noGoto_ret]
     refine bodyPost_ret (v := .tuple #[.int .i64 (-1), .int .i64 C]) ?_ rfl ⟨by rw [HR.out], (by (with_reducible repeat first|exact HW3.out|exact eR _|apply eD|apply eN|apply eA|apply eO|apply eS|apply eC);all_goals first|omega|simp <;> omega)⟩
     simp [results, Tryz.results28, go_sem, ↓IntWalk.iteOmega]
  ·have d2 : decide (r.name = N) = false := by simpa using b2
   rw [d2] at hn2
   have HR : Hid (O = (-1, 1)) := lh (by rw [HO.out, if_pos b1, if_neg b2])
   clear HO b1 b2 d2
   go_step3
   go_wp2
   refine wp_region_later (by kernel_rfl) (by kernel_rfl) ?_
   repeat (first | go_big_quiet_step ((first | (go_at_call 58; exact quietE (HNm.out _ (by first | exact (by (with_reducible repeat first|exact HX1.out|exact eR _|apply eD|apply eN|apply eA|apply eO|apply eS|apply eC);all_goals first|omega|simp <;> omega) | exact (HX1.out.onto _)))) | (go_at_call 49; exact quietE (HCv.out _)))) | quiet_step ((first | (go_at_call 58; exact quietE (HNm.out _ (by first | exact (by (with_reducible repeat first|exact HX1.out|exact eR _|apply eD|apply eN|apply eA|apply eO|apply eS|apply eC);all_goals first|omega|simp <;> omega) | exact (HX1.out.onto _)))) | (go_at_call 49; exact quietE (HCv.out _)))))
   refine wpQuiet_nil ?_
   rintro _ ⟨xq, rfl⟩
   go_wp2
   rw [Exit.noGoto_ret]
   refine bodyPost_ret (v := .tuple #[.int .i64 (-1), .int .i64 1]) ?_ rfl ⟨by rw [HR.out], (by (with_reducible repeat first|exact HX1.out|exact eR _|apply eD|apply eN|apply eA|apply eO|apply eS|apply eC);all_goals first|omega|simp <;> omega)⟩
   simp [results, Tryz.results28, go_sem, ↓IntWalk.iteOmega]
 ·have d1 : (r.epoch != e.num) = true := by simpa using b1
  have HR : Hid (O = (-1, 1)) := lh (by rw [HO.out, if_neg b1])
  clear HO b1
  go_step3
  go_wp2
  refine wp_region_later (by kernel_rfl) (by kernel_rfl) ?_
  repeat (first | go_big_quiet_step ((first | (go_at_call 58; exact quietE (HNm.out _ (by first | exact (by (with_reducible repeat first|exact HX1.out|exact eR _|apply eD|apply eN|apply eA|apply eO|apply eS|apply eC);all_goals first|omega|simp <;> omega) | exact (HX1.out.onto _)))) | (go_at_call 49; exact quietE (HCv.out _)))) | quiet_step ((first | (go_at_call 58; exact quietE (HNm.out _ (by first | exact (by (with_reducible repeat first|exact HX1.out|exact eR _|apply eD|apply eN|apply eA|apply eO|apply eS|apply eC);all_goals first|omega|simp <;> omega) | exact (HX1.out.onto _)))) | (go_at_call 49; exact quietE (HCv.out _)))))
  refine wpQuiet_nil ?_
  rintro _ ⟨xq, rfl⟩
  go_wp2
  rw [Exit.noGoto_ret]
  refine bodyPost_ret (v := .tuple #[.int .i64 (-1), .int .i64 1]) ?_ rfl ⟨by rw [HR.out], (by (with_reducible repeat first|exact HX1.out|exact eR _|apply eD|apply eN|apply eA|apply eO|apply eS|apply eC);all_goals first|omega|simp <;> omega)⟩
  simp [results, Tryz.results28, go_sem, ↓IntWalk.iteOmega]
def openLn (x : Ln) : Bool := decide (x.kind = 3)
def closedB (r : Rp) : Bool := !(r.lines.any openLn)
theorem closed1_any (x : Ln) (w : World) (_ : True) : Calls Tryz.prog 80 #[.agg (lnC x)] w fun e w' => e = .returned (.bool (openLn x)) ∧ Ext w w' := by
 have HF : Hid (openLn x = decide (x.kind = 3)) := lh rfl
 have hft := ln_fits x
 generalize openLn x = R at *
 go_enter Tryz.func80, Tryz.ntmps80
 go_wp2
 all_goals
  go_ret
  exact ⟨ret_bool (by have h := HF.out; clear HF; subst h; first | rfl | (simp [*]; done) | (simp [*]; omega) | omega), (by (with_reducible repeat first|exact eR _|apply eD|apply eN|apply eA|apply eO|apply eS|apply eC);all_goals first|omega|simp <;> omega)⟩
theorem lidx_any (A : Option Addr) (c : Nat) (ls : List Ln) (w : World) (hlen : ls.length ≤ 140737488355328) (hr : Reads 59 lnL w w.heap.size A ls) (hw : ∀ p ∈ ls, True) :
  Calls Tryz.prog 128 #[.slice A ls.length c, .func (.func 80) #[] #[]] w fun e w' => ∃ i : Int, e = .returned (.int .i64 i) ∧ (ls.any openLn = true → 0 ≤ i) ∧ (ls.any openLn = false → i = -1) ∧ Ext w w' := by
 have HR := lh hr
 have HT := lh (fun (k : Nat) (h : k < ls.length) (W : World) => closed1_any ls[k] W (hw _ (List.getElem_mem h)))
 clear hr hw
 go_enter Tryz.func128, Tryz.ntmps128
 go_wp2
 go_loopw [8] (fun i wr => ∃ k : Nat, k ≤ ls.length ∧ i = .int .i64 k ∧ Ext w wr ∧ Hid ((ls.take k).any openLn = false)) (fun i _ => ls.length - (intOf i).toNat)
 case atStart => exact ⟨0, Nat.zero_le _, rfl, eR _, lh rfl⟩
 case round =>
  obtain ⟨k, hk, rfl, hx, HJ⟩ := hrel
  have HX := lh hx
  have hsz := hx.size
  by_cases hlt : k < ls.length
  ·obtain ⟨b, off, rfl, hb, c1⟩ := reads_row lnE (HR.out.on hx) k hlt
   have HT1 := lh (HT.out k hlt)
   have HN : Hid (openLn ls[k] = false → (ls.take (k + 1)).any openLn = false) := lh (fun h => by rw [List.take_succ_eq_append_getElem hlt, List.any_append, HJ.out]; simpa using h)
   have HM : Hid (openLn ls[k] = true → ls.any openLn = true) := lh (fun h => by
    rw [List.any_eq_true]; exact ⟨ls[k], List.getElem_mem hlt, h⟩)
   change Hid (∀ W, Calls Tryz.prog 80 #[.agg ((lnL ls[k]).toArray)] W fun e w' => e = .returned (.bool (openLn ls[k])) ∧ Ext W w') at HT1
   generalize openLn ls[k] = pk at *
   generalize (lnL ls[k]).toArray = s at *
   clear hx
   cases pk with
   | false =>
    have HN2 := lh (HN.out rfl)
    clear HN HM
    go_wp2_with (go_at_call 80; refine (HT1.out _).mono ?_; rintro e w' ⟨rfl, hxl⟩; obtain ⟨xl, rfl⟩ := hxl.asLater; clear hxl)
    go_roundw
    case rel => exact ⟨k + 1, by omega, by go_num, (by (with_reducible repeat first|exact HX.out|exact eR _|apply eD|apply eN|apply eA|apply eO|apply eS|apply eC);all_goals first|omega|simp <;> omega), HN2⟩
    case measure => simp [intOf]; omega
   | true =>
    have HM2 := lh (HM.out rfl)
    clear HN HM
    go_wp2_with (go_at_call 80; refine (HT1.out _).mono ?_; rintro e w' ⟨rfl, hxl⟩; obtain ⟨xl, rfl⟩ := hxl.asLater; clear hxl)
    go_ret
    exact ⟨k, rfl, fun _ => by omega, fun h => (by rw [HM2.out] at h; cases h), (by (with_reducible repeat first|exact HX.out|exact eR _|apply eD|apply eN|apply eA|apply eO|apply eS|apply eC);all_goals first|omega|simp <;> omega)⟩
  ·have HQ : Hid (ls.any openLn = false) := lh (by have h := HJ.out; rwa [List.take_of_length_le (by omega)] at h)
   go_wp2
   go_ret
   exact ⟨-1, rfl, fun h => (by rw [HQ.out] at h; cases h), fun _ => rfl, HX.out⟩
theorem lcont_any (A : Option Addr) (c : Nat) (ls : List Ln) (w : World) (hlen : ls.length ≤ 140737488355328) (hr : Reads 59 lnL w w.heap.size A ls) (hw : ∀ p ∈ ls, True) :
  Calls Tryz.prog 79 #[.slice A ls.length c, .func (.func 80) #[] #[]] w fun e w' => e = .returned (.bool (ls.any openLn)) ∧ Ext w w' := by
 have H := lh (lidx_any A c ls w hlen hr hw)
 clear hr hw
 generalize ls.any openLn = R at *
 cases R with
 | true =>
  go_enter Tryz.func79, Tryz.ntmps79
  go_wp2_with (go_at_call 128; refine H.out.mono ?_; rintro e w' ⟨i, rfl, h1, h2, hxl⟩; have h3 := h1 rfl; clear h1 h2; obtain ⟨xl, rfl⟩ := hxl.asLater; clear hxl)
  go_ret
  exact ⟨ret_bool (by first | (simp; done) | (simp; omega)), (by (with_reducible repeat first|exact eR _|apply eD|apply eN|apply eA|apply eO|apply eS|apply eC);all_goals first|omega|simp <;> omega)⟩
 | false =>
  go_enter Tryz.func79, Tryz.ntmps79
  go_wp2_with (go_at_call 128; refine H.out.mono ?_; rintro e w' ⟨i, rfl, h1, h2, hxl⟩; obtain rfl := h2 rfl; clear h1 h2; obtain ⟨xl, rfl⟩ := hxl.asLater; clear hxl)
  go_ret
  exact ⟨rfl, (by (with_reducible repeat first|exact eR _|apply eD|apply eN|apply eA|apply eO|apply eS|apply eC);all_goals first|omega|simp <;> omega)⟩
theorem aclosed_any (r : Rp) (w : World) (hl : r.lines.length ≤ 100000) (ha : Reads 59 lnL w w.heap.size r.LA r.lines) :
  Calls Tryz.prog 25 #[.agg (rpC r)] w fun e w' => e = .returned (.bool (closedB r)) ∧ Ext w w' := by
 have HC := lh (fun (W : World) (hx : Ext w W) => lcont_any r.LA r.lc r.lines W (by omega) (ha.on hx) (fun _ _ => trivial))
 have HO : Hid (closedB r = !(r.lines.any openLn)) := lh rfl
 have hft := rp_fits r
 generalize closedB r = R at *
 generalize r.lines.any openLn = P at *
 clear ha
 go_enter Tryz.func25, Tryz.ntmps25
 go_wp2_with (go_at_call 79; refine (HC.out _ (by (with_reducible repeat first|exact eR _|apply eD|apply eN|apply eA|apply eO|apply eS|apply eC);all_goals first|omega|simp <;> omega)).mono ?_; rintro e w' ⟨rfl, hxl⟩; obtain ⟨xl, rfl⟩ := hxl.asLater; clear hxl)
 go_ret
 exact ⟨ret_bool (by rw [HO.out]), (by (with_reducible repeat first|exact eR _|apply eD|apply eN|apply eA|apply eO|apply eS|apply eC);all_goals first|omega|simp <;> omega)⟩
def lnSite (n : Int) (x : Ln) : Bool := decide (x.site = n)
def lnNone (_ _ : Ln) : Bool := false
theorem ref1_any (x : Ln) (site : Int) (bg : Nat) (w : World) (h1 : w.cell? ⟨bg, 0, none⟩ = some (.int .i64 site)) (l1 : bg < w.heap.size) :
  Calls Tryz.prog 85 #[.agg (lnC x), .pointer (some ⟨bg, 0, none⟩)] w fun e w' => e = .returned (.bool (lnSite site x)) ∧ Ext w w' := by
 have HF : Hid (lnSite site x = decide (x.site = site)) := lh rfl
 have hft := ln_fits x
 generalize lnSite site x = R at *
 go_enter Tryz.func85, Tryz.ntmps85
 go_wp2
 all_goals
  go_ret
  exact ⟨ret_bool (by have h := HF.out; clear HF; subst h; first | rfl | (simp [*]; done) | (simp [*]; omega) | omega), (by (with_reducible repeat first|exact eR _|apply eD|apply eN|apply eA|apply eO|apply eS|apply eC);all_goals first|omega|simp <;> omega)⟩
theorem ref2_any (a b : Ln) (w : World) : Calls Tryz.prog 86 #[.agg (lnC a), .agg (lnC b)] w fun e w' => e = .returned (.bool (lnNone a b)) ∧ Ext w w' := by
 have hfa := ln_fits a
 have hfb := ln_fits b
 go_enter Tryz.func86, Tryz.ntmps86
 go_wp2
 go_ret
 exact ⟨rfl, (by (with_reducible repeat first|exact eR _|apply eD|apply eN|apply eA|apply eO|apply eS|apply eC);all_goals first|omega|simp <;> omega)⟩
noncomputable def refutesB (l : List Ky) (e : Ep) (r : Rp) (s : Le) : Bool :=
 if s.epoch < e.num ∧ r.hi < s.until_ ∧ checkLe l s = 0 then !(bestS noLn (lnSite s.site) lnNone r.lines).2 || decide ((bestS noLn (lnSite s.site) lnNone r.lines).1.kind = 2) else false
theorem arefutes_any (Ar : Option Addr) (cr : Nat) (l : List Ky) (e : Ep) (r : Rp) (s : Le) (w : World) (hg : RingOk l) (hrk : ReadsKy w w.heap.size Ar l) (hrl : r.lines.length ≤ 100000) (hra : Reads 59 lnL w w.heap.size r.LA r.lines) (hs : LeOk s) (hk : KonstP w) :
  Calls Tryz.prog 30 #[.slice Ar l.length cr, .agg (epC e), .agg (rpC r), .agg (leC s)] w fun o w' => o = .returned (.bool (refutesB l e r s)) ∧ Ext w w' := by
 have HCk := lh (fun (W : World) (hx' : Ext w W) => scheckLe_any Ar cr l s W hg (hrk.on hx') hs (RowAt.ext hk hx'))
 have HB : Hid (∀ (bg : Nat) (W : World), Ext w W → bg < W.heap.size → W.cell? ⟨bg, 0, none⟩ = some (.int .i64 s.site) → Calls Tryz.prog 84 #[.slice r.LA r.lines.length r.lc, .func (.func 85) #[] #[.pointer (some ⟨bg, 0, none⟩)], .func (.func 86) #[] #[]] W fun e w' => e = .returned (.tuple #[.agg (lnC (bestS noLn (lnSite s.site) lnNone r.lines).1), .bool (bestS noLn (lnSite s.site) lnNone r.lines).2]) ∧ Ext W w') := lh (fun bg W hx hb hg =>
  bestLn_any r.LA r.lc r.lines (lnSite s.site) lnNone bg W (by omega) (hra.on hx) (fun k hk W' hx' => ref1_any r.lines[k] s.site bg W' ((hx'.cell (p := ⟨bg, 0, none⟩) hb).trans hg) (by have := hx'.size; omega)) (fun a b W' _ => ref2_any a b W'))
 have HO : Hid (refutesB l e r s = if s.epoch < e.num ∧ r.hi < s.until_ ∧ checkLe l s = 0 then !(bestS noLn (lnSite s.site) lnNone r.lines).2 || decide ((bestS noLn (lnSite s.site) lnNone r.lines).1.kind = 2) else false) := lh rfl
 have hfe := ep_fits e
 have hfr := rp_fits r
 have hfs := le_fits s
 generalize refutesB l e r s = O at *
 generalize checkLe l s = C at *
 generalize bestS noLn (lnSite s.site) lnNone r.lines = bx at *
 obtain ⟨x, is⟩ := bx
 simp only at *
 have hfx := ln_fits x
 clear hg hrk hra hs hk
 by_cases b1 : e.num ≤ s.epoch
 ·have d1 : decide (e.num ≤ s.epoch) = true := by simpa using b1
  have HR : Hid (O = false) := lh (by rw [HO.out, if_neg (fun h => by omega)])
  clear HO HB
  go_enter Tryz.func30, Tryz.ntmps30
  go_wp2_with (go_at_call 83; refine (HCk.out _ (by (with_reducible repeat first|exact eR _|apply eD|apply eN|apply eA|apply eO|apply eS|apply eC);all_goals first|omega|simp <;> omega)).mono ?_; rintro o w' ⟨rfl, hxl⟩; obtain ⟨xm, rfl⟩ := hxl.asLater; clear hxl)
  go_ret
  exact ⟨ret_bool HR.out.symm, (by (with_reducible repeat first|exact eR _|apply eD|apply eN|apply eA|apply eO|apply eS|apply eC);all_goals first|omega|simp <;> omega)⟩
 have d1 : decide (e.num ≤ s.epoch) = false := by simpa using b1
 by_cases b2 : s.until_ ≤ r.hi
 ·have d2 : decide (s.until_ ≤ r.hi) = true := by simpa using b2
  have HR : Hid (O = false) := lh (by rw [HO.out, if_neg (fun h => by omega)])
  clear HO HB
  go_enter Tryz.func30, Tryz.ntmps30
  go_wp2_with (go_at_call 83; refine (HCk.out _ (by (with_reducible repeat first|exact eR _|apply eD|apply eN|apply eA|apply eO|apply eS|apply eC);all_goals first|omega|simp <;> omega)).mono ?_; rintro o w' ⟨rfl, hxl⟩; obtain ⟨xm, rfl⟩ := hxl.asLater; clear hxl)
  go_ret
  exact ⟨ret_bool HR.out.symm, (by (with_reducible repeat first|exact eR _|apply eD|apply eN|apply eA|apply eO|apply eS|apply eC);all_goals first|omega|simp <;> omega)⟩
 have d2 : decide (s.until_ ≤ r.hi) = false := by simpa using b2
 by_cases b3 : C = 0
 ·have HO2 : Hid (O = (!is || decide (x.kind = 2))) := lh (by rw [HO.out, if_pos ⟨by omega, by omega, b3⟩])
  subst b3
  clear HO b1 b2
  go_enter Tryz.func30, Tryz.ntmps30
  go_upto_region 3 with (go_at_call 83; refine (HCk.out _ (by (with_reducible repeat first|exact eR _|apply eD|apply eN|apply eA|apply eO|apply eS|apply eC);all_goals first|omega|simp <;> omega)).mono ?_; rintro o w' ⟨rfl, hxl⟩; obtain ⟨xm, rfl⟩ := hxl.asLater; clear hxl)
  refine wp_world (fun W => Ext w W ∧ RowAt W (w.heap.size + 1) (rpC r) ∧ RowAt W (w.heap.size + 1 + 1) (leC s)) ⟨(by (with_reducible repeat first|exact eR _|apply eD|apply eN|apply eA|apply eO|apply eS|apply eC);all_goals first|omega|simp <;> omega), ((RowAt.newAt (by simp)).alloc _).later _, (RowAt.newAt (by simp)).later _⟩ ?_
  generalize hB : w.heap.size = B
  rintro W1 ⟨x1, uR, uL⟩
  have HX1 := lh x1
  have hlL := uL.lt
  have q1 : W1.cell? ⟨B + 1, 19, none⟩ = some (.slice r.LA r.lines.length r.lc) := (uR.cell 19).trans (rp_g19 r)
  have HG0 : Hid (W1.cell? ⟨B + 1 + 1, 0, none⟩ = some (.int .i64 s.site)) := lh ((uL.cell 0).trans (le_g0 s))
  clear x1 uR uL d1 d2
  cases is with
  | false =>
   have HR : Hid (O = true) := lh (by rw [HO2.out]; rfl)
   clear HO2
   go_wp2_with (go_at_call 84; refine (HB.out _ _ HX1.out hlL HG0.out).mono ?_; rintro o w' ⟨rfl, hxl⟩; obtain ⟨xn, rfl⟩ := hxl.asLater; clear hxl)
   go_ret
   exact ⟨ret_bool HR.out.symm, Ext.setCells ((HX1.out.onto _).alloc _) (by have := HX1.out.size; omega) _ _⟩
  | true =>
   have HR : Hid (O = decide (x.kind = 2)) := lh (by rw [HO2.out]; rfl)
   clear HO2
   go_wp2_with (go_at_call 84; refine (HB.out _ _ HX1.out hlL HG0.out).mono ?_; rintro o w' ⟨rfl, hxl⟩; obtain ⟨xn, rfl⟩ := hxl.asLater; clear hxl)
   go_ret
   exact ⟨ret_bool (by rw [HR.out]; first | rfl | (simp; done)), Ext.setCells ((HX1.out.onto _).alloc _) (by have := HX1.out.size; omega) _ _⟩
 ·have d3 : (C != 0) = true := by simpa using b3
  have HR : Hid (O = false) := lh (by rw [HO.out, if_neg (fun h => b3 h.2.2)])
  clear HO HB b3
  go_enter Tryz.func30, Tryz.ntmps30
  go_wp2_with (go_at_call 83; refine (HCk.out _ (by (with_reducible repeat first|exact eR _|apply eD|apply eN|apply eA|apply eO|apply eS|apply eC);all_goals first|omega|simp <;> omega)).mono ?_; rintro o w' ⟨rfl, hxl⟩; obtain ⟨xm, rfl⟩ := hxl.asLater; clear hxl)
  go_ret
  exact ⟨ret_bool HR.out.symm, (by (with_reducible repeat first|exact eR _|apply eD|apply eN|apply eA|apply eO|apply eS|apply eC);all_goals first|omega|simp <;> omega)⟩
theorem open_snoc {l : List Ln} {k : Nat} (h : k < l.length) : (l.take (k + 1)).any openLn = ((l.take k).any openLn || openLn l[k]) := by
 rw [List.take_succ_eq_append_getElem h, List.any_append]
 simp
theorem open_hit {l : List Ln} {k : Nat} (h : k < l.length) (ho : openLn l[k] = true) : l.any openLn = true := by
 rw [List.any_eq_true]
 exact ⟨l[k], List.getElem_mem h, ho⟩
theorem rclosed_any (r : Rp) (w : World) (hl : r.lines.length ≤ 100000) (ha : Reads 59 lnL w w.heap.size r.LA r.lines) :
  Calls Tryz.prog 26 #[.agg (rpC r)] w fun e w' => e = .returned (.bool (closedB r)) ∧ Ext w w' := by
 have HR := lh ha
 have hft := rp_fits r
 have HO : Hid (closedB r = !(r.lines.any openLn)) := lh rfl
 generalize closedB r = V at *
 clear ha
 go_enter Tryz.func26, Tryz.ntmps26
 go_wp2
 refine wp_world (fun W => Ext w W ∧ RowAt W w.heap.size (rpC r)) ⟨(by (with_reducible repeat first|exact eR _|apply eD|apply eN|apply eA|apply eO|apply eS|apply eC);all_goals first|omega|simp <;> omega), RowAt.new _ _ _⟩ ?_
 obtain ⟨B, hB⟩ : ∃ B, w.heap.size = B := ⟨_, rfl⟩
 rw [hB]
 rintro W1 ⟨x1, uB⟩
 have HX1 := lh x1
 have HU := lh uB
 have hlB := uB.lt
 have HQ : Hid (W1.cell? ⟨B, 19, none⟩ = some (.slice r.LA r.lines.length r.lc)) := lh ((uB.cell 19).trans (rp_g19 r))
 clear x1 uB
 generalize r.LA = LA at *
 generalize r.lines = l at *
 go_loopw [3] (fun i wr => ∃ k : Nat, k ≤ l.length ∧ i = .int .i64 k ∧ Hid ((l.take k).any openLn = false) ∧ Hid (Ext W1 wr)) (fun i _ => l.length - (intOf i).toNat)
 case atStart => exact ⟨0, Nat.zero_le _, rfl, lh rfl, lh (eR _)⟩
 case round =>
  obtain ⟨k, hk, rfl, HK, HX⟩ := hrel
  have hsz := HX.out.size
  have q19 : wr.cell? ⟨B, 19, none⟩ = some (.slice LA l.length r.lc) := (HX.out.cell (p := ⟨B, 19, none⟩) hlB).trans HQ.out
  by_cases hlt : k < l.length
  ·obtain ⟨b, off, rfl, hb, hrow⟩ := reads_row lnE (HR.out.ext (HX1.out.trans HX.out) (Nat.le_refl _)) k hlt
   have hb2 : b < wr.heap.size := by omega
   have c1 : wr.cell? ⟨b, off + k * 59 + 1, none⟩ = some (.int .i64 l[k].kind) := by
    obtain ⟨b', off', e1, _, h3⟩ := (HR.out.ext (HX1.out.trans HX.out) (Nat.le_refl _)) (by omega)
    injection e1 with e1
    injection e1 with e1 e2
    subst e1 e2
    exact h3 k hlt 1 _ rfl
   have HN := lh (open_snoc hlt)
   have HH := lh (fun h => open_hit (k := k) hlt h)
   have HP : Hid (openLn l[k] = decide (l[k].kind = 3)) := lh rfl
   clear hrow
   generalize l[k] = x at *
   by_cases h3 : x.kind = 3
   ·have e3 : (x.kind == 3) = true := by simpa using h3
    have HV : Hid (V = false) := lh (by rw [HO.out, HH.out (by rw [HP.out]; simpa using h3)]; rfl)
    clear h3 HN HH HP
    go_wp2
    go_ret
    exact ⟨ret_bool (by rw [HV.out]), (by (with_reducible repeat first|exact HX1.out.trans HX.out|exact eR _|apply eD|apply eN|apply eA|apply eO|apply eS|apply eC);all_goals first|omega|simp <;> omega)⟩
   ·have e3 : (x.kind == 3) = false := by simpa using h3
    have HN2 : Hid ((l.take (k + 1)).any openLn = false) := lh (by rw [HN.out, HK.out, HP.out]; simpa using h3)
    clear h3 HN HH HP
    go_wp2
    go_roundw
    case rel => exact ⟨k + 1, by omega, by go_num, HN2, HX⟩
    case measure => simp [intOf]; omega
  ·have HV : Hid (V = true) := lh (by
    have h := HK.out
    rw [List.take_of_length_le (by omega)] at h
    rw [HO.out, h]
    rfl)
   go_wp2
   go_ret
   exact ⟨ret_bool (by rw [HV.out]), (by (with_reducible repeat first|exact HX1.out.trans HX.out|exact eR _|apply eD|apply eN|apply eA|apply eO|apply eS|apply eC);all_goals first|omega|simp <;> omega)⟩
end Go.Proofs.YtpfhmcdcmepfdaaGreatDoor