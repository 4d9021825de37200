/- A drawn region with values, and two rows that are made and written. -/
import Derived.Test.YtpfhmcdcmepfdaaGreatDoorProg
import Derived.Test.YtpfhmcdcmepfdaaGreatDoorKSpv
import Derived.WalkKit
import Derived.WalkSpells
import Derived.WalkLawsBesides
import Derived.Deep.QuietTactic
import Derived.BigQuiet
import Derived.Test.YtpfhmcdcmepfdaaGreatDoorKSoB
set_option linter.unusedVariables false
set_option linter.unusedSimpArgs false
namespace Go.Proofs.YtpfhmcdcmepfdaaGreatDoor
open Go.RowKit
open Go.Proofs

section
variable {P : Program} {id : Nat} {Q : Exit → Act → World → Prop} {a0 : Act} {w0 : World} {l : List Oper}
theorem getD_set_self {listed : Array Bool} {i : Nat} (h : i < listed.size) : (listed.setIfInBounds i true).getD i false = true := by
  simp [Array.getD_eq_getD_getElem?, h]
theorem wpAny_glob (J : (Nat → Prop) → (Nat → Value) → World → Prop) (hB : allB l = true)
    (hJ : ∀ S S' xs w, (∀ i, i < l.length → (S i ↔ S' i)) → J S xs w → J S' xs w)
    (hop : ∀ i, i < l.length → ∀ o, l[i]? = some o → ∀ S xs w, J S xs w → ¬ S i → (∀ j, j ∈ depsOf l i → S j) → ∀ Q' : Exit → Act → World → Prop, (∀ v w', J (fun k => k = i ∨ S k) (updAt xs i v) w' → Q' .normal ((fillAt l a0 xs l.length).put o.dst v) w') → wpList P l.toArray Q' [o] (fillAt l a0 xs l.length) w)
    (hend : ∀ S xs w, J S xs w → (∀ i, i < l.length → S i) → Q .normal (fillAt l a0 xs l.length) w) :
    ∀ (f : Nat) (listed : Array Bool) (xs : Nat → Value) (w : World), HeadInv .any l.toArray l.length listed → cntU listed l.length = f → J (fun i => listed.getD i false = true) xs w →
      wpAny P .any l.toArray Q f listed (fillAt l a0 xs l.length) w := by
  simp only [allB, Bool.and_eq_true, decide_eq_true_eq, List.all_eq_true, List.mem_range, Bool.or_eq_true] at hB
  obtain ⟨hdeps, hdst⟩ := hB
  intro f
  induction f with
  | zero =>
    intro listed xs w inv hcnt hx
    have hall := cnt_zero _ hcnt
    refine ⟨List.eq_nil_iff_forall_not_mem.2 fun i hi => ?_, hend _ xs w hx (fun i hi => hall i hi)⟩
    obtain ⟨hun, o, ho, _⟩ := mem_ready.1 hi
    have hin : i < l.length := by simpa using (Array.getElem?_eq_some_iff.1 ho).1
    have h1 := hall i hin
    rw [getD_both hun] at h1
    cases h1
  | succ f ih =>
    intro listed xs w inv hcnt hx
    obtain ⟨i0, hi0, hu0, hmin⟩ := cnt_pos l.length (by omega : 0 < cntU listed l.length)
    have hi0s : i0 < listed.size := by rw [inv.size]; simpa using hi0
    have hu0' := getD_in hi0s hu0
    have hready : i0 ∈ Region.ready .any l.toArray listed := by
      refine mem_ready.2 ⟨hu0', l[i0], by simp [hi0], fun e he hb => ?_⟩
      have hd : e.on ∈ depsOf l i0 := by
        simp only [depsOf, List.getElem?_eq_getElem hi0, Option.map_some, Option.getD_some, List.mem_map, List.mem_filter]
        exact ⟨e, ⟨by simpa using he, hb⟩, rfl⟩
      exact hmin _ (hdeps i0 hi0 _ hd)
    refine ⟨fun h0 => (by rw [h0] at hready; cases hready), fun i hi => ?_⟩
    obtain ⟨hun, o, ho, hall⟩ := mem_ready.1 hi
    have ho' : l[i]? = some o := by simpa using ho
    have hin : i < l.length := (List.getElem?_eq_some_iff.1 ho').1
    have hu := getD_both hun
    refine wpOp_of_one ho ?_
    refine hop i hin o ho' _ xs w hx (fun h => by rw [hu] at h; cases h) (fun j hj => ?_) _ (fun v w' hv => ?_)
    · have hji := hdeps i hin j hj
      simp only [depsOf, ho', Option.map_some, Option.getD_some, List.mem_map, List.mem_filter] at hj
      obtain ⟨e, ⟨he, hb⟩, rfl⟩ := hj
      exact hall e (by simpa using he) hb
    · show wpAny P .any l.toArray Q f (listed.setIfInBounds i true) _ w'
      have ed : o.dst = dstOf l i := by simp [dstOf, ho']
      rw [ed, fill_put l.length hin (fun j hj hji => by
        rcases hdst i hin j hj with (h | h) | h
        · exact absurd h hji
        · exact .inl h
        · exact .inr h)]
      refine ih _ _ w' (inv.set hi hin) (by have := cnt_set (by rw [inv.size]; simpa using hin) hu l.length hin; omega) (hJ _ _ _ _ (fun j hj => ?_) hv)
      by_cases e : j = i
      · subst e
        rw [getD_set_self (by rw [inv.size]; simpa using hin)]
        simp
      · rw [getD_set_ne false (Ne.symm e)]
        simp [e]
theorem wp_region_glob (J : (Nat → Prop) → (Nat → Value) → World → Prop) (hm : P.follows .mixedOrders = true) (hB : allB l = true)
    (hJ0 : ∀ xs, J (fun _ => False) xs { w0 with drawn := w0.drawn + 1 })
    (hJ : ∀ S S' xs w, (∀ i, i < l.length → (S i ↔ S' i)) → J S xs w → J S' xs w)
    (hop : ∀ i, i < l.length → ∀ o, l[i]? = some o → ∀ S xs w, J S xs w → ¬ S i → (∀ j, j ∈ depsOf l i → S j) → ∀ Q' : Exit → Act → World → Prop, (∀ v w', J (fun k => k = i ∨ S k) (updAt xs i v) w' → Q' .normal ((fillAt l a0 xs l.length).put o.dst v) w') → wpList P l.toArray Q' [o] (fillAt l a0 xs l.length) w)
    (hend : ∀ S xs w, J S xs w → (∀ i, i < l.length → S i) → Q .normal (fillAt l a0 xs l.length) w) : (Code.region id l.toArray true).wp P Q a0 w0 := by
  refine wp_region_any hm ?_
  have inv0 : HeadInv .any l.toArray l.length (Array.replicate l.toArray.size false) :=
    ⟨by simp, fun j oj _ hl => (by rw [getD_replicate_false] at hl; cases hl), fun t _ ht => getD_in (by simpa using ht) (getD_replicate_false _ _)⟩
  have hc0 : ∀ m, cntU (Array.replicate l.toArray.size false) m = m := by
    intro m
    induction m with
    | zero => rfl
    | succ m ih => rw [cntU, ih, getD_replicate_false]; rfl
  have := wpAny_glob (P := P) (Q := Q) (a0 := a0) J hB hJ hop hend l.length _ (fun i => ((dstOf l i).map fun t => a0.tmps.getD t undef).getD undef) { w0 with drawn := w0.drawn + 1 } inv0 (hc0 _) (hJ _ _ _ _ (fun i _ => by rw [getD_replicate_false]; simp) (hJ0 _))
  rw [fill_self] at this
  have e : l.length = l.toArray.size := by simp
  rwa [e] at this
end
end Go.Proofs.YtpfhmcdcmepfdaaGreatDoor


set_option linter.unusedVariables false
set_option linter.unusedSimpArgs false
namespace Go.Proofs.YtpfhmcdcmepfdaaGreatDoor
open Go.RowKit
open Go.Proofs

def rowR (B ia is : Nat) (cs : Array Value) (S : Nat → Prop) (xs : Nat → Value) (w : World) : Prop :=
  S ia → ∃ b, xs ia = .pointer (some ⟨b, 0, none⟩) ∧ B ≤ b ∧ (∃ ds, RowAt w b ds ∧ ds.size = cs.size) ∧ (S is → RowAt w b cs)
theorem rowR.ext {B ia is : Nat} {cs : Array Value} {S : Nat → Prop} {xs : Nat → Value} {w w' : World} (h : rowR B ia is cs S xs w) (hx : Ext w w') : rowR B ia is cs S xs w' := fun hs => by
  obtain ⟨b, h1, h2, ⟨ds, h3, h4⟩, h5⟩ := h hs
  exact ⟨b, h1, h2, ⟨ds, h3.ext hx, h4⟩, fun h => (h5 h).ext hx⟩
theorem rowR.upd {B ia is : Nat} {cs : Array Value} {S : Nat → Prop} {xs : Nat → Value} {w : World} (h : rowR B ia is cs S xs w) {i : Nat} (h1 : i ≠ ia) (h2 : i ≠ is) (v : Value) : rowR B ia is cs (fun k => k = i ∨ S k) (updAt xs i v) w := fun hs => by
  have hs' : S ia := hs.resolve_left (fun e => h1 e.symm)
  obtain ⟨b, k1, k2, k3, k4⟩ := h hs'
  refine ⟨b, ?_, k2, k3, fun h => k4 (h.resolve_left (fun e => h2 e.symm))⟩
  simp [updAt, Ne.symm h1, k1]
theorem rowR.block {B ia is : Nat} {cs : Array Value} {S : Nat → Prop} {xs : Nat → Value} {w : World} (h : rowR B ia is cs S xs w) (hs : S ia) : ∃ b, xs ia = .pointer (some ⟨b, 0, none⟩) ∧ b < w.heap.size := by
  obtain ⟨b, h1, _, ⟨ds, h3, _⟩, _⟩ := h hs
  exact ⟨b, h1, h3.lt⟩
theorem rowR.new {B ia is : Nat} {cs : Array Value} {S : Nat → Prop} {xs : Nat → Value} {w : World} {b : Nat} (hn : ¬ S is) (hne : ia ≠ is) (hB : B ≤ b) (hr : ∃ ds, RowAt w b ds ∧ ds.size = cs.size) : rowR B ia is cs (fun k => k = ia ∨ S k) (updAt xs ia (.pointer (some ⟨b, 0, none⟩))) w := fun _ =>
  ⟨b, by simp [updAt], hB, hr, fun h => absurd (h.resolve_left (fun e => hne e.symm)) hn⟩
theorem rowR.store {B ia is : Nat} {cs : Array Value} {S : Nat → Prop} {xs : Nat → Value} {w : World} {b : Nat} (h : rowR B ia is cs S xs w) (hs : S ia) (hne : ia ≠ is) (hb : xs ia = .pointer (some ⟨b, 0, none⟩)) (v : Value) : rowR B ia is cs (fun k => k = is ∨ S k) (updAt xs is v) (w.setCells b 0 cs.toList) := fun _ => by
  obtain ⟨b', h1, h2, ⟨ds, h3, h4⟩, _⟩ := h hs
  have e : b' = b := by rw [h1] at hb; injection hb with hb; injection hb with hb; injection hb
  subst e
  exact ⟨b', by simp [updAt, hne, h1], h2, ⟨cs, h3.store h4.symm, rfl⟩, fun _ => h3.store h4.symm⟩
theorem rowR.other {B ia is : Nat} {cs : Array Value} {S : Nat → Prop} {xs : Nat → Value} {w : World} {b : Nat} (h : rowR B ia is cs S xs w) (hne : S ia → xs ia ≠ .pointer (some ⟨b, 0, none⟩)) (vs : List Value) : rowR B ia is cs S xs (w.setCells b 0 vs) := fun hs => by
  obtain ⟨b', h1, h2, ⟨ds, h3, h4⟩, h5⟩ := h hs
  have e : b' ≠ b := fun e => hne hs (by rw [h1, e])
  exact ⟨b', h1, h2, ⟨ds, h3.others e _ _, h4⟩, fun h => (h5 h).others e _ _⟩
section
variable {P : Program} {id : Nat} {Q : Exit → Act → World → Prop} {a0 : Act} {w0 : World} {l : List Oper}
def valI (ia1 is1 ia2 is2 i : Nat) : Prop := i ≠ ia1 ∧ i ≠ is1 ∧ i ≠ ia2 ∧ i ≠ is2
theorem wp_region_row2 (ia1 is1 ia2 is2 : Nat) (vs : Nat → Value) (cs1 cs2 : Array Value) (hm : P.follows .mixedOrders = true) (hB : allB l = true)
    (hl1 : ia1 < l.length) (hl2 : is1 < l.length) (hl3 : ia2 < l.length) (hl4 : is2 < l.length)
    (n1 : ia1 ≠ is1) (n2 : ia1 ≠ ia2) (n3 : ia1 ≠ is2) (n4 : is1 ≠ ia2) (n5 : is1 ≠ is2) (n6 : ia2 ≠ is2) (hd1 : ia1 ∈ depsOf l is1) (hd2 : ia2 ∈ depsOf l is2)
    (hopV : ∀ i, i < l.length → valI ia1 is1 ia2 is2 i → ∀ o, l[i]? = some o → ∀ xs w, Ext w0 w → (∀ j, j ∈ depsOf l i → valI ia1 is1 ia2 is2 j → xs j = vs j) → ∀ Q' : Exit → Act → World → Prop, (∀ v w', Ext w w' → v = vs i → Q' .normal ((fillAt l a0 xs l.length).put o.dst v) w') → wpList P l.toArray Q' [o] (fillAt l a0 xs l.length) w)
    (hopA : ∀ ia cs, (ia = ia1 ∧ cs = cs1) ∨ (ia = ia2 ∧ cs = cs2) → ∀ o, l[ia]? = some o → ∀ xs w, Ext w0 w → ∀ Q' : Exit → Act → World → Prop, (∀ w' b, Ext w w' → w.heap.size ≤ b → (∃ ds, RowAt w' b ds ∧ ds.size = cs.size) → Q' .normal ((fillAt l a0 xs l.length).put o.dst (.pointer (some ⟨b, 0, none⟩))) w') → wpList P l.toArray Q' [o] (fillAt l a0 xs l.length) w)
    (hopS : ∀ ia is cs, (ia = ia1 ∧ is = is1 ∧ cs = cs1) ∨ (ia = ia2 ∧ is = is2 ∧ cs = cs2) → ∀ o, l[is]? = some o → ∀ xs w b, Ext w0 w → xs ia = .pointer (some ⟨b, 0, none⟩) → (∃ ds, RowAt w b ds ∧ ds.size = cs.size) → (∀ j, j ∈ depsOf l is → valI ia1 is1 ia2 is2 j → xs j = vs j) → ∀ Q' : Exit → Act → World → Prop, (∀ v, Q' .normal ((fillAt l a0 xs l.length).put o.dst v) (w.setCells b 0 cs.toList)) → wpList P l.toArray Q' [o] (fillAt l a0 xs l.length) w)
    (hend : ∀ xs w b1 b2, Ext w0 w → xs ia1 = .pointer (some ⟨b1, 0, none⟩) → xs ia2 = .pointer (some ⟨b2, 0, none⟩) → w0.heap.size ≤ b1 → w0.heap.size ≤ b2 → RowAt w b1 cs1 → RowAt w b2 cs2 → (∀ i, i < l.length → valI ia1 is1 ia2 is2 i → xs i = vs i) → Q .normal (fillAt l a0 xs l.length) w) : (Code.region id l.toArray true).wp P Q a0 w0 := by
  have hdl : ∀ i, i < l.length → ∀ j, j ∈ depsOf l i → j < l.length := by
    have h := hB
    simp only [allB, Bool.and_eq_true, decide_eq_true_eq, List.all_eq_true, List.mem_range] at h
    exact fun i hi j hj => Nat.lt_trans (h.1 i hi j hj) hi
  refine wp_region_glob (fun S xs w => Ext w0 w ∧ (∀ i, i < l.length → valI ia1 is1 ia2 is2 i → S i → xs i = vs i) ∧ rowR w0.heap.size ia1 is1 cs1 S xs w ∧ rowR w0.heap.size ia2 is2 cs2 S xs w ∧ (S is1 → S ia1) ∧ (S is2 → S ia2) ∧ (S ia1 → S ia2 → xs ia1 ≠ xs ia2)) hm hB ?_ ?_ ?_ ?_
  · exact fun xs => ⟨Ext.drew (Ext.refl w0), fun _ _ _ h => h.elim, fun h => h.elim, fun h => h.elim, fun h => h.elim, fun h => h.elim, fun h => h.elim⟩
  · rintro S S' xs w hS ⟨h1, h2, h3, h4, h5, h6, h7⟩
    refine ⟨h1, fun i hi hv hs => h2 i hi hv ((hS i hi).2 hs), fun hs => ?_, fun hs => ?_, fun hs => (hS _ hl1).1 (h5 ((hS _ hl2).2 hs)), fun hs => (hS _ hl3).1 (h6 ((hS _ hl4).2 hs)), fun a b => h7 ((hS _ hl1).2 a) ((hS _ hl3).2 b)⟩
    · obtain ⟨b, k1, k2, k3, k4⟩ := h3 ((hS _ hl1).2 hs)
      exact ⟨b, k1, k2, k3, fun h => k4 ((hS _ hl2).2 h)⟩
    · obtain ⟨b, k1, k2, k3, k4⟩ := h4 ((hS _ hl3).2 hs)
      exact ⟨b, k1, k2, k3, fun h => k4 ((hS _ hl4).2 h)⟩
  · rintro i hi o ho S xs w ⟨h1, h2, h3, h4, h5, h6, h7⟩ hnS hdp Q' hQ
    have hvals : ∀ j, j ∈ depsOf l i → valI ia1 is1 ia2 is2 j → xs j = vs j := fun j hj hv => h2 j (hdl i hi j hj) hv (hdp j hj)
    have hkeep : ∀ v, i ≠ ia1 → i ≠ ia2 → (fun k => k = i ∨ S k) ia1 → (fun k => k = i ∨ S k) ia2 → updAt xs i v ia1 ≠ updAt xs i v ia2 := fun v e1 e2 a b => by
      have := h7 (a.resolve_left (fun e => e1 e.symm)) (b.resolve_left (fun e => e2 e.symm))
      simpa [updAt, Ne.symm e1, Ne.symm e2] using this
    have hval : ∀ v, (valI ia1 is1 ia2 is2 i → v = vs i) → ∀ j, j < l.length → valI ia1 is1 ia2 is2 j → (fun k => k = i ∨ S k) j → updAt xs i v j = vs j := fun v hv j hj hvj hs => by
      by_cases e : j = i
      · subst e; simpa [updAt] using hv hvj
      · simp only [updAt, if_neg e]; exact h2 j hj hvj (hs.resolve_left e)
    by_cases e1 : i = ia1
    · subst e1
      refine hopA i cs1 (.inl ⟨rfl, rfl⟩) o ho xs w h1 Q' (fun w' b hx hb hr => hQ _ _ ⟨h1.trans hx, hval _ (fun hv => absurd rfl hv.1), rowR.new (fun h => hnS (h5 h)) n1 (Nat.le_trans h1.size hb) hr, (h4.ext hx).upd n2 n3 _, fun _ => .inl rfl, fun h => .inr (h6 (h.resolve_left (fun e => n3 e.symm))), fun _ hs => ?_⟩)
      obtain ⟨b2, k1, k2⟩ := h4.block (hs.resolve_left (fun e => n2 e.symm))
      simp only [updAt, if_pos, if_neg (Ne.symm n2), k1]
      intro e
      injection e with e; injection e with e; injection e with e
      omega
    by_cases e2 : i = ia2
    · subst e2
      refine hopA i cs2 (.inr ⟨rfl, rfl⟩) o ho xs w h1 Q' (fun w' b hx hb hr => hQ _ _ ⟨h1.trans hx, hval _ (fun hv => absurd rfl hv.2.2.1), (h3.ext hx).upd (Ne.symm n2) (Ne.symm n4) _, rowR.new (fun h => hnS (h6 h)) n6 (Nat.le_trans h1.size hb) hr, fun h => .inr (h5 (h.resolve_left n4)), fun _ => .inl rfl, fun hs _ => ?_⟩)
      obtain ⟨b2, k1, k2⟩ := h3.block (hs.resolve_left n2)
      simp only [updAt, if_pos, if_neg n2, k1]
      intro e
      injection e with e; injection e with e; injection e with e
      omega
    by_cases e3 : i = is1
    · subst e3
      have hs := hdp _ hd1
      obtain ⟨b, k1, k2, k3, _⟩ := h3 hs
      refine hopS ia1 i cs1 (.inl ⟨rfl, rfl, rfl⟩) o ho xs w b h1 k1 k3 hvals Q' (fun v => hQ _ _ ⟨h1.setCells k2 _ _, hval _ (fun hv => absurd rfl hv.2.1), h3.store hs n1 k1 v, (h4.other (fun h => fun e => h7 hs h (k1.trans e.symm)) _).upd n4 n5 v, fun _ => .inr hs, fun h => .inr (h6 (h.resolve_left (fun e => n5 e.symm))), hkeep v (Ne.symm n1) n4⟩)
    by_cases e4 : i = is2
    · subst e4
      have hs := hdp _ hd2
      obtain ⟨b, k1, k2, k3, _⟩ := h4 hs
      refine hopS ia2 i cs2 (.inr ⟨rfl, rfl, rfl⟩) o ho xs w b h1 k1 k3 hvals Q' (fun v => hQ _ _ ⟨h1.setCells k2 _ _, hval _ (fun hv => absurd rfl hv.2.2.2), (h3.other (fun h => fun e => h7 h hs (e.trans k1.symm)) _).upd (Ne.symm n3) (Ne.symm n5) v, h4.store hs n6 k1 v, fun h => .inr (h5 (h.resolve_left n5)), fun _ => .inr hs, hkeep v (Ne.symm n3) (Ne.symm n6)⟩)
    · refine hopV i hi ⟨e1, e3, e2, e4⟩ o ho xs w h1 hvals Q' (fun v w' hx hv => hQ _ _ ⟨h1.trans hx, hval v (fun _ => hv), (h3.ext hx).upd e1 e3 v, (h4.ext hx).upd e2 e4 v, fun h => .inr (h5 (h.resolve_left (fun e => e3 e.symm))), fun h => .inr (h6 (h.resolve_left (fun e => e4 e.symm))), hkeep v e1 e2⟩)
  · rintro S xs w ⟨h1, h2, h3, h4, _, _, _⟩ hall
    obtain ⟨b1, k1, k2, _, k3⟩ := h3 (hall _ hl1)
    obtain ⟨b2, m1, m2, _, m3⟩ := h4 (hall _ hl3)
    exact hend xs w b1 b2 h1 k1 m1 k2 m2 (k3 (hall _ hl2)) (m3 (hall _ hl4)) (fun i hi hv => h2 i hi hv (hall i hi))
theorem wp_region_row2N (n : Nat) (hn : l.length = n) (ia1 is1 ia2 is2 : Nat) (vs : Nat → Value) (cs1 cs2 : Array Value) (hm : P.follows .mixedOrders = true) (hB : allB l = true)
    (hl1 : ia1 < n) (hl2 : is1 < n) (hl3 : ia2 < n) (hl4 : is2 < n)
    (n1 : ia1 ≠ is1) (n2 : ia1 ≠ ia2) (n3 : ia1 ≠ is2) (n4 : is1 ≠ ia2) (n5 : is1 ≠ is2) (n6 : ia2 ≠ is2) (hd1 : ia1 ∈ depsOf l is1) (hd2 : ia2 ∈ depsOf l is2)
    (hopV : ∀ i, i < n → valI ia1 is1 ia2 is2 i → ∀ o, l[i]? = some o → ∀ xs w, Ext w0 w → (∀ j, j ∈ depsOf l i → valI ia1 is1 ia2 is2 j → xs j = vs j) → ∀ Q' : Exit → Act → World → Prop, (∀ v w', Ext w w' → v = vs i → Q' .normal ((fillAt l a0 xs n).put o.dst v) w') → wpList P l.toArray Q' [o] (fillAt l a0 xs n) w)
    (hopA : ∀ ia cs, (ia = ia1 ∧ cs = cs1) ∨ (ia = ia2 ∧ cs = cs2) → ∀ o, l[ia]? = some o → ∀ xs w, Ext w0 w → ∀ Q' : Exit → Act → World → Prop, (∀ w' b, Ext w w' → w.heap.size ≤ b → (∃ ds, RowAt w' b ds ∧ ds.size = cs.size) → Q' .normal ((fillAt l a0 xs n).put o.dst (.pointer (some ⟨b, 0, none⟩))) w') → wpList P l.toArray Q' [o] (fillAt l a0 xs n) w)
    (hopS : ∀ ia is cs, (ia = ia1 ∧ is = is1 ∧ cs = cs1) ∨ (ia = ia2 ∧ is = is2 ∧ cs = cs2) → ∀ o, l[is]? = some o → ∀ xs w b, Ext w0 w → xs ia = .pointer (some ⟨b, 0, none⟩) → (∃ ds, RowAt w b ds ∧ ds.size = cs.size) → (∀ j, j ∈ depsOf l is → valI ia1 is1 ia2 is2 j → xs j = vs j) → ∀ Q' : Exit → Act → World → Prop, (∀ v, Q' .normal ((fillAt l a0 xs n).put o.dst v) (w.setCells b 0 cs.toList)) → wpList P l.toArray Q' [o] (fillAt l a0 xs n) w)
    (hend : ∀ xs w b1 b2, Ext w0 w → xs ia1 = .pointer (some ⟨b1, 0, none⟩) → xs ia2 = .pointer (some ⟨b2, 0, none⟩) → w0.heap.size ≤ b1 → w0.heap.size ≤ b2 → RowAt w b1 cs1 → RowAt w b2 cs2 → (∀ i, i < n → valI ia1 is1 ia2 is2 i → xs i = vs i) → Q .normal (fillAt l a0 xs n) w) : (Code.region id l.toArray true).wp P Q a0 w0 := by
  subst hn
  exact wp_region_row2 ia1 is1 ia2 is2 vs cs1 cs2 hm hB hl1 hl2 hl3 hl4 n1 n2 n3 n4 n5 n6 hd1 hd2 hopV hopA hopS hend
end
end Go.Proofs.YtpfhmcdcmepfdaaGreatDoor
