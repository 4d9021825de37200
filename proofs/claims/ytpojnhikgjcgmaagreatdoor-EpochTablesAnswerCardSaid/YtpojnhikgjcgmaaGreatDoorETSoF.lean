import Derived.Test.YtpojnhikgjcgmaaGreatDoorProg
import Derived.Test.YtpojnhikgjcgmaaGreatDoorEOwn
import Derived.WalkKit
import Derived.WalkSpells
import Derived.WalkLawsBesides
import Derived.Deep.QuietTactic
import Derived.BigQuiet
import Derived.Test.YtpojnhikgjcgmaaGreatDoorESoF
import Derived.Test.YtpojnhikgjcgmaaGreatDoorESoF
set_option linter.unusedVariables false
set_option linter.unusedSimpArgs false
namespace Go.Proofs.YtpojnhikgjcgmaaGreatDoor
open Go.RowKit
open Go.Proofs
def TRow (w : World) (b : Nat) (cs : Array Value) (T : TypeId) : Prop := w.heap[b]? = some (.cells cs T (0, 0))
theorem TRow.row {w : World} {b : Nat} {cs : Array Value} {T : TypeId} (h : TRow w b cs T) : RowAt w b cs := ⟨T, h⟩
theorem TRow.ext {w w' : World} {b : Nat} {cs : Array Value} {T : TypeId} (h : TRow w b cs T) (hx : Ext w w') : TRow w' b cs T := (hx.below.block b (Array.getElem?_eq_some_iff.1 h).1).trans h
theorem TRow.others {w : World} {b : Nat} {cs : Array Value} {T : TypeId} (h : TRow w b cs T) {m : Nat} (hm : b ≠ m) (o : Nat) (vs : List Value) : TRow (w.setCells m o vs) b cs T := (heap_sets_other vs w m o b hm).trans h
theorem TRow.sets {w : World} {b : Nat} {cs : Array Value} {T : TypeId} (h : TRow w b cs T) (o : Nat) (vs : List Value) : TRow (w.setCells b o vs) b (laidOver cs o vs) T := by
 induction vs generalizing o w cs with
 | nil => exact h
 | cons v r ih => exact ih (heap_setCell_same w b o cs T v h) (o + 1)
theorem TRow.store {w : World} {b : Nat} {cs ds : Array Value} {T : TypeId} (h : TRow w b cs T) (hs : ds.size = cs.size) : TRow (w.setCells b 0 ds.toList) b ds T := by
 have := h.sets 0 ds.toList
 rwa [laidOver_all _ _ (by simpa using hs), Array.toArray_toList] at this
theorem TRow.new (w : World) (cs : Array Value) (T : TypeId) : TRow (w.alloc (.cells cs T)) w.heap.size cs T := heap_alloc_new w _
structure SoftT (T : TypeId) where
 S : Value → World → Prop
 on : ∀ v w w', S v w → Ext w w' → S v w'
 st : ∀ v w b ds vs, S v w → TRow w b ds T → S v (w.setCells b 0 vs)
structure RelT (T : TypeId) where
 S : Array Value → World → Prop
 on : ∀ v w w', S v w → Ext w w' → S v w'
 st : ∀ v w b ds vs, S v w → TRow w b ds T → S v (w.setCells b 0 vs)
def SoftT.eq {T : TypeId} (v : Value) : SoftT T := ⟨fun u _ => u = v, fun _ _ _ h _ => h, fun _ _ _ _ _ h _ => h⟩
def SoftT.any {T : TypeId} : SoftT T := ⟨fun _ _ => True, fun _ _ _ _ _ => trivial, fun _ _ _ _ _ _ _ => trivial⟩
def softTs {T : TypeId} (L : List (SoftT T)) (i : Nat) : SoftT T := L.getD i SoftT.any
def rowTL {T : TypeId} (vs : Nat → SoftT T) (ia is B n : Nat) (R : RelT T) (i : Nat) (xs : Nat → Value) (w : World) : Prop :=
 if i = ia then ∃ b, xs ia = .pointer (some ⟨b, 0, none⟩) ∧ B ≤ b ∧ ∃ ds, TRow w b ds T ∧ ds.size = n
 else if i = is then ∃ b cs, xs ia = .pointer (some ⟨b, 0, none⟩) ∧ B ≤ b ∧ TRow w b cs T ∧ cs.size = n ∧ R.S cs w
 else (vs i).S (xs i) w
section
variable {P : Program} {id : Nat} {Q : Exit → Act → World → Prop} {a0 : Act} {w0 : World} {l : List Oper} {T : TypeId}
theorem wp_region_rowT0 (ia is : Nat) (vs : Nat → SoftT T) (n : Nat) (R : RelT T) (hm : P.follows .mixedOrders = true) (hB : allB l = true) (hne : ia ≠ is) (hla : ia < l.length) (hls : is < l.length) (hd : ia ∈ depsOf l is)
  (hopV : ∀ i, i < l.length → i ≠ ia → i ≠ is → ∀ o, l[i]? = some o → ∀ xs w, Ext w0 w → (∀ j, j ∈ depsOf l i → rowTL vs ia is w0.heap.size n R j xs w) → ∀ Q' : Exit → Act → World → Prop, (∀ v w', Ext w w' → (vs i).S v w' → Q' .normal ((fillAt l a0 xs l.length).put o.dst v) w') → wpList P l.toArray Q' [o] (fillAt l a0 xs l.length) w)
  (hopA : ∀ o, l[ia]? = some o → ∀ xs w, Ext w0 w → (∀ j, j ∈ depsOf l ia → rowTL vs ia is w0.heap.size n R j xs w) → ∀ Q' : Exit → Act → World → Prop, (∀ v w', Ext w w' → (∃ b, v = .pointer (some ⟨b, 0, none⟩) ∧ w0.heap.size ≤ b ∧ ∃ ds, TRow w' b ds T ∧ ds.size = n) → Q' .normal ((fillAt l a0 xs l.length).put o.dst v) w') → wpList P l.toArray Q' [o] (fillAt l a0 xs l.length) w)
  (hopS : ∀ o, l[is]? = some o → ∀ xs w, Ext w0 w → (∀ j, j ∈ depsOf l is → rowTL vs ia is w0.heap.size n R j xs w) → ∀ Q' : Exit → Act → World → Prop, (∀ v b cs, xs ia = .pointer (some ⟨b, 0, none⟩) → cs.size = n → R.S cs w → Q' .normal ((fillAt l a0 xs l.length).put o.dst v) (w.setCells b 0 cs.toList)) → wpList P l.toArray Q' [o] (fillAt l a0 xs l.length) w)
  (hend : ∀ xs w b cs, Ext w0 w → xs ia = .pointer (some ⟨b, 0, none⟩) → w0.heap.size ≤ b → TRow w b cs T → R.S cs w → (∀ i, i < l.length → i ≠ ia → i ≠ is → (vs i).S (xs i) w) → Q .normal (fillAt l a0 xs l.length) w) : (Code.region id l.toArray true).wp P Q a0 w0 := by
 refine wp_region_all (rowTL vs ia is w0.heap.size n R) (fun w => Ext w0 w) (fun w w' => Ext w w' ∨ ∃ b cs ds, w0.heap.size ≤ b ∧ TRow w b ds T ∧ ds.size = n ∧ cs.size = n ∧ R.S cs w ∧ w' = w.setCells b 0 cs.toList) hm hB (Ext.drew (Ext.refl w0)) ?_ ?_ ?_ ?_
 ·intro i xs ys w h hL
  unfold rowTL at hL ⊢
  by_cases e1 : i = ia
  ·rw [if_pos e1] at hL ⊢
   rw [← h ia (.inl e1.symm)]
   exact hL
  ·rw [if_neg e1] at hL ⊢
   by_cases e2 : i = is
   ·rw [if_pos e2] at hL ⊢
    rw [← h ia (.inr (by rw [e2]; exact hd))]
    exact hL
   ·rw [if_neg e2] at hL ⊢
    rw [← h i (.inl rfl)]
    exact hL
 ·intro i xs w w' hL hs
  unfold rowTL at hL ⊢
  by_cases e1 : i = ia
  ·rw [if_pos e1] at hL ⊢
   obtain ⟨b, h1, h2, ds, h3, h4⟩ := hL
   refine ⟨b, h1, h2, ?_⟩
   rcases hs with hx | ⟨b', cs, es, hb', k1, k2, k3, k4, rfl⟩
   ·exact ⟨ds, h3.ext hx, h4⟩
   ·by_cases e : b = b'
    ·subst e
     exact ⟨cs, h3.store (by rw [h4, k3]), k3⟩
    ·exact ⟨ds, h3.others e _ _, h4⟩
  ·rw [if_neg e1] at hL ⊢
   by_cases e2 : i = is
   ·rw [if_pos e2] at hL ⊢
    obtain ⟨b, cs, h1, h2, h3, h4, h5⟩ := hL
    rcases hs with hx | ⟨b', cs', es, hb', k1, k2, k3, k4, rfl⟩
    ·exact ⟨b, cs, h1, h2, h3.ext hx, h4, R.on _ _ _ h5 hx⟩
    ·by_cases e : b = b'
     ·subst e
      exact ⟨b, cs', h1, h2, h3.store (by rw [h4, k3]), k3, R.st _ _ _ _ _ k4 k1⟩
     ·exact ⟨b, cs, h1, h2, h3.others e _ _, h4, R.st _ _ _ _ _ h5 k1⟩
   ·rw [if_neg e2] at hL ⊢
    rcases hs with hx | ⟨b', cs', es, hb', k1, k2, k3, k4, rfl⟩
    ·exact (vs i).on _ _ _ hL hx
    ·exact (vs i).st _ _ _ _ _ hL k1
 ·intro i hi o ho xs w hI hdp Q' hQ
  by_cases e1 : i = ia
  ·subst e1
   refine hopA o ho xs w hI hdp Q' (fun v w' hx hv => hQ v w' (hI.trans hx) (.inl hx) ?_)
   unfold rowTL
   rw [if_pos rfl]
   have : updAt xs i v i = v := by simp [updAt]
   rw [this]
   exact hv
  ·by_cases e2 : i = is
   ·subst e2
    obtain ⟨b, h1, h2, ds, h3, h4⟩ : ∃ b, xs ia = .pointer (some ⟨b, 0, none⟩) ∧ w0.heap.size ≤ b ∧ ∃ ds, TRow w b ds T ∧ ds.size = n := by
     have h := hdp ia hd
     unfold rowTL at h
     rwa [if_pos rfl] at h
    refine hopS o ho xs w hI hdp Q' (fun v b' cs hb' hc hR => ?_)
    have : b' = b := by rw [h1] at hb'; injection hb' with k; injection k with k; injection k with k; exact k.symm
    subst this
    refine hQ v _ (hI.setCells h2 _ _) (.inr ⟨b', cs, ds, h2, h3, h4, hc, hR, rfl⟩) ?_
    unfold rowTL
    rw [if_neg e1, if_pos rfl]
    have : updAt xs i v ia = xs ia := by simp [updAt, hne]
    rw [this]
    exact ⟨b', cs, h1, h2, h3.store (by rw [hc, h4]), hc, R.st _ _ _ _ _ hR h3⟩
   ·refine hopV i hi e1 e2 o ho xs w hI hdp Q' (fun v w' hx hv => hQ v w' (hI.trans hx) (.inl hx) ?_)
    unfold rowTL
    rw [if_neg e1, if_neg e2]
    have : updAt xs i v i = v := by simp [updAt]
    rw [this]
    exact hv
 ·intro xs w hI hL
  have hs := hL is hls
  unfold rowTL at hs
  rw [if_neg (Ne.symm hne), if_pos rfl] at hs
  obtain ⟨b, cs, h1, h2, h3, h4, h5⟩ := hs
  refine hend xs w b cs hI h1 h2 h3 h5 (fun i hi e1 e2 => ?_)
  have h := hL i hi
  unfold rowTL at h
  rwa [if_neg e1, if_neg e2] at h
theorem wp_region_rowT (N : Nat) (hN : l.length = N) (ia is : Nat) (vs : Nat → SoftT T) (n : Nat) (R : RelT T) (hm : P.follows .mixedOrders = true) (hB : allB l = true) (hne : ia ≠ is) (hla : ia < N) (hls : is < N) (hd : ia ∈ depsOf l is)
  (hopV : ∀ i, i < N → i ≠ ia → i ≠ is → ∀ o, l[i]? = some o → ∀ xs w, Ext w0 w → (∀ j, j ∈ depsOf l i → rowTL vs ia is w0.heap.size n R j xs w) → ∀ Q' : Exit → Act → World → Prop, (∀ v w', Ext w w' → (vs i).S v w' → Q' .normal ((fillAt l a0 xs N).put o.dst v) w') → wpList P l.toArray Q' [o] (fillAt l a0 xs N) w)
  (hopA : ∀ o, l[ia]? = some o → ∀ xs w, Ext w0 w → (∀ j, j ∈ depsOf l ia → rowTL vs ia is w0.heap.size n R j xs w) → ∀ Q' : Exit → Act → World → Prop, (∀ v w', Ext w w' → (∃ b, v = .pointer (some ⟨b, 0, none⟩) ∧ w0.heap.size ≤ b ∧ ∃ ds, TRow w' b ds T ∧ ds.size = n) → Q' .normal ((fillAt l a0 xs N).put o.dst v) w') → wpList P l.toArray Q' [o] (fillAt l a0 xs N) w)
  (hopS : ∀ o, l[is]? = some o → ∀ xs w, Ext w0 w → (∀ j, j ∈ depsOf l is → rowTL vs ia is w0.heap.size n R j xs w) → ∀ Q' : Exit → Act → World → Prop, (∀ v b cs, xs ia = .pointer (some ⟨b, 0, none⟩) → cs.size = n → R.S cs w → Q' .normal ((fillAt l a0 xs N).put o.dst v) (w.setCells b 0 cs.toList)) → wpList P l.toArray Q' [o] (fillAt l a0 xs N) w)
  (hend : ∀ xs w b cs, Ext w0 w → xs ia = .pointer (some ⟨b, 0, none⟩) → w0.heap.size ≤ b → TRow w b cs T → R.S cs w → (∀ i, i < N → i ≠ ia → i ≠ is → (vs i).S (xs i) w) → Q .normal (fillAt l a0 xs N) w) : (Code.region id l.toArray true).wp P Q a0 w0 := by
 subst hN
 exact wp_region_rowT0 ia is vs n R hm hB hne hla hls hd hopV hopA hopS hend
end
end Go.Proofs.YtpojnhikgjcgmaaGreatDoor