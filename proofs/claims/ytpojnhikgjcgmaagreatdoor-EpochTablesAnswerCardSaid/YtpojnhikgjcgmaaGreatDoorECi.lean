/- A map of strings as pairs by their keys. -/
import Derived.Maps.StringElems
import Derived.Sort.KeysCollected
import Derived.Test.YtpojnhikgjcgmaaGreatDoorECa
set_option linter.unusedVariables false
set_option linter.unusedSimpArgs false
namespace Go.Proofs.YtpojnhikgjcgmaaGreatDoor
open Go Go.Maps
open Go.Proofs.YtpojnhikgjcgmaaGreatDoor.Ad (Pr putP AscP)
theorem keyLit (k : List UInt8) : WideAt.IsKeyLit (.string k) := trivial
theorem asc_nodup {L : List Pr} (h : AscP L) : (L.map (·.1)).Nodup := h.imp fun hlt e => by rw [e] at hlt; exact List.lt_irrefl _ hlt
theorem asc_one {L : List Pr} (h : AscP L) {p q : Pr} (hp : p ∈ L) (hq : q ∈ L) (e : p.1 = q.1) : p = q := by
 have hn := asc_nodup h
 induction L with
 | nil => cases hp
 | cons x l ih =>
  have hc := List.pairwise_cons.1 hn
  have ha := List.pairwise_cons.1 h
  rcases List.mem_cons.1 hp with rfl | hp'
  ·rcases List.mem_cons.1 hq with rfl | hq'
   ·rfl
   ·exact absurd e (hc.1 _ (List.mem_map_of_mem hq'))
  ·rcases List.mem_cons.1 hq with rfl | hq'
   ·exact absurd e.symm (hc.1 _ (List.mem_map_of_mem hp'))
   ·exact ih ha.2 hp' hq' hc.2
theorem putP_has (p : Pr) : ∀ L : List Pr, p ∈ putP p L
 | [] => by simp [putP]
 | q :: r => by
  unfold putP
  split
  ·simp
  ·split
   ·simp
   ·exact List.mem_cons_of_mem _ (putP_has p r)
structure MapIs {H : Type} (D : DataW H) (L : List Pr) : Prop where
 tidy : Tidy D
 has : ∀ k : List UInt8, Maps.has D (.string k) = true ↔ k ∈ L.map (·.1)
 val : ∀ p ∈ L, ∀ z, D.atKey (.string p.1) z = .lit (.string p.2)
theorem MapIs.nil {H : Type} : MapIs (.map [] : DataW H) [] := ⟨tidy_empty, fun k => by simp [Maps.has_eq], fun p hp => by cases hp⟩
theorem MapIs.put {H : Type} {D : DataW H} {L : List Pr} (h : MapIs D L) (ha : AscP L) (p : Pr) : MapIs (D.put (.string p.1) (.lit (.string p.2))) (putP p L) := by
 refine ⟨h.tidy.put (keyLit _) _, fun k => ?_, fun q hq z => ?_⟩
 ·rw [Ad.putP_keys]
  by_cases e : k = p.1
  ·subst e
   rw [has_put_same h.tidy.isMap (keyLit _)]
   simp
  ·rw [has_put_other (fun e' => e (by injection e')), h.has]
   simp [e]
 ·by_cases e : q.1 = p.1
  ·have e2 : q = p := asc_one (Ad.putP_asc p ha) hq (putP_has p L) e
   rw [e2, atKey_put_same h.tidy.isMap (keyLit _)]
  ·rw [atKey_put_other (fun e' => e (by injection e'))]
   rcases Ad.putP_mem p L q hq with e2 | h2
   ·exact absurd (by rw [e2]) e
   ·exact h.val q h2 z
theorem asc_sorted {L : List Pr} (h : AscP L) {ss : List (List UInt8)} (hp : ss.Perm (L.map (·.1))) : ss.mergeSort (fun x y => decide (x ≤ y)) = L.map (·.1) := by
 have e := mergeSort_of_perm hp
 unfold leB at e
 rw [e]
 refine List.mergeSort_of_pairwise ?_
 exact h.imp fun hlt => by rw [decide_eq_true_eq]; exact List.le_of_lt hlt
theorem MapIs.keys {H : Type} {D : DataW H} {L : List Pr} (h : MapIs D L) (ha : AscP L) {P : Program} {k : TypeId} {R : Value → Option (DataW H × List MemPlace)} {w : World} {b n : Nat} (hown : w.ownsMap P k R b n D) (K : Keyed P k) (hk : P.underlying k = some .string) {ss : List (List UInt8)} (hs : ss.Perm (strKeys D)) : ss.mergeSort (fun x y => decide (x ≤ y)) = L.map (·.1) := by
 have hc : Collected D (fun _ => false) (L.map (·.1)) := ⟨asc_nodup ha, fun x => by rw [h.has x]; simp⟩
 exact asc_sorted ha (hs.trans (hc.perm hown K hk (fun _ => rfl)).symm)
theorem MapIs.size {H : Type} {D : DataW H} {L : List Pr} (h : MapIs D L) (ha : AscP L) {P : Program} {k : TypeId} {R : Value → Option (DataW H × List MemPlace)} {w : World} {b n : Nat} (hown : w.ownsMap P k R b n D) (K : Keyed P k) (hk : P.underlying k = some .string) : Maps.size D = L.length := by
 have hc : Collected D (fun _ => false) (L.map (·.1)) := ⟨asc_nodup ha, fun x => by rw [h.has x]; simp⟩
 have hl := (hc.perm hown K hk (fun _ => rfl)).length_eq
 obtain ⟨es, rfl⟩ := h.tidy.isMap
 rw [List.length_map] at hl
 rw [hl]
 show es.length = (es.map fun p => strOf p.1).length
 rw [List.length_map]
end Go.Proofs.YtpojnhikgjcgmaaGreatDoor