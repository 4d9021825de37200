/- The data of a table's maps, key by key: plain. -/
import Derived.Lib.SlMapMerge
import Derived.Maps.OwnSet
set_option linter.unusedVariables false
set_option linter.unusedSimpArgs false
namespace Go.Proofs.YtpojnhikgjcgmaaGreatDoor
open Go.Maps
open Go.WideAt (IsKeyLit)
structure TabF {K : Type} (kl : K → Lit) (ok : K → Prop) (D : DataW Unit) (f : K → Option Lit) : Prop where
 map : IsMap D
 has : ∀ k, ok k → Maps.has D (kl k) = (f k).isSome
 at' : ∀ k, ok k → ∀ z, D.atKey (kl k) z = ((f k).map DataW.lit).getD z
section
variable {K : Type} {kl : K → Lit} {ok : K → Prop} {D : DataW Unit} {f g : K → Option Lit}
theorem TabF.nil : TabF kl ok (.map []) (fun _ => none) := ⟨⟨[], rfl⟩, fun _ _ => rfl, fun _ _ _ => rfl⟩
open Classical in
noncomputable def putF (f : K → Option Lit) (k0 : K) (u : Lit) : K → Option Lit := fun k => if k = k0 then some u else f k
theorem TabF.put (I : ∀ k k', ok k → ok k' → kl k = kl k' → k = k') (Kl : ∀ k, ok k → IsKeyLit (kl k)) (h : TabF kl ok D f) {k0 : K} (h0 : ok k0) (u : Lit) : TabF kl ok (D.put (kl k0) (.lit u)) (putF f k0 u) := by
 refine ⟨h.map.put _ _, fun k hk => ?_, fun k hk z => ?_⟩
 ·unfold putF
  by_cases e : k = k0
  ·subst e
   rw [if_pos rfl, has_put_same h.map (Kl k hk)]
   rfl
  ·rw [if_neg e, has_put_other (fun e' => e (I _ _ hk h0 e')), h.has k hk]
 ·unfold putF
  by_cases e : k = k0
  ·subst e
   rw [if_pos rfl, atKey_put_same h.map (Kl k hk)]
   rfl
  ·rw [if_neg e, atKey_put_other (fun e' => e (I _ _ hk h0 e')), h.at' k hk]
theorem TabF.congr (h : TabF kl ok D f) (e : ∀ k, ok k → f k = g k) : TabF kl ok D g := ⟨h.map, fun k hk => by rw [h.has k hk, e k hk], fun k hk z => by rw [h.at' k hk, e k hk]⟩
theorem TabF.merge {Ds : DataW Unit} (c : Canon Ds) (h : TabF kl ok Ds f) : TabF kl ok (Lib.mergeD (.map []) Ds) f := by
 obtain ⟨es, rfl, hr, hk⟩ := c
 have hm : IsMap (H := Unit) (.map []) := ⟨[], rfl⟩
 have e : Lib.mergeD (H := Unit) (.map []) (.map es) = es.foldl (fun D p => D.put p.1 p.2) (.map []) := rfl
 rw [e]
 have hmap : ∀ (es : List (Lit × DataW Unit)) (D : DataW Unit), IsMap D → IsMap (es.foldl (fun D p => D.put p.1 p.2) D) := by
  intro es
  induction es with
  | nil => intro D h; exact h
  | cons p t ih => intro D h; exact ih _ (h.put _ _)
 refine ⟨hmap es _ hm, fun k hk' => ?_, fun k hk' z => ?_⟩
 ·rw [has_foldPut _ es _ hm hk, ← h.has k hk', has_eq, has_eq]
  simp
 ·rw [atKey_foldPut _ z es _ hm hk (apart_of_rising hr), ← h.at' k hk' z]
  simp only [DataW.atKey]
  generalize List.find? _ es = o
  cases o <;> rfl
end
section
variable {P : Program} {k t e : TypeId} {w : World} {b n : Nat} {D : DataW Unit}
theorem ownsMap_okI {q : IntKind} (h : w.ownsMap P k (plainElem P e) b n D) (K : Keyed P k) (ht : P.underlying t = some (.map k e)) (he : P.underlying e = some (.int q)) (hz : (zeroValue e).run P w = .ok (.int q 0) w)
  {key : Value} {kl : Lit} (hkey : keyOf P k key = some kl) : ∃ c, (Instr.lookup t (.map (some b)) key true).run P w = .ok (.tuple #[.int q c, .bool (Maps.has D kl)]) w ∧ D.atKey kl (.lit (.int q 0)) = .lit (.int q c) ∧ (Lit.int q c).wf = true := by
 have hw0 : (Lit.int q 0).wf = true := by cases q <;> decide
 obtain ⟨v, ps, hrun, hv⟩ := h.look_ok K ht hz (plainElem_int he hw0) hkey
 obtain ⟨c, rfl, hc, hwc⟩ := plainElem_int_inv he hv
 simp only [Prod.mk.injEq] at hc
 exact ⟨c, hrun, hc.1, hwc⟩
theorem ownsMap_B (h : w.ownsMap P k (plainElem P e) b n D) (K : Keyed P k) (ht : P.underlying t = some (.map k e)) (he : P.underlying e = some .bool) (hz : (zeroValue e).run P w = .ok (.bool false) w)
  {key : Value} {kl : Lit} (hkey : keyOf P k key = some kl) : ∃ c, (Instr.lookup t (.map (some b)) key false).run P w = .ok (.bool c) w ∧ D.atKey kl (.lit (.bool false)) = .lit (.bool c) := by
 obtain ⟨v, ps, hrun, hv⟩ := h.lookup K ht hz (plainElem_bool he false) hkey
 unfold plainElem at hv
 rw [he] at hv
 cases v <;> simp at hv
 exact ⟨_, hrun, hv.1.symm⟩
end
end Go.Proofs.YtpojnhikgjcgmaaGreatDoor