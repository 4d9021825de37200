/- Sets of bytes: every function of ranges and of its specification, in one form: what comes back reads as a list. -/
import Derived.Test.YthhblgjbgjceiaaGreatDoorProg
import Derived.Test.YthhblgjbgjceiaaGreatDoorExt
import Derived.WalkKit
import Derived.WalkSpells
import Derived.WalkLawsBesides
import Derived.Deep.QuietTactic
import Derived.BigQuiet
import Derived.Test.YthhblgjbgjceiaaGreatDoorRc
import Derived.Test.YthhblgjbgjceiaaGreatDoorPv
import Derived.Test.YthhblgjbgjceiaaGreatDoorRp
set_option linter.unusedVariables false
set_option linter.unusedSimpArgs false
namespace Go.Proofs.YthhblgjbgjceiaaGreatDoor
open Go.RowKit Go.Shelf
open Go.Proofs
open Go.Proofs.Sp (Sp)

/-- A slice of spans that is there. -/
structure SlIn (A : Option Addr) (c : Nat) (l : List Sp) (w : World) : Prop where
  hr : ReadsSp w w.heap.size A l
  z : A = none → c = 0
  p : plainA A
theorem SlIn.on {A : Option Addr} {c : Nat} {l : List Sp} {w w' : World} (h : SlIn A c l w) (hx : Ext w w') : SlIn A c l w' := ⟨h.hr.on hx, h.z, h.p⟩
theorem slin_own {base : Nat} {w : World} {A : Option Addr} {c : Nat} {l : List Sp} (h : OwnsSp base w A c l) : SlIn A c l w := ⟨h.reads spE, h.none0, OwnsSp.plain h⟩
theorem slin_nil (w : World) : SlIn none 0 [] w := ⟨Reads.nil _ _ _ _ _, fun _ => rfl, fun a h => by cases h⟩
def SlIs (l : List Sp) (w : World) (e : Ending) (w' : World) : Prop := ∃ A' c', e = .returned (.slice A' l.length c') ∧ SlIn A' c' l w' ∧ Ext w w'
theorem len40 {l : List Sp} (h : SetIn l 1099511627776) : l.length ≤ 1099511627776 := by
  have := h.len (by decide)
  omega
theorem ok_bd1 {s : Sp} (h : OkSp s) : s.1 < s.2 → bd1 s := fun k => by
  have := h k
  unfold bd1
  omega
theorem good_ok {s : Sp} (h : goodB s = true) : OkSp s := fun k => by
  unfold goodB emptyB at h
  simp only [Bool.or_eq_true, Bool.and_eq_true, decide_eq_true_eq] at h
  omega
section
variable {A B : Option Addr} {c d : Nat} {a b : List Sp} {s : Sp} {w : World}
theorem pminus_is (ha : SetIn a 1099511627776) (hb : SetIn b 1099511627776) (h1 : SlIn A c a w) (h2 : SlIn B d b w) :
    Calls Tryz.prog 38 #[.slice A a.length c, .slice B b.length d] w (SlIs (Sp.rMinus a b) w) := by
  have l1 := len40 ha
  have l2 := len40 hb
  refine (minus_any A c a B d b w ha.1 hb.1 (ha.bd2 (Int.le_refl _)) (hb.bd2 (Int.le_refl _)) (by omega) h1.hr h2.hr h1.z h2.z).mono ?_
  rintro e w3 ⟨A3, c3, o3, rfl, HS3, _, ho3, hx3⟩
  obtain rfl : o3 = Sp.rMinus a b := setOf_uniq HS3.out (Sp.rMinus_spec _ ha.1)
  exact ⟨A3, c3, rfl, slin_own ho3, hx3⟩
theorem rminus_is (ha : SetIn a 1099511627776) (hb : SetIn b 1099511627776) (h1 : SlIn A c a w) (h2 : SlIn B d b w) :
    Calls Tryz.prog 39 #[.slice A a.length c, .slice B b.length d] w (SlIs (Sp.rMinus a b) w) := by
  have l2 := len40 hb
  refine (rminus_any A c a B d b w ha (by omega) h1.hr h2.hr h1.z).mono ?_
  rintro e w3 ⟨A3, c3, o3, rfl, HS3, ho3, hx3⟩
  obtain rfl := HS3.out
  exact ⟨A3, c3, rfl, slin_own ho3, hx3⟩
theorem pmeet_is (ha : SetIn a 1099511627776) (hb : SetIn b 1099511627776) (h1 : SlIn A c a w) (h2 : SlIn B d b w) :
    Calls Tryz.prog 32 #[.slice A a.length c, .slice B b.length d] w (SlIs (rMeet a b) w) := by
  have l1 := len40 ha
  have l2 := len40 hb
  refine (meet_any A c a B d b w ha.1 hb.1 (ha.bd2 (Int.le_refl _)) (hb.bd2 (Int.le_refl _)) (by omega) h1.hr h2.hr h1.z h2.z).mono ?_
  rintro e w3 ⟨A3, c3, o3, rfl, HS3, _, ho3, hx3⟩
  obtain rfl : o3 = rMeet a b := setOf_uniq HS3.out (rMeet_spec ha.1)
  exact ⟨A3, c3, rfl, slin_own ho3, hx3⟩
theorem rmeet_is (ha : SetIn a 1099511627776) (hb : SetIn b 1099511627776) (h1 : SlIn A c a w) (h2 : SlIn B d b w) :
    Calls Tryz.prog 40 #[.slice A a.length c, .slice B b.length d] w (SlIs (rMeet a b) w) := by
  have l2 := len40 hb
  refine (rmeet_any A c a B d b w ha (by omega) h1.hr h2.hr h1.z).mono ?_
  rintro e w3 ⟨A3, c3, o3, rfl, HS3, ho3, hx3⟩
  obtain rfl := HS3.out
  exact ⟨A3, c3, rfl, slin_own ho3, hx3⟩
theorem pmissing_is (ha : SetIn a 1099511627776) (hs : OkSp s) (h1 : SlIn A c a w) :
    Calls Tryz.prog 31 #[.slice A a.length c, .agg #[.int .i64 s.1, .int .i64 s.2]] w (SlIs (rMissing a s) w) := by
  have l1 := len40 ha
  refine (missing_anyW A c a s w ha.1 (ha.bd2 (Int.le_refl _)) (ok_bd1 hs) (by omega) h1.hr h1.z).mono ?_
  rintro e w3 ⟨A3, c3, o3, rfl, HS3, _, ho3, hx3⟩
  obtain rfl : o3 = rMissing a s := setOf_uniq HS3.out (rMissing_spec _ _)
  exact ⟨A3, c3, rfl, slin_own ho3, hx3⟩
theorem rmissing_is (ha : SetIn a 1099511627776) (hs : OkSp s) (h1 : SlIn A c a w) :
    Calls Tryz.prog 41 #[.slice A a.length c, .agg #[.int .i64 s.1, .int .i64 s.2]] w (SlIs (rMissing a s) w) := by
  have l1 := len40 ha
  refine (rmissing_any A c a s w hs (by omega) h1.hr).mono ?_
  rintro e w3 ⟨A3, c3, o3, rfl, HS3, ho3, hx3⟩
  obtain rfl := HS3.out
  exact ⟨A3, c3, rfl, slin_own ho3, hx3⟩
theorem pcovers_is (ha : SetIn a 1099511627776) (hs : OkSp s) (h1 : SlIn A c a w) :
    Calls Tryz.prog 34 #[.slice A a.length c, .agg #[.int .i64 s.1, .int .i64 s.2]] w fun e w' => e = .returned (.bool (rCoversB a s)) ∧ Ext w w' := by
  have l1 := len40 ha
  refine (covers_anyW A c a s w ha.1 (ha.bd2 (Int.le_refl _)) (ok_bd1 hs) (by omega) h1.hr h1.z).mono ?_
  rintro e w3 ⟨q, rfl, hq, hx3⟩
  exact ⟨by rw [coversB_uniq hq.out (rCovers_spec a s)], hx3⟩
theorem rcovers_is (ha : SetIn a 1099511627776) (hs : OkSp s) (h1 : SlIn A c a w) :
    Calls Tryz.prog 22 #[.slice A a.length c, .agg #[.int .i64 s.1, .int .i64 s.2]] w fun e w' => e = .returned (.bool (rCoversB a s)) ∧ Ext w w' := by
  have l1 := len40 ha
  exact rcovers_any A c a s w hs (by omega) h1.hr
theorem padd_is (ha : SetIn a 1099511627776) (hs : s.1 < s.2 → 0 ≤ s.1 ∧ s.2 ≤ 1099511627776) (h0 : 0 ≤ s.1 ∧ s.1 ≤ 1099511627776) (h1 : SlIn A c a w) :
    Calls Tryz.prog 35 #[.slice A a.length c, .agg #[.int .i64 s.1, .int .i64 s.2]] w (SlIs (Sp.rAdd a s) w) := by
  have l1 := len40 ha
  refine (add_any A c a s w h1.p (fun t ht => ?_) (by omega) h1.hr).mono ?_
  · rcases List.mem_append.1 ht with k | k
    · have := ha.2 t k
      have := ha.1.2 t k
      omega
    · simp at k; subst k; omega
  rintro e w3 ⟨A3, c3, o3, rfl, HS3, _, ho3, hx3⟩
  obtain ⟨k1, k2⟩ := of_set HS3.out
  obtain ⟨m1, m2⟩ := Sp.rAdd_spec ha.1 s
  obtain rfl : o3 = Sp.rAdd a s := Sp.IsSet.ext k1 m1 (fun x => by
    rw [k2 x, m2 x]
    constructor
    · rintro ⟨t, ht, q⟩
      rcases List.mem_append.1 ht with k | k
      · exact .inl ⟨t, k, q⟩
      · simp at k; subst k; exact .inr q
    · rintro (⟨t, ht, q⟩ | q)
      · exact ⟨t, List.mem_append.2 (.inl ht), q⟩
      · exact ⟨s, List.mem_append.2 (.inr (by simp)), q⟩)
  exact ⟨A3, c3, rfl, slin_own ho3, hx3⟩
theorem pof_is (m : Int) (hb : bdW m a) (hl : a.length * 16 ≤ 140737488355000) (h1 : SlIn A c a w) :
    Calls Tryz.prog 33 #[.slice A a.length c] w (SlIs (Rp.unionN a) w) := by
  refine (of_anyW m A c a w hb (by omega) h1.hr).mono ?_
  rintro e w3 ⟨A3, c3, o3, rfl, HS3, _, ho3, hx3⟩
  obtain ⟨k1, k2⟩ := of_set HS3.out
  obtain rfl : o3 = Rp.unionN a := Rp.union_alike k1 k2
  exact ⟨A3, c3, rfl, slin_own ho3, hx3⟩
theorem ptotal_is (ha : SetIn a 1099511627776) (h1 : SlIn A c a w) :
    Calls Tryz.prog 37 #[.slice A a.length c] w fun e w' => e = .returned (.int .i64 (totN a)) ∧ Ext w w' := by
  have l1 := len40 ha
  exact total_any A c a w ha (by omega) h1.hr
theorem rtotal_is (ha : SetIn a 1099511627776) (h1 : SlIn A c a w) :
    Calls Tryz.prog 42 #[.slice A a.length c] w fun e w' => e = .returned (.int .i64 (totN a)) ∧ Ext w w' := by
  have l1 := len40 ha
  exact rtotal_any A c a w ha (by omega) h1.hr
theorem phas_is (x : Int) (ha : SetIn a 1099511627776) (h1 : SlIn A c a w) :
    Calls Tryz.prog 43 #[.slice A a.length c, .int .i64 x] w fun e w' => e = .returned (.bool (hasB a x)) ∧ Ext w w' := by
  have l1 := len40 ha
  exact has_any A c a x w (by omega) h1.hr
theorem rhas_is (x : Int) (ha : SetIn a 1099511627776) (h1 : SlIn A c a w) :
    Calls Tryz.prog 44 #[.slice A a.length c, .int .i64 x] w fun e w' => e = .returned (.bool (hasB a x)) ∧ Ext w w' := by
  have l1 := len40 ha
  exact rhas_any A c a x w (by omega) h1.hr
theorem rvalid_is (v : Bool) (hv : setB a = v) (hl : a.length ≤ 140737488355328) (h1 : SlIn A c a w) :
    Calls Tryz.prog 27 #[.slice A a.length c] w fun e w' => e = .returned (.bool v) ∧ Ext w w' := by
  subst hv
  exact rvalid_any A c a w hl h1.hr
theorem rvalid_yes (ha : SetIn a 1099511627776) (h1 : SlIn A c a w) :
    Calls Tryz.prog 27 #[.slice A a.length c] w fun e w' => e = .returned (.bool true) ∧ Ext w w' := by
  have l1 := len40 ha
  exact rvalid_is true (set_setB ha) (by omega) h1
theorem pvalid_yes (ha : SetIn a 1099511627776) (h1 : SlIn A c a w) :
    Calls Tryz.prog 36 #[.slice A a.length c] w fun e w' => e = .returned (.bool true) ∧ Ext w w' := by
  have l1 := len40 ha
  have := pvalid_any A c a w (by omega) h1.hr
  rwa [set_setB ha] at this
theorem rsame_is (hl : a.length ≤ 140737488355328) (h1 : SlIn A c a w) (h2 : SlIn B d a w) :
    Calls Tryz.prog 26 #[.slice A a.length c, .slice B a.length d] w fun e w' => e = .returned (.bool true) ∧ Ext w w' := rsame_any A B c d a w hl h1.hr h2.hr
end
theorem rMeet_in {a b : List Sp} {n : Int} (ha : SetIn a n) : SetIn (rMeet a b) n := rMinus_in2 ha
theorem rMissing_in {a : List Sp} {s : Sp} (hs : OkSp s) : SetIn (rMissing a s) 1099511627776 := by
  have h := rMissing_spec a s
  refine SetIn.of_mem h.1 (fun x hx => ?_)
  have := ((h.2 x).1 hx).1
  have := hs (by omega)
  omega
end Go.Proofs.YthhblgjbgjceiaaGreatDoor
