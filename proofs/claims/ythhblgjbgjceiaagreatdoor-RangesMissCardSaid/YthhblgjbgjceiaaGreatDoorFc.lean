/- Walks of ranges: Missing, Covers. -/
import Derived.Test.YthhblgjbgjceiaaGreatDoorProg
import Derived.Test.YthhblgjbgjceiaaGreatDoorExt
import Derived.WalkKit
import Derived.WalkSpells
import Derived.WalkLawsBesides
import Derived.Deep.QuietTactic
import Derived.BigQuiet
import Derived.Test.YthhblgjbgjceiaaGreatDoorCy
set_option linter.unusedVariables false
set_option linter.unusedSimpArgs false
namespace Go.Proofs.YthhblgjbgjceiaaGreatDoor
open Go.RowKit Go.Shelf
open Go.Proofs
open Go.Proofs.Sp (Sp)

def bd1 (s : Sp) : Prop := (-4611686018427387904 ≤ s.1 ∧ s.1 ≤ 4611686018427387903) ∧ -4611686018427387904 ≤ s.2 ∧ s.2 ≤ 4611686018427387903
theorem one_set {s : Sp} {out : List Sp} (h : SetOf (Sp.mem [s]) out) (hb : s.1 < s.2 → bd1 s) : bd2 out ∧ out.length ≤ 1 := by
  obtain ⟨h1, h2⟩ := h
  by_cases hs : s.1 < s.2
  · have e : out = [s] := Sp.IsSet.ext h1 (Sp.IsSet.one hs) h2
    subst e
    exact ⟨fun t ht => by simp at ht; subst ht; exact hb hs, by simp⟩
  · have e : out = [] := Sp.IsSet.ext h1 Sp.IsSet.nil (fun x => (h2 x).trans ((Sp.mem_one s x).trans ⟨fun k => by omega, fun k => (Sp.mem_nil x k).elim⟩))
    subst e
    exact ⟨fun t ht => (by cases ht), by simp⟩
set_option maxRecDepth 100000 in
set_option maxHeartbeats 1000000 in
theorem missing_anyW (A : Option Addr) (c : Nat) (l : List Sp) (s : Sp) (w : World) (hs : Sp.IsSet l) (hb : bd2 l) (hb1 : s.1 < s.2 → bd1 s) (hlen : l.length * 32 ≤ 140737488340000) (hr : ReadsSp w w.heap.size A l) (z : A = none → c = 0) :
    Calls Tryz.prog 31 #[.slice A l.length c, .agg #[.int .i64 s.1, .int .i64 s.2]] w fun e w' => ∃ A' c' out, e = .returned (.slice A' out.length c') ∧ Hid (SetOf (fun x => (s.1 ≤ x ∧ x < s.2) ∧ ¬ Sp.mem l x) out) ∧ out.length ≤ (1 + l.length) * 2 ∧ OwnsSp w.heap.size w' A' c' out ∧ Ext w w' := by
  have HR := Lib.hid hr
  have HZ := Lib.hid z
  have HS := Lib.hid hs
  have HB := Lib.hid hb
  have HB1 := Lib.hid hb1
  clear hr z hs hb hb1
  obtain ⟨s1, s2⟩ := s
  go_enter Tryz.func31, Tryz.ntmps31
  go_wp2_with (first
    | (go_at_call 33; refine (of_anyW s1 (some ⟨w.heap.size + 1, 0, none⟩) 1 [(s1, s2)] _ (fun t ht => by simp at ht; subst ht; simp only []; omega) (by simp) (fun _ => ⟨w.heap.size + 1, 0, rfl, by simp, fun i hi j v hv => by
        have : i = 0 := by simp at hi; omega
        subst this
        have hj := (List.getElem?_eq_some_iff.1 hv).1
        simp only [encSp, List.length_cons, List.length_nil] at hj
        rw [alloc_cell_if, if_pos (by simp)]
        have h3 : j = 0 ∨ j = 1 := by omega
        rcases h3 with h3 | h3 <;> subst h3 <;> simp [encSp] at hv <;> subst hv <;> rfl⟩)).mono ?_; rintro e w1 ⟨A1, c1, o1, rfl, HS1, hol, ho1, hx1⟩; have HSo := Lib.hid (of_set HS1.out); have HO1 := Lib.hid ho1; have HX1 : Hid (Ext w w1) := Lib.hid ((((Ext.refl w).alloc _).alloc _).trans hx1); have hol1 : o1.length ≤ 1 := hol; clear ho1 hx1)
    | (go_at_call 38; refine (minus_any A1 c1 o1 A c l _ HSo.out.1 HS.out (one_set HSo.out HB1.out).1 HB.out (by omega) (HO1.out.reads spE) (HR.out.on HX1.out) HO1.out.none0 HZ.out).mono ?_; rintro e w2 ⟨A2, c2, out, rfl, HS2, hol2, ho2, hx2⟩; have HO2 := Lib.hid ho2; have HX2 := Lib.hid hx2; clear ho2 hx2))
  go_ret
  refine ⟨A2, c2, out, rfl, Lib.hid ⟨HS2.out.1, fun x => (HS2.out.2 x).trans ?_⟩, by omega, HO2.out.lower HX1.out.size, HX1.out.trans HX2.out⟩
  show (Sp.mem o1 x ∧ ¬ Sp.mem l x) ↔ _
  rw [HSo.out.2 x, Sp.mem_one]
theorem missing_any (A : Option Addr) (c : Nat) (l : List Sp) (s : Sp) (w : World) (hs : Sp.IsSet l) (hb : bd2 l) (hb1 : bd1 s) (hlen : l.length * 32 ≤ 140737488340000) (hr : ReadsSp w w.heap.size A l) (z : A = none → c = 0) :
    Calls Tryz.prog 31 #[.slice A l.length c, .agg #[.int .i64 s.1, .int .i64 s.2]] w fun e w' => ∃ A' c' out, e = .returned (.slice A' out.length c') ∧ Hid (SetOf (fun x => (s.1 ≤ x ∧ x < s.2) ∧ ¬ Sp.mem l x) out) ∧ out.length ≤ (1 + l.length) * 2 ∧ OwnsSp w.heap.size w' A' c' out ∧ Ext w w' := missing_anyW A c l s w hs hb (fun _ => hb1) hlen hr z
/-- All bytes of a span are in a set. -/
def coversB (l : List Sp) (s : Sp) (b : Bool) : Prop := b = true ↔ ∀ x, s.1 ≤ x → x < s.2 → Sp.mem l x
theorem empty_covers {l out : List Sp} {s : Sp} (h : SetOf (fun x => (s.1 ≤ x ∧ x < s.2) ∧ ¬ Sp.mem l x) out) : coversB l s (decide (out.length = 0)) := by
  unfold coversB
  rw [decide_eq_true_iff]
  constructor
  · intro e x h1 h2
    have e' : out = [] := List.eq_nil_of_length_eq_zero e
    subst e'
    exact Classical.byContradiction fun hn => Sp.mem_nil x ((h.2 x).2 ⟨⟨h1, h2⟩, hn⟩)
  · intro hh
    cases out with
    | nil => rfl
    | cons t r =>
      have ht := h.1.2 t (List.mem_cons_self ..)
      obtain ⟨⟨k1, k2⟩, k3⟩ := (h.2 t.1).1 ((Sp.mem_cons ..).2 (.inl ⟨Int.le_refl _, ht⟩))
      exact absurd (hh _ k1 k2) k3
set_option maxRecDepth 100000 in
theorem covers_anyW (A : Option Addr) (c : Nat) (l : List Sp) (s : Sp) (w : World) (hs : Sp.IsSet l) (hb : bd2 l) (hb1 : s.1 < s.2 → bd1 s) (hlen : l.length * 32 ≤ 140737488330000) (hr : ReadsSp w w.heap.size A l) (z : A = none → c = 0) :
    Calls Tryz.prog 34 #[.slice A l.length c, .agg #[.int .i64 s.1, .int .i64 s.2]] w fun e w' => ∃ b, e = .returned (.bool b) ∧ Hid (coversB l s b) ∧ Ext w w' := by
  have HR := Lib.hid hr
  have HZ := Lib.hid z
  have HS := Lib.hid hs
  have HB := Lib.hid hb
  have HB1 := Lib.hid hb1
  clear hr z hs hb hb1
  go_enter Tryz.func34, Tryz.ntmps34
  go_wp2_with (go_at_call 31; refine (missing_anyW A c l s _ HS.out HB.out HB1.out (by omega) (HR.out.on ((Ext.refl _).alloc _)) HZ.out).mono ?_; rintro e w2 ⟨A2, c2, out, rfl, HS2, hol2, ho2, hx2⟩; have HX2 : Hid (Ext w w2) := Lib.hid (((Ext.refl w).alloc _).trans hx2); clear ho2 hx2)
  all_goals
    go_ret
    refine ⟨_, rfl, ?_, HX2.out⟩
    have h := empty_covers HS2.out
    have e : ((out.length : Int) == 0) = decide (out.length = 0) := by rw [Bool.eq_iff_iff]; simp
    rw [e]
    exact Lib.hid h
theorem covers_any (A : Option Addr) (c : Nat) (l : List Sp) (s : Sp) (w : World) (hs : Sp.IsSet l) (hb : bd2 l) (hb1 : bd1 s) (hlen : l.length * 32 ≤ 140737488330000) (hr : ReadsSp w w.heap.size A l) (z : A = none → c = 0) :
    Calls Tryz.prog 34 #[.slice A l.length c, .agg #[.int .i64 s.1, .int .i64 s.2]] w fun e w' => ∃ b, e = .returned (.bool b) ∧ Hid (coversB l s b) ∧ Ext w w' := covers_anyW A c l s w hs hb (fun _ => hb1) hlen hr z
end Go.Proofs.YthhblgjbgjceiaaGreatDoor
