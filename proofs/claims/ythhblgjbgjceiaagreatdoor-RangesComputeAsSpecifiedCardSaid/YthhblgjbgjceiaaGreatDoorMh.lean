/- Walks of the specification's sets of spans: Add. -/
import Derived.Test.YthhblgjbgjceiaaGreatDoorProg
import Derived.Test.YthhblgjbgjceiaaGreatDoorExt
import Derived.WalkKit
import Derived.WalkSpells
import Derived.WalkLawsBesides
import Derived.Deep.QuietTactic
import Derived.BigQuiet
import Derived.Test.YthhblgjbgjceiaaGreatDoorMs
import Derived.Test.YthhblgjbgjceiaaGreatDoorOj
import Derived.BigRegion
set_option linter.unusedVariables false
set_option linter.unusedSimpArgs false
namespace Go.Proofs.YthhblgjbgjceiaaGreatDoor
open Go.RowKit Go.Shelf
open Go.Proofs
open Go.Proofs.Sp (Sp)

/-- A slice literal with nothing in it. -/
theorem own_lit0 (w : World) (base b : Nat) (hb : base ≤ b) (hw : b = w.heap.size) : OwnsSp base (w.alloc (.cells #[] 52)) (some ⟨b, 0, none⟩) 0 [] := by
  subst hw
  exact Owns.mk spE hb (World.alloc_heap_new w _) (Nat.le_refl _) (Nat.zero_le _) rfl rfl
theorem own_lit1 (w : World) (base b : Nat) (s : Sp) (hb : base ≤ b) (hw : b = w.heap.size) : OwnsSp base (w.alloc (.cells #[.int .i64 s.1, .int .i64 s.2] 52)) (some ⟨b, 0, none⟩) 1 [s] := by
  subst hw
  exact Owns.mk spE hb (World.alloc_heap_new w _) (Nat.le_refl _) (by unfold maxLen; omega) rfl rfl

def newSp (base : Nat) : Soft := ⟨fun v w => ∃ b, v = .pointer (some ⟨b, 0, none⟩) ∧ base ≤ b ∧ RowAt w b #[.int .i64 0, .int .i64 0], fun v w w' ⟨b, h1, h2, h3⟩ hx => ⟨b, h1, h2, h3.ext hx⟩⟩
def softL (vs : List Value) (base : Nat) (i : Nat) : Soft := if i < vs.length then .eq (vs.getD i undef) else newSp base
def RCutRel (w : World) (s : Sp) (l : List Sp) (i v : Value) (wr : World) : Prop := ∃ (k : Nat) (A' : Option Addr) (c' : Nat) (out : List Sp), k ≤ l.length ∧ i = .int .i64 k ∧ v = .slice A' out.length c' ∧ out.length ≤ k * 2 ∧ Hid (out = (l.take k).flatMap (Sp.cutOne · s)) ∧ Hid (OwnsSp (w.heap.size + 1) wr A' c' out) ∧ Hid (Ext w wr) ∧ Hid (RowAt wr w.heap.size #[.int .i64 s.1, .int .i64 s.2])
theorem cut_snoc (s : Sp) (l : List Sp) (k : Nat) (h : k < l.length) : (l.take (k + 1)).flatMap (Sp.cutOne · s) = (l.take k).flatMap (Sp.cutOne · s) ++ Sp.cutOne l[k] s := by
  rw [List.take_succ_eq_append_getElem h, List.flatMap_append]
  simp
theorem app_keep {w w' : World} {A : Option Addr} {n c B : Nat} (h : w.grownBy w' (Value.slice A n c).ownBlock) (hA : ∀ a, A = some a → a.block < B) {p : Addr} (hp : B ≤ p.block) (hp2 : p.block < w.heap.size) : w'.cell? p = w.cell? p := by
  refine World.cell?_of_block (w := w) (h.block p.block hp2 fun e => ?_)
  cases A with
  | none => simp [Value.ownBlock] at e
  | some a =>
    simp [Value.ownBlock] at e
    have := hA a rfl
    omega
theorem cutOne_is {a s : Sp} {p q : Bool} (h1 : decide (min a.2 s.1 ≤ a.1) = p) (h2 : decide (a.2 ≤ max a.1 s.2) = q) : Sp.cutOne a s = (if p = true then [] else [(a.1, min a.2 s.1)]) ++ (if q = true then [] else [(max a.1 s.2, a.2)]) := by
  subst h1 h2
  unfold Sp.cutOne
  simp only [decide_eq_true_eq]
theorem cutOne_eq (a s : Sp) : Sp.cutOne a s = (if emptyB (a.1, min a.2 s.1) = true then [] else [(a.1, min a.2 s.1)]) ++ (if emptyB (max a.1 s.2, a.2) = true then [] else [(max a.1 s.2, a.2)]) := by
  unfold Sp.cutOne emptyB
  simp only [decide_eq_true_eq]
theorem emptyB_is {a b : Int} {q : Bool} (h : decide (b ≤ a) = q) : emptyB (a, b) = q := h

set_option maxRecDepth 100000 in
set_option maxHeartbeats 2000000 in
theorem rcut_any (A : Option Addr) (c : Nat) (l : List Sp) (s : Sp) (w : World) (hlen : l.length * 32 ≤ 140737488350000) (hr : ReadsSp w w.heap.size A l) (z : A = none → c = 0) :
    Calls Tryz.prog 77 #[.slice A l.length c, .agg #[.int .i64 s.1, .int .i64 s.2]] w fun e' w' => ∃ A' c' out, e' = .returned (.slice A' out.length c') ∧ Hid (out = Sp.rCut l s) ∧ out.length ≤ l.length * 2 ∧ OwnsSp w.heap.size w' A' c' out ∧ Ext w w' := by
  have HR := Lib.hid hr
  have HZ := Lib.hid z
  clear hr z
  by_cases he : s.2 ≤ s.1
  · have HE : Hid (emptyB s = true) := Lib.hid (by simpa [emptyB] using he)
    have HL : Hid (Sp.rCut l s = l) := Lib.hid (by unfold Sp.rCut; rw [if_pos he])
    clear he
    go_enter Tryz.func77, Tryz.ntmps77
    go_wp2_with (first
      | (go_at_call 62; refine (rempty_is s true _ HE.out).mono ?_; rintro e w' ⟨rfl, hxl⟩; obtain ⟨xl, rfl⟩ := hxl.asLater; clear hxl)
      | (at_builtin; refine app_reads spT spE rfl _ _ rfl (w.heap.size + 1) _ _ [] rfl (own_lit0 _ _ _ (by first | omega | (simp [later_size, setCells_size]; done) | (simp [later_size, setCells_size]; omega)) (by first | omega | (simp [later_size, setCells_size]; done) | (simp [later_size, setCells_size]; omega))) w.heap.size A c l rfl (HR.out.ext (by (repeat (first | with_reducible exact Ext.refl _ | with_reducible exact Ext.refl _ | with_reducible refine Ext.drew ?_ | with_reducible refine Ext.drewN ?_ _ | with_reducible refine Ext.alloc ?_ _ | with_reducible refine Ext.onto ?_ _ | (with_reducible refine Ext.setCells ?_ ?_ _ _; rotate_left; focus (first | omega | (simp; done) | (simp; omega))) | (with_reducible refine Ext.setCell ?_ ?_ _; rotate_left; focus (first | omega | (simp; done) | (simp; omega)))))) (Nat.le_refl _)) HZ.out (by simp; omega) (by simp; omega) (by first | omega | (simp [later_size, setCells_size]; done) | (simp [later_size, setCells_size]; omega)) ?_; intro A2 c2 l2 w2 HL2 HO2 hB hl1 hl2 _; have HO2' := Lib.hid HO2; have HB2 := Lib.hid hB; clear HO2 hB))
    go_ret
    exact ⟨A2, c2, l2, rfl, Lib.hid (by rw [HL2.out, HL.out, List.nil_append]), by simp at hl1; omega, HO2'.out.lower (by omega), (show Ext w _ from (by (repeat (first | with_reducible exact Ext.refl _ | with_reducible exact Ext.refl _ | with_reducible refine Ext.drew ?_ | with_reducible refine Ext.drewN ?_ _ | with_reducible refine Ext.alloc ?_ _ | with_reducible refine Ext.onto ?_ _ | (with_reducible refine Ext.setCells ?_ ?_ _ _; rotate_left; focus (first | omega | (simp; done) | (simp; omega))) | (with_reducible refine Ext.setCell ?_ ?_ _; rotate_left; focus (first | omega | (simp; done) | (simp; omega))))))).grown HB2.out (by omega)⟩
  · have HE : Hid (emptyB s = false) := Lib.hid (by simp [emptyB]; omega)
    have HL : Hid (Sp.rCut l s = l.flatMap (Sp.cutOne · s)) := Lib.hid (by unfold Sp.rCut; rw [if_neg he])
    clear he
    obtain ⟨s1, s2⟩ := s
    go_enter Tryz.func77, Tryz.ntmps77
    go_wp2_with (go_at_call 62; refine (rempty_is (s1, s2) false _ HE.out).mono ?_; rintro e w' ⟨rfl, hxl⟩; obtain ⟨xl, rfl⟩ := hxl.asLater; clear hxl)
    go_loopw [6, 5] (RCutRel w (s1, s2) l) (fun i _ _ => l.length - (intOf i).toNat)
    case atStart => exact ⟨0, none, 0, [], Nat.zero_le _, rfl, rfl, Nat.le_refl _, Lib.hid rfl, Lib.hid (Owns.nil _ _ _ _ _), Lib.hid (by (repeat (first | with_reducible exact Ext.refl _ | with_reducible exact Ext.refl _ | with_reducible refine Ext.drew ?_ | with_reducible refine Ext.drewN ?_ _ | with_reducible refine Ext.alloc ?_ _ | with_reducible refine Ext.onto ?_ _ | (with_reducible refine Ext.setCells ?_ ?_ _ _; rotate_left; focus (first | omega | (simp; done) | (simp; omega))) | (with_reducible refine Ext.setCell ?_ ?_ _; rotate_left; focus (first | omega | (simp; done) | (simp; omega)))))), Lib.hid (by (repeat (first | with_reducible exact RowAt.new _ _ _ | with_reducible refine RowAt.drew ?_ | with_reducible refine RowAt.later ?_ _ | with_reducible exact RowAt.newAt (by first | rfl | omega | (simp [later_size, setCells_size]; done) | (simp [later_size, setCells_size]; omega)) | with_reducible refine RowAt.alloc ?_ _ | with_reducible apply RowAt.store | with_reducible refine RowAt.others ?_ ?_ _ _ | with_reducible refine RowAt.other ?_ ?_ _)); all_goals first | omega | (simp; done) | (simp; omega) | (simp [go_sem]; done))⟩
    case round =>
      obtain ⟨k, A', c', out, hk, rfl, rfl, hol, HO, HOw, HX, HRow⟩ := hrel
      have hsz := HX.out.size
      have hlw := HRow.out.lt
      by_cases hlt : k < l.length
      · obtain ⟨b, off, rfl, hb, y1, y2⟩ := ReadsSp.cell (HR.out.ext HX.out (Nat.le_refl _)) k hlt
        have HJ := Lib.hid (cut_snoc (s1, s2) l k hlt)
        rw [← HO.out] at HJ
        generalize l[k] = t at *
        obtain ⟨t1, t2⟩ := t
        simp only [] at y1 y2
        have z1 : wr.cell? ⟨w.heap.size, 0, none⟩ = some (.int .i64 s1) := HRow.out.cell 0
        have z2 : wr.cell? ⟨w.heap.size, 1, none⟩ = some (.int .i64 s2) := HRow.out.cell 1
        have hm1 : (if s1 < t2 then s1 else t2) = min t2 s1 := by split <;> omega
        have hm2 : (if t1 < s2 then s2 else t1) = max t1 s2 := by split <;> omega
        have HC := Lib.hid (cutOne_eq (t1, t2) (s1, s2))
        simp only [] at HC
        go_wp2
        refine wp_region_soft 15 (softL [(.slice (some ⟨b, off, none⟩) l.length c), (.int .i64 (k : Int)), (.pointer (some ⟨b, off + k * 2, none⟩)), (.pointer (some ⟨b, off + k * 2, none⟩)), (.int .i64 t1), (.slice (some ⟨b, off, none⟩) l.length c), (.int .i64 (k : Int)), (.pointer (some ⟨b, off + k * 2, none⟩)), (.pointer (some ⟨b, off + k * 2 + 1, none⟩)), (.int .i64 t2), (.pointer (some ⟨w.heap.size, 0, none⟩)), (.int .i64 s1), (.int .i64 (min t2 s1)), (.agg #[(.int .i64 t1), (.int .i64 (min t2 s1))])] wr.heap.size) (by kernel_rfl) (by kernel_rfl) (lt_cons ?_ (lt_cons ?_ (lt_cons ?_ (lt_cons ?_ (lt_cons ?_ (lt_cons ?_ (lt_cons ?_ (lt_cons ?_ (lt_cons ?_ (lt_cons ?_ (lt_cons ?_ (lt_cons ?_ (lt_cons ?_ (lt_cons ?_ (lt_cons ?_ lt_none))))))))))))))) ?_
        ·
          intro o ho xs W hW hd Q' hQ; obtain rfl := Option.some.inj ho; clear ho; simp only [fillAt, dstOf, List.getElem?_cons_zero, List.getElem?_cons_succ, Option.bind_some, Act.put, List.setIfInBounds_toArray, List.set_cons_zero, List.set_cons_succ, Nat.zero_add, Nat.reduceAdd] at hQ ⊢; have HQ := Lib.hid hQ; have HD := Lib.hid hd; have HW := Lib.hid hW; have hsW := hW.size; clear hQ hd hW
          go_wp2
          exact HQ.out _ _ (Ext.refl _) rfl
        ·
          intro o ho xs W hW hd Q' hQ; obtain rfl := Option.some.inj ho; clear ho; simp only [fillAt, dstOf, List.getElem?_cons_zero, List.getElem?_cons_succ, Option.bind_some, Act.put, List.setIfInBounds_toArray, List.set_cons_zero, List.set_cons_succ, Nat.zero_add, Nat.reduceAdd] at hQ ⊢; have HQ := Lib.hid hQ; have HD := Lib.hid hd; have HW := Lib.hid hW; have hsW := hW.size; clear hQ hd hW
          go_wp2
          exact HQ.out _ _ (Ext.refl _) rfl
        ·
          intro o ho xs W hW hd Q' hQ; obtain rfl := Option.some.inj ho; clear ho; simp only [fillAt, dstOf, List.getElem?_cons_zero, List.getElem?_cons_succ, Option.bind_some, Act.put, List.setIfInBounds_toArray, List.set_cons_zero, List.set_cons_succ, Nat.zero_add, Nat.reduceAdd] at hQ ⊢; have HQ := Lib.hid hQ; have HD := Lib.hid hd; have HW := Lib.hid hW; have hsW := hW.size; clear hQ hd hW
          have hd0 : xs 0 = (.slice (some ⟨b, off, none⟩) l.length c) := (HD.out 0 (of_decide_eq_true (by kernel_rfl)))
          generalize xs 0 = x0 at hd0 HQ ⊢; subst hd0
          have hd1 : xs 1 = (.int .i64 (k : Int)) := (HD.out 1 (of_decide_eq_true (by kernel_rfl)))
          generalize xs 1 = x1 at hd1 HQ ⊢; subst hd1
          go_wp2
          exact HQ.out _ _ (Ext.refl _) rfl
        ·
          intro o ho xs W hW hd Q' hQ; obtain rfl := Option.some.inj ho; clear ho; simp only [fillAt, dstOf, List.getElem?_cons_zero, List.getElem?_cons_succ, Option.bind_some, Act.put, List.setIfInBounds_toArray, List.set_cons_zero, List.set_cons_succ, Nat.zero_add, Nat.reduceAdd] at hQ ⊢; have HQ := Lib.hid hQ; have HD := Lib.hid hd; have HW := Lib.hid hW; have hsW := hW.size; clear hQ hd hW
          have hd2 : xs 2 = (.pointer (some ⟨b, off + k * 2, none⟩)) := (HD.out 2 (of_decide_eq_true (by kernel_rfl)))
          generalize xs 2 = x2 at hd2 HQ ⊢; subst hd2
          go_wp2
          exact HQ.out _ _ (Ext.refl _) rfl
        ·
          intro o ho xs W hW hd Q' hQ; obtain rfl := Option.some.inj ho; clear ho; simp only [fillAt, dstOf, List.getElem?_cons_zero, List.getElem?_cons_succ, Option.bind_some, Act.put, List.setIfInBounds_toArray, List.set_cons_zero, List.set_cons_succ, Nat.zero_add, Nat.reduceAdd] at hQ ⊢; have HQ := Lib.hid hQ; have HD := Lib.hid hd; have HW := Lib.hid hW; have hsW := hW.size; clear hQ hd hW
          have hd3 : xs 3 = (.pointer (some ⟨b, off + k * 2, none⟩)) := (HD.out 3 (of_decide_eq_true (by kernel_rfl)))
          generalize xs 3 = x3 at hd3 HQ ⊢; subst hd3
          have hc : W.cell? ⟨b, off + k * 2, none⟩ = some ((.int .i64 t1)) := (HW.out.cell (p := ⟨b, off + k * 2, none⟩) (by show b < _; omega)).trans y1
          go_wp2
          exact HQ.out _ _ (Ext.refl _) rfl
        ·
          intro o ho xs W hW hd Q' hQ; obtain rfl := Option.some.inj ho; clear ho; simp only [fillAt, dstOf, List.getElem?_cons_zero, List.getElem?_cons_succ, Option.bind_some, Act.put, List.setIfInBounds_toArray, List.set_cons_zero, List.set_cons_succ, Nat.zero_add, Nat.reduceAdd] at hQ ⊢; have HQ := Lib.hid hQ; have HD := Lib.hid hd; have HW := Lib.hid hW; have hsW := hW.size; clear hQ hd hW
          go_wp2
          exact HQ.out _ _ (Ext.refl _) rfl
        ·
          intro o ho xs W hW hd Q' hQ; obtain rfl := Option.some.inj ho; clear ho; simp only [fillAt, dstOf, List.getElem?_cons_zero, List.getElem?_cons_succ, Option.bind_some, Act.put, List.setIfInBounds_toArray, List.set_cons_zero, List.set_cons_succ, Nat.zero_add, Nat.reduceAdd] at hQ ⊢; have HQ := Lib.hid hQ; have HD := Lib.hid hd; have HW := Lib.hid hW; have hsW := hW.size; clear hQ hd hW
          go_wp2
          exact HQ.out _ _ (Ext.refl _) rfl
        ·
          intro o ho xs W hW hd Q' hQ; obtain rfl := Option.some.inj ho; clear ho; simp only [fillAt, dstOf, List.getElem?_cons_zero, List.getElem?_cons_succ, Option.bind_some, Act.put, List.setIfInBounds_toArray, List.set_cons_zero, List.set_cons_succ, Nat.zero_add, Nat.reduceAdd] at hQ ⊢; have HQ := Lib.hid hQ; have HD := Lib.hid hd; have HW := Lib.hid hW; have hsW := hW.size; clear hQ hd hW
          have hd5 : xs 5 = (.slice (some ⟨b, off, none⟩) l.length c) := (HD.out 5 (of_decide_eq_true (by kernel_rfl)))
          generalize xs 5 = x5 at hd5 HQ ⊢; subst hd5
          have hd6 : xs 6 = (.int .i64 (k : Int)) := (HD.out 6 (of_decide_eq_true (by kernel_rfl)))
          generalize xs 6 = x6 at hd6 HQ ⊢; subst hd6
          go_wp2
          exact HQ.out _ _ (Ext.refl _) rfl
        ·
          intro o ho xs W hW hd Q' hQ; obtain rfl := Option.some.inj ho; clear ho; simp only [fillAt, dstOf, List.getElem?_cons_zero, List.getElem?_cons_succ, Option.bind_some, Act.put, List.setIfInBounds_toArray, List.set_cons_zero, List.set_cons_succ, Nat.zero_add, Nat.reduceAdd] at hQ ⊢; have HQ := Lib.hid hQ; have HD := Lib.hid hd; have HW := Lib.hid hW; have hsW := hW.size; clear hQ hd hW
          have hd7 : xs 7 = (.pointer (some ⟨b, off + k * 2, none⟩)) := (HD.out 7 (of_decide_eq_true (by kernel_rfl)))
          generalize xs 7 = x7 at hd7 HQ ⊢; subst hd7
          go_wp2
          exact HQ.out _ _ (Ext.refl _) rfl
        ·
          intro o ho xs W hW hd Q' hQ; obtain rfl := Option.some.inj ho; clear ho; simp only [fillAt, dstOf, List.getElem?_cons_zero, List.getElem?_cons_succ, Option.bind_some, Act.put, List.setIfInBounds_toArray, List.set_cons_zero, List.set_cons_succ, Nat.zero_add, Nat.reduceAdd] at hQ ⊢; have HQ := Lib.hid hQ; have HD := Lib.hid hd; have HW := Lib.hid hW; have hsW := hW.size; clear hQ hd hW
          have hd8 : xs 8 = (.pointer (some ⟨b, off + k * 2 + 1, none⟩)) := (HD.out 8 (of_decide_eq_true (by kernel_rfl)))
          generalize xs 8 = x8 at hd8 HQ ⊢; subst hd8
          have hc : W.cell? ⟨b, off + k * 2 + 1, none⟩ = some ((.int .i64 t2)) := (HW.out.cell (p := ⟨b, off + k * 2 + 1, none⟩) (by show b < _; omega)).trans y2
          go_wp2
          exact HQ.out _ _ (Ext.refl _) rfl
        ·
          intro o ho xs W hW hd Q' hQ; obtain rfl := Option.some.inj ho; clear ho; simp only [fillAt, dstOf, List.getElem?_cons_zero, List.getElem?_cons_succ, Option.bind_some, Act.put, List.setIfInBounds_toArray, List.set_cons_zero, List.set_cons_succ, Nat.zero_add, Nat.reduceAdd] at hQ ⊢; have HQ := Lib.hid hQ; have HD := Lib.hid hd; have HW := Lib.hid hW; have hsW := hW.size; clear hQ hd hW
          go_wp2
          exact HQ.out _ _ (Ext.refl _) rfl
        ·
          intro o ho xs W hW hd Q' hQ; obtain rfl := Option.some.inj ho; clear ho; simp only [fillAt, dstOf, List.getElem?_cons_zero, List.getElem?_cons_succ, Option.bind_some, Act.put, List.setIfInBounds_toArray, List.set_cons_zero, List.set_cons_succ, Nat.zero_add, Nat.reduceAdd] at hQ ⊢; have HQ := Lib.hid hQ; have HD := Lib.hid hd; have HW := Lib.hid hW; have hsW := hW.size; clear hQ hd hW
          have hd10 : xs 10 = (.pointer (some ⟨w.heap.size, 0, none⟩)) := (HD.out 10 (of_decide_eq_true (by kernel_rfl)))
          generalize xs 10 = x10 at hd10 HQ ⊢; subst hd10
          have hc : W.cell? ⟨w.heap.size, 0, none⟩ = some ((.int .i64 s1)) := (HW.out.cell (p := ⟨w.heap.size, 0, none⟩) (by show w.heap.size < _; omega)).trans z1
          go_wp2
          exact HQ.out _ _ (Ext.refl _) rfl
        ·
          intro o ho xs W hW hd Q' hQ; obtain rfl := Option.some.inj ho; clear ho; simp only [fillAt, dstOf, List.getElem?_cons_zero, List.getElem?_cons_succ, Option.bind_some, Act.put, List.setIfInBounds_toArray, List.set_cons_zero, List.set_cons_succ, Nat.zero_add, Nat.reduceAdd] at hQ ⊢; have HQ := Lib.hid hQ; have HD := Lib.hid hd; have HW := Lib.hid hW; have hsW := hW.size; clear hQ hd hW
          have hd9 : xs 9 = (.int .i64 t2) := (HD.out 9 (of_decide_eq_true (by kernel_rfl)))
          generalize xs 9 = x9 at hd9 HQ ⊢; subst hd9
          have hd11 : xs 11 = (.int .i64 s1) := (HD.out 11 (of_decide_eq_true (by kernel_rfl)))
          generalize xs 11 = x11 at hd11 HQ ⊢; subst hd11
          go_wp2
          exact HQ.out _ _ (Ext.refl _) rfl
        ·
          intro o ho xs W hW hd Q' hQ; obtain rfl := Option.some.inj ho; clear ho; simp only [fillAt, dstOf, List.getElem?_cons_zero, List.getElem?_cons_succ, Option.bind_some, Act.put, List.setIfInBounds_toArray, List.set_cons_zero, List.set_cons_succ, Nat.zero_add, Nat.reduceAdd] at hQ ⊢; have HQ := Lib.hid hQ; have HD := Lib.hid hd; have HW := Lib.hid hW; have hsW := hW.size; clear hQ hd hW
          have hd4 : xs 4 = (.int .i64 t1) := (HD.out 4 (of_decide_eq_true (by kernel_rfl)))
          generalize xs 4 = x4 at hd4 HQ ⊢; subst hd4
          have hd12 : xs 12 = (.int .i64 (min t2 s1)) := (HD.out 12 (of_decide_eq_true (by kernel_rfl)))
          generalize xs 12 = x12 at hd12 HQ ⊢; subst hd12
          go_wp2
          exact HQ.out _ _ (Ext.refl _) rfl
        ·
          intro o ho xs W hW hd Q' hQ; obtain rfl := Option.some.inj ho; clear ho; simp only [fillAt, dstOf, List.getElem?_cons_zero, List.getElem?_cons_succ, Option.bind_some, Act.put, List.setIfInBounds_toArray, List.set_cons_zero, List.set_cons_succ, Nat.zero_add, Nat.reduceAdd] at hQ ⊢; have HQ := Lib.hid hQ; have HD := Lib.hid hd; have HW := Lib.hid hW; have hsW := hW.size; clear hQ hd hW
          go_wp2
          exact HQ.out _ _ ((Ext.refl _).alloc _) ⟨W.heap.size, rfl, by omega, RowAt.new _ _ _⟩
        ·
          intro xs W hW hS
          have h13 : xs 13 = (.agg #[(.int .i64 t1), (.int .i64 (min t2 s1))]) := hS 13 (by omega)
          obtain ⟨B1, h14, hB1, hRB⟩ : (newSp wr.heap.size).S (xs 14) W := hS 14 (by omega)
          simp only [fillAt, dstOf, List.getElem?_cons_zero, List.getElem?_cons_succ, Option.bind_some, Act.put, List.setIfInBounds_toArray, List.set_cons_zero, List.set_cons_succ, Nat.zero_add, Nat.reduceAdd, List.drop_succ_cons, List.drop_zero]
          generalize xs 13 = x13 at *; subst h13
          generalize xs 14 = x14 at *; subst h14
          clear hS
          have hk0 : W.cell? ⟨B1, 0, none⟩ = some (.int .i64 0) := hRB.cell 0
          have hk1 : W.cell? ⟨B1, 1, none⟩ = some (.int .i64 0) := hRB.cell 1
          have hf0 : W.frozen? ⟨B1, 0, none⟩ = false := hRB.free 0
          have hf1 : W.frozen? ⟨B1, 1, none⟩ = false := hRB.free 1
          have hlB := hRB.lt
          go_wp2
          refine wp_world (fun W' => Ext wr W' ∧ RowAt W' B1 #[.int .i64 t1, .int .i64 (min t2 s1)]) ⟨Ext.setCell (Ext.setCell hW (p := ⟨B1, 0, none⟩) hB1 _) (p := ⟨B1, 1, none⟩) hB1 _, (hRB.set 0 _).set 1 _⟩ ?_
          clear hk0 hk1 hf0 hf1 hlB hRB hW
          rintro W1 ⟨hxW, hrW⟩
          have HXW := Lib.hid hxW
          have HRA := Lib.hid hrW
          have hlW := hrW.lt
          have hsW := hxW.size
          have a1 : W1.cell? ⟨B1, 0, none⟩ = some (.int .i64 t1) := hrW.cell 0
          have a2 : W1.cell? ⟨B1, 1, none⟩ = some (.int .i64 (min t2 s1)) := hrW.cell 1
          replace y1 := (hxW.cell (p := ⟨b, off + k * 2, none⟩) (by show b < _; omega)).trans y1
          replace y2 := (hxW.cell (p := ⟨b, off + k * 2 + 1, none⟩) (by show b < _; omega)).trans y2
          replace z1 := (hxW.cell (p := ⟨w.heap.size, 0, none⟩) hlw).trans z1
          replace z2 := (hxW.cell (p := ⟨w.heap.size, 1, none⟩) hlw).trans z2
          clear hxW hrW
          refine wp_region_soft 15 (softL [(.slice (some ⟨b, off, none⟩) l.length c), (.int .i64 (k : Int)), (.pointer (some ⟨b, off + k * 2, none⟩)), (.pointer (some ⟨b, off + k * 2, none⟩)), (.int .i64 t1), (.pointer (some ⟨w.heap.size, 1, none⟩)), (.int .i64 s2), (.int .i64 (max t1 s2)), (.slice (some ⟨b, off, none⟩) l.length c), (.int .i64 (k : Int)), (.pointer (some ⟨b, off + k * 2, none⟩)), (.pointer (some ⟨b, off + k * 2 + 1, none⟩)), (.int .i64 t2), (.agg #[(.int .i64 (max t1 s2)), (.int .i64 t2)])] W1.heap.size) (by kernel_rfl) (by kernel_rfl) (lt_cons ?_ (lt_cons ?_ (lt_cons ?_ (lt_cons ?_ (lt_cons ?_ (lt_cons ?_ (lt_cons ?_ (lt_cons ?_ (lt_cons ?_ (lt_cons ?_ (lt_cons ?_ (lt_cons ?_ (lt_cons ?_ (lt_cons ?_ (lt_cons ?_ lt_none))))))))))))))) ?_
          ·
            intro o ho xs W hW hd Q' hQ; obtain rfl := Option.some.inj ho; clear ho; simp only [fillAt, dstOf, List.getElem?_cons_zero, List.getElem?_cons_succ, Option.bind_some, Act.put, List.setIfInBounds_toArray, List.set_cons_zero, List.set_cons_succ, Nat.zero_add, Nat.reduceAdd] at hQ ⊢; have HQ := Lib.hid hQ; have HD := Lib.hid hd; have HW := Lib.hid hW; have hsW := hW.size; clear hQ hd hW
            go_wp2
            exact HQ.out _ _ (Ext.refl _) rfl
          ·
            intro o ho xs W hW hd Q' hQ; obtain rfl := Option.some.inj ho; clear ho; simp only [fillAt, dstOf, List.getElem?_cons_zero, List.getElem?_cons_succ, Option.bind_some, Act.put, List.setIfInBounds_toArray, List.set_cons_zero, List.set_cons_succ, Nat.zero_add, Nat.reduceAdd] at hQ ⊢; have HQ := Lib.hid hQ; have HD := Lib.hid hd; have HW := Lib.hid hW; have hsW := hW.size; clear hQ hd hW
            go_wp2
            exact HQ.out _ _ (Ext.refl _) rfl
          ·
            intro o ho xs W hW hd Q' hQ; obtain rfl := Option.some.inj ho; clear ho; simp only [fillAt, dstOf, List.getElem?_cons_zero, List.getElem?_cons_succ, Option.bind_some, Act.put, List.setIfInBounds_toArray, List.set_cons_zero, List.set_cons_succ, Nat.zero_add, Nat.reduceAdd] at hQ ⊢; have HQ := Lib.hid hQ; have HD := Lib.hid hd; have HW := Lib.hid hW; have hsW := hW.size; clear hQ hd hW
            have hd0 : xs 0 = (.slice (some ⟨b, off, none⟩) l.length c) := (HD.out 0 (of_decide_eq_true (by kernel_rfl)))
            generalize xs 0 = x0 at hd0 HQ ⊢; subst hd0
            have hd1 : xs 1 = (.int .i64 (k : Int)) := (HD.out 1 (of_decide_eq_true (by kernel_rfl)))
            generalize xs 1 = x1 at hd1 HQ ⊢; subst hd1
            go_wp2
            exact HQ.out _ _ (Ext.refl _) rfl
          ·
            intro o ho xs W hW hd Q' hQ; obtain rfl := Option.some.inj ho; clear ho; simp only [fillAt, dstOf, List.getElem?_cons_zero, List.getElem?_cons_succ, Option.bind_some, Act.put, List.setIfInBounds_toArray, List.set_cons_zero, List.set_cons_succ, Nat.zero_add, Nat.reduceAdd] at hQ ⊢; have HQ := Lib.hid hQ; have HD := Lib.hid hd; have HW := Lib.hid hW; have hsW := hW.size; clear hQ hd hW
            have hd2 : xs 2 = (.pointer (some ⟨b, off + k * 2, none⟩)) := (HD.out 2 (of_decide_eq_true (by kernel_rfl)))
            generalize xs 2 = x2 at hd2 HQ ⊢; subst hd2
            go_wp2
            exact HQ.out _ _ (Ext.refl _) rfl
          ·
            intro o ho xs W hW hd Q' hQ; obtain rfl := Option.some.inj ho; clear ho; simp only [fillAt, dstOf, List.getElem?_cons_zero, List.getElem?_cons_succ, Option.bind_some, Act.put, List.setIfInBounds_toArray, List.set_cons_zero, List.set_cons_succ, Nat.zero_add, Nat.reduceAdd] at hQ ⊢; have HQ := Lib.hid hQ; have HD := Lib.hid hd; have HW := Lib.hid hW; have hsW := hW.size; clear hQ hd hW
            have hd3 : xs 3 = (.pointer (some ⟨b, off + k * 2, none⟩)) := (HD.out 3 (of_decide_eq_true (by kernel_rfl)))
            generalize xs 3 = x3 at hd3 HQ ⊢; subst hd3
            have hc : W.cell? ⟨b, off + k * 2, none⟩ = some ((.int .i64 t1)) := (HW.out.cell (p := ⟨b, off + k * 2, none⟩) (by show b < _; omega)).trans y1
            go_wp2
            exact HQ.out _ _ (Ext.refl _) rfl
          ·
            intro o ho xs W hW hd Q' hQ; obtain rfl := Option.some.inj ho; clear ho; simp only [fillAt, dstOf, List.getElem?_cons_zero, List.getElem?_cons_succ, Option.bind_some, Act.put, List.setIfInBounds_toArray, List.set_cons_zero, List.set_cons_succ, Nat.zero_add, Nat.reduceAdd] at hQ ⊢; have HQ := Lib.hid hQ; have HD := Lib.hid hd; have HW := Lib.hid hW; have hsW := hW.size; clear hQ hd hW
            go_wp2
            exact HQ.out _ _ (Ext.refl _) rfl
          ·
            intro o ho xs W hW hd Q' hQ; obtain rfl := Option.some.inj ho; clear ho; simp only [fillAt, dstOf, List.getElem?_cons_zero, List.getElem?_cons_succ, Option.bind_some, Act.put, List.setIfInBounds_toArray, List.set_cons_zero, List.set_cons_succ, Nat.zero_add, Nat.reduceAdd] at hQ ⊢; have HQ := Lib.hid hQ; have HD := Lib.hid hd; have HW := Lib.hid hW; have hsW := hW.size; clear hQ hd hW
            have hd5 : xs 5 = (.pointer (some ⟨w.heap.size, 1, none⟩)) := (HD.out 5 (of_decide_eq_true (by kernel_rfl)))
            generalize xs 5 = x5 at hd5 HQ ⊢; subst hd5
            have hc : W.cell? ⟨w.heap.size, 1, none⟩ = some ((.int .i64 s2)) := (HW.out.cell (p := ⟨w.heap.size, 1, none⟩) (by show w.heap.size < _; omega)).trans z2
            go_wp2
            exact HQ.out _ _ (Ext.refl _) rfl
          ·
            intro o ho xs W hW hd Q' hQ; obtain rfl := Option.some.inj ho; clear ho; simp only [fillAt, dstOf, List.getElem?_cons_zero, List.getElem?_cons_succ, Option.bind_some, Act.put, List.setIfInBounds_toArray, List.set_cons_zero, List.set_cons_succ, Nat.zero_add, Nat.reduceAdd] at hQ ⊢; have HQ := Lib.hid hQ; have HD := Lib.hid hd; have HW := Lib.hid hW; have hsW := hW.size; clear hQ hd hW
            have hd4 : xs 4 = (.int .i64 t1) := (HD.out 4 (of_decide_eq_true (by kernel_rfl)))
            generalize xs 4 = x4 at hd4 HQ ⊢; subst hd4
            have hd6 : xs 6 = (.int .i64 s2) := (HD.out 6 (of_decide_eq_true (by kernel_rfl)))
            generalize xs 6 = x6 at hd6 HQ ⊢; subst hd6
            go_wp2
            exact HQ.out _ _ (Ext.refl _) rfl
          ·
            intro o ho xs W hW hd Q' hQ; obtain rfl := Option.some.inj ho; clear ho; simp only [fillAt, dstOf, List.getElem?_cons_zero, List.getElem?_cons_succ, Option.bind_some, Act.put, List.setIfInBounds_toArray, List.set_cons_zero, List.set_cons_succ, Nat.zero_add, Nat.reduceAdd] at hQ ⊢; have HQ := Lib.hid hQ; have HD := Lib.hid hd; have HW := Lib.hid hW; have hsW := hW.size; clear hQ hd hW
            go_wp2
            exact HQ.out _ _ (Ext.refl _) rfl
          ·
            intro o ho xs W hW hd Q' hQ; obtain rfl := Option.some.inj ho; clear ho; simp only [fillAt, dstOf, List.getElem?_cons_zero, List.getElem?_cons_succ, Option.bind_some, Act.put, List.setIfInBounds_toArray, List.set_cons_zero, List.set_cons_succ, Nat.zero_add, Nat.reduceAdd] at hQ ⊢; have HQ := Lib.hid hQ; have HD := Lib.hid hd; have HW := Lib.hid hW; have hsW := hW.size; clear hQ hd hW
            go_wp2
            exact HQ.out _ _ (Ext.refl _) rfl
          ·
            intro o ho xs W hW hd Q' hQ; obtain rfl := Option.some.inj ho; clear ho; simp only [fillAt, dstOf, List.getElem?_cons_zero, List.getElem?_cons_succ, Option.bind_some, Act.put, List.setIfInBounds_toArray, List.set_cons_zero, List.set_cons_succ, Nat.zero_add, Nat.reduceAdd] at hQ ⊢; have HQ := Lib.hid hQ; have HD := Lib.hid hd; have HW := Lib.hid hW; have hsW := hW.size; clear hQ hd hW
            have hd8 : xs 8 = (.slice (some ⟨b, off, none⟩) l.length c) := (HD.out 8 (of_decide_eq_true (by kernel_rfl)))
            generalize xs 8 = x8 at hd8 HQ ⊢; subst hd8
            have hd9 : xs 9 = (.int .i64 (k : Int)) := (HD.out 9 (of_decide_eq_true (by kernel_rfl)))
            generalize xs 9 = x9 at hd9 HQ ⊢; subst hd9
            go_wp2
            exact HQ.out _ _ (Ext.refl _) rfl
          ·
            intro o ho xs W hW hd Q' hQ; obtain rfl := Option.some.inj ho; clear ho; simp only [fillAt, dstOf, List.getElem?_cons_zero, List.getElem?_cons_succ, Option.bind_some, Act.put, List.setIfInBounds_toArray, List.set_cons_zero, List.set_cons_succ, Nat.zero_add, Nat.reduceAdd] at hQ ⊢; have HQ := Lib.hid hQ; have HD := Lib.hid hd; have HW := Lib.hid hW; have hsW := hW.size; clear hQ hd hW
            have hd10 : xs 10 = (.pointer (some ⟨b, off + k * 2, none⟩)) := (HD.out 10 (of_decide_eq_true (by kernel_rfl)))
            generalize xs 10 = x10 at hd10 HQ ⊢; subst hd10
            go_wp2
            exact HQ.out _ _ (Ext.refl _) rfl
          ·
            intro o ho xs W hW hd Q' hQ; obtain rfl := Option.some.inj ho; clear ho; simp only [fillAt, dstOf, List.getElem?_cons_zero, List.getElem?_cons_succ, Option.bind_some, Act.put, List.setIfInBounds_toArray, List.set_cons_zero, List.set_cons_succ, Nat.zero_add, Nat.reduceAdd] at hQ ⊢; have HQ := Lib.hid hQ; have HD := Lib.hid hd; have HW := Lib.hid hW; have hsW := hW.size; clear hQ hd hW
            have hd11 : xs 11 = (.pointer (some ⟨b, off + k * 2 + 1, none⟩)) := (HD.out 11 (of_decide_eq_true (by kernel_rfl)))
            generalize xs 11 = x11 at hd11 HQ ⊢; subst hd11
            have hc : W.cell? ⟨b, off + k * 2 + 1, none⟩ = some ((.int .i64 t2)) := (HW.out.cell (p := ⟨b, off + k * 2 + 1, none⟩) (by show b < _; omega)).trans y2
            go_wp2
            exact HQ.out _ _ (Ext.refl _) rfl
          ·
            intro o ho xs W hW hd Q' hQ; obtain rfl := Option.some.inj ho; clear ho; simp only [fillAt, dstOf, List.getElem?_cons_zero, List.getElem?_cons_succ, Option.bind_some, Act.put, List.setIfInBounds_toArray, List.set_cons_zero, List.set_cons_succ, Nat.zero_add, Nat.reduceAdd] at hQ ⊢; have HQ := Lib.hid hQ; have HD := Lib.hid hd; have HW := Lib.hid hW; have hsW := hW.size; clear hQ hd hW
            have hd7 : xs 7 = (.int .i64 (max t1 s2)) := (HD.out 7 (of_decide_eq_true (by kernel_rfl)))
            generalize xs 7 = x7 at hd7 HQ ⊢; subst hd7
            have hd12 : xs 12 = (.int .i64 t2) := (HD.out 12 (of_decide_eq_true (by kernel_rfl)))
            generalize xs 12 = x12 at hd12 HQ ⊢; subst hd12
            go_wp2
            exact HQ.out _ _ (Ext.refl _) rfl
          ·
            intro o ho xs W hW hd Q' hQ; obtain rfl := Option.some.inj ho; clear ho; simp only [fillAt, dstOf, List.getElem?_cons_zero, List.getElem?_cons_succ, Option.bind_some, Act.put, List.setIfInBounds_toArray, List.set_cons_zero, List.set_cons_succ, Nat.zero_add, Nat.reduceAdd] at hQ ⊢; have HQ := Lib.hid hQ; have HD := Lib.hid hd; have HW := Lib.hid hW; have hsW := hW.size; clear hQ hd hW
            go_wp2
            exact HQ.out _ _ ((Ext.refl _).alloc _) ⟨W.heap.size, rfl, by omega, RowAt.new _ _ _⟩
          ·
            intro xs W hW hS
            have h13 : xs 13 = (.agg #[(.int .i64 (max t1 s2)), (.int .i64 t2)]) := hS 13 (by omega)
            obtain ⟨B2, h14, hB2, hRB⟩ : (newSp W1.heap.size).S (xs 14) W := hS 14 (by omega)
            simp only [fillAt, dstOf, List.getElem?_cons_zero, List.getElem?_cons_succ, Option.bind_some, Act.put, List.setIfInBounds_toArray, List.set_cons_zero, List.set_cons_succ, Nat.zero_add, Nat.reduceAdd, List.drop_succ_cons, List.drop_zero]
            generalize xs 13 = x13 at *; subst h13
            generalize xs 14 = x14 at *; subst h14
            clear hS
            have hk0 : W.cell? ⟨B2, 0, none⟩ = some (.int .i64 0) := hRB.cell 0
            have hk1 : W.cell? ⟨B2, 1, none⟩ = some (.int .i64 0) := hRB.cell 1
            have hf0 : W.frozen? ⟨B2, 0, none⟩ = false := hRB.free 0
            have hf1 : W.frozen? ⟨B2, 1, none⟩ = false := hRB.free 1
            have hlB := hRB.lt
            have hW2 := HXW.out.trans hW
            have hRA2 := HRA.out.ext hW
            replace a1 := (hW.cell (p := ⟨B1, 0, none⟩) hlW).trans a1
            replace a2 := (hW.cell (p := ⟨B1, 1, none⟩) hlW).trans a2
            clear hm1 hm2 y1 y2 z1 z2
            generalize min t2 s1 = m1 at *
            generalize max t1 s2 = m2 at *
            go_wp2_with (go_at_call 62; refine (show Hid _ from ?_).out)
            refine Lib.hid ?_
            refine calls_world (fun W' => Ext wr W' ∧ RowAt W' B1 #[.int .i64 t1, .int .i64 m1] ∧ RowAt W' B2 #[.int .i64 m2, .int .i64 t2]) ⟨Ext.setCell (Ext.setCell hW2 (p := ⟨B2, 0, none⟩) (by show wr.heap.size ≤ B2; omega) _) (p := ⟨B2, 1, none⟩) (by show wr.heap.size ≤ B2; omega) _, RowAt.other (RowAt.other hRA2 (p := ⟨B2, 0, none⟩) (by show B1 ≠ B2; omega) _) (p := ⟨B2, 1, none⟩) (by show B1 ≠ B2; omega) _, (hRB.set 0 _).set 1 _⟩ ?_
            clear hk0 hk1 hf0 hf1 hlB hRB hW hW2 hRA2 a1 a2 HXW HRA hlW
            rintro W2 ⟨hxW, hrA, hrB⟩
            have HX2 := Lib.hid hxW
            have HRB := Lib.hid hrB
            have b1 : W2.cell? ⟨B2, 0, none⟩ = some (.int .i64 m2) := hrB.cell 0
            have b2 : W2.cell? ⟨B2, 1, none⟩ = some (.int .i64 t2) := hrB.cell 1
            have a1 : W2.cell? ⟨B1, 0, none⟩ = some (.int .i64 t1) := hrA.cell 0
            have a2 : W2.cell? ⟨B1, 1, none⟩ = some (.int .i64 m1) := hrA.cell 1
            have hlA := hrA.lt
            have hlB := hrB.lt
            have hs2 := hxW.size
            clear hxW hrA hrB
            have hBB : wr.heap.size ≤ B2 := by omega
            rw [HC.out] at HJ
            clear HC
            cases q1 : emptyB (t1, m1) with
            | true =>
              cases q2 : emptyB (m2, t2) with
              | true =>
                have HJ2 : Hid ((l.take (k + 1)).flatMap (Sp.cutOne · (s1, s2)) = out) := Lib.hid (by rw [HJ.out, q1, q2]; simp)
                have Q1 := Lib.hid q1
                have Q2 := Lib.hid q2
                clear q1 q2
                refine (rempty_is (t1, m1) true _ Q1.out).mono ?_
                rintro e w' ⟨rfl, hx⟩
                obtain ⟨x1, rfl⟩ := hx.asLater
                clear hx
                go_wp2_with (go_at_call 62; refine (rempty_is (m2, t2) true _ Q2.out).mono ?_; rintro e w' ⟨rfl, hx⟩; obtain ⟨x2, rfl⟩ := hx.asLater; clear hx)
                go_roundw
                case rel => exact ⟨k + 1, A', c', out, by omega, by go_num, rfl, by omega, Lib.hid HJ2.out.symm, Lib.hid ((HOw.out.ext HX2.out).later _), Lib.hid ((HX.out.trans HX2.out).onto _), Lib.hid ((HRow.out.ext HX2.out).later _)⟩
                case measure => simp [intOf]; omega
              | false =>
                have HJ2 : Hid ((l.take (k + 1)).flatMap (Sp.cutOne · (s1, s2)) = out ++ [(m2, t2)]) := Lib.hid (by rw [HJ.out, q1, q2]; simp)
                have Q1 := Lib.hid q1
                have Q2 := Lib.hid q2
                clear q1 q2
                refine (rempty_is (t1, m1) true _ Q1.out).mono ?_
                rintro e w' ⟨rfl, hx⟩
                obtain ⟨x1, rfl⟩ := hx.asLater
                clear hx
                go_wp2_with (first
                  | (go_at_call 62; refine (rempty_is (m2, t2) false _ Q2.out).mono ?_; rintro e w' ⟨rfl, hx⟩; obtain ⟨x2, rfl⟩ := hx.asLater; clear hx)
                  | (at_builtin; refine app_from spT spE rfl _ _ rfl (w.heap.size + 1) A' c' out rfl (((HOw.out.ext HX2.out).later _).alloc _) _ 1 _ [(m2, t2)] rfl rfl (new_cellsAt (by first | omega | (simp [later_size, setCells_size]; done) | (simp [later_size, setCells_size]; omega)) _ _) (by omega) (by omega) (by first | omega | (simp [later_size, setCells_size]; done) | (simp [later_size, setCells_size]; omega)) ?_; intro A2 c2 l2 w2 HLl2 HOl2 hBl2 hlal2 hlbl2 hgbl2; have HOOl2 := Lib.hid HOl2; have HBBl2 := Lib.hid hBl2; have hszl2 := hBl2.size; skip; clear HOl2 hBl2 hgbl2))
                go_roundw
                case rel => exact ⟨k + 1, A2, c2, l2, by omega, by go_num, rfl, by omega, Lib.hid (HLl2.out.trans HJ2.out.symm), HOOl2, Lib.hid ((show Ext w _ from (((HX.out.trans HX2.out).onto _).alloc _)).grown HBBl2.out (by omega)), Lib.hid ((((HRow.out.ext HX2.out).later _).alloc _).below HBBl2.out (by omega))⟩
                case measure => simp [intOf]; omega
            | false =>
              cases q2 : emptyB (m2, t2) with
              | true =>
                have HJ2 : Hid ((l.take (k + 1)).flatMap (Sp.cutOne · (s1, s2)) = out ++ [(t1, m1)]) := Lib.hid (by rw [HJ.out, q1, q2]; simp)
                have Q1 := Lib.hid q1
                have Q2 := Lib.hid q2
                clear q1 q2
                refine (rempty_is (t1, m1) false _ Q1.out).mono ?_
                rintro e w' ⟨rfl, hx⟩
                obtain ⟨x1, rfl⟩ := hx.asLater
                clear hx
                go_wp2_with (first
                  | (go_at_call 62; refine (rempty_is (m2, t2) true _ Q2.out).mono ?_; rintro e w' ⟨rfl, hx⟩; obtain ⟨x2, rfl⟩ := hx.asLater; clear hx)
                  | (at_builtin; refine app_from spT spE rfl _ _ rfl (w.heap.size + 1) A' c' out rfl (((HOw.out.ext HX2.out).later _).alloc _) _ 1 _ [(t1, m1)] rfl rfl (new_cellsAt (by first | omega | (simp [later_size, setCells_size]; done) | (simp [later_size, setCells_size]; omega)) _ _) (by omega) (by omega) (by first | omega | (simp [later_size, setCells_size]; done) | (simp [later_size, setCells_size]; omega)) ?_; intro A2 c2 l2 w2 HLl2 HOl2 hBl2 hlal2 hlbl2 hgbl2; have HOOl2 := Lib.hid HOl2; have HBBl2 := Lib.hid hBl2; have hszl2 := hBl2.size; have u0 : w2.cell? ⟨B2, 0, none⟩ = some (.int .i64 m2) := (app_keep hgbl2 (fun a ha => (HOw.out.lt a ha).2) (p := ⟨B2, 0, none⟩) hBB (by first | omega | (simp [later_size, setCells_size]; done) | (simp [later_size, setCells_size]; omega))).trans (((HRB.out.later _).alloc _).cell 0); have u1 : w2.cell? ⟨B2, 1, none⟩ = some (.int .i64 t2) := (app_keep hgbl2 (fun a ha => (HOw.out.lt a ha).2) (p := ⟨B2, 1, none⟩) hBB (by first | omega | (simp [later_size, setCells_size]; done) | (simp [later_size, setCells_size]; omega))).trans (((HRB.out.later _).alloc _).cell 1); have hB2w : B2 < w2.heap.size := Nat.lt_of_lt_of_le (show B2 < ((later W2 x1).alloc (.cells #[.int .i64 t1, .int .i64 m1] 52)).heap.size from (by first | omega | (simp [later_size, setCells_size]; done) | (simp [later_size, setCells_size]; omega))) hBl2.size; clear HOl2 hBl2 hgbl2))
                go_roundw
                case rel => exact ⟨k + 1, A2, c2, l2, by omega, by go_num, rfl, by omega, Lib.hid (HLl2.out.trans HJ2.out.symm), Lib.hid (HOOl2.out.later _), Lib.hid (((show Ext w _ from (((HX.out.trans HX2.out).onto _).alloc _)).grown HBBl2.out (by omega)).onto _), Lib.hid (((((HRow.out.ext HX2.out).later _).alloc _).below HBBl2.out (by omega)).later _)⟩
                case measure => simp [intOf]; omega
              | false =>
                have HJ2 : Hid ((l.take (k + 1)).flatMap (Sp.cutOne · (s1, s2)) = (out ++ [(t1, m1)]) ++ [(m2, t2)]) := Lib.hid (by rw [HJ.out, q1, q2]; simp)
                have Q1 := Lib.hid q1
                have Q2 := Lib.hid q2
                clear q1 q2
                refine (rempty_is (t1, m1) false _ Q1.out).mono ?_
                rintro e w' ⟨rfl, hx⟩
                obtain ⟨x1, rfl⟩ := hx.asLater
                clear hx
                go_wp2_with (first
                  | (go_at_call 62; refine (rempty_is (m2, t2) false _ Q2.out).mono ?_; rintro e w' ⟨rfl, hx⟩; obtain ⟨x2, rfl⟩ := hx.asLater; clear hx)
                  | (at_builtin; refine app_from spT spE rfl _ _ rfl (w.heap.size + 1) A2 c2 l2 rfl ((HOOl2.out.later _).alloc _) _ 1 _ [(m2, t2)] rfl rfl (new_cellsAt (by first | omega | (simp [later_size, setCells_size]; done) | (simp [later_size, setCells_size]; omega)) _ _) (by omega) (by omega) (by first | omega | (simp [later_size, setCells_size]; done) | (simp [later_size, setCells_size]; omega)) ?_; intro A3 c3 l3 w3 HLl3 HOl3 hBl3 hlal3 hlbl3 hgbl3; have HOOl3 := Lib.hid HOl3; have HBBl3 := Lib.hid hBl3; have hszl3 := hBl3.size; skip; clear HOl3 hBl3 hgbl3)
                  | (at_builtin; refine app_from spT spE rfl _ _ rfl (w.heap.size + 1) A' c' out rfl (((HOw.out.ext HX2.out).later _).alloc _) _ 1 _ [(t1, m1)] rfl rfl (new_cellsAt (by first | omega | (simp [later_size, setCells_size]; done) | (simp [later_size, setCells_size]; omega)) _ _) (by omega) (by omega) (by first | omega | (simp [later_size, setCells_size]; done) | (simp [later_size, setCells_size]; omega)) ?_; intro A2 c2 l2 w2 HLl2 HOl2 hBl2 hlal2 hlbl2 hgbl2; have HOOl2 := Lib.hid HOl2; have HBBl2 := Lib.hid hBl2; have hszl2 := hBl2.size; have u0 : w2.cell? ⟨B2, 0, none⟩ = some (.int .i64 m2) := (app_keep hgbl2 (fun a ha => (HOw.out.lt a ha).2) (p := ⟨B2, 0, none⟩) hBB (by first | omega | (simp [later_size, setCells_size]; done) | (simp [later_size, setCells_size]; omega))).trans (((HRB.out.later _).alloc _).cell 0); have u1 : w2.cell? ⟨B2, 1, none⟩ = some (.int .i64 t2) := (app_keep hgbl2 (fun a ha => (HOw.out.lt a ha).2) (p := ⟨B2, 1, none⟩) hBB (by first | omega | (simp [later_size, setCells_size]; done) | (simp [later_size, setCells_size]; omega))).trans (((HRB.out.later _).alloc _).cell 1); have hB2w : B2 < w2.heap.size := Nat.lt_of_lt_of_le (show B2 < ((later W2 x1).alloc (.cells #[.int .i64 t1, .int .i64 m1] 52)).heap.size from (by first | omega | (simp [later_size, setCells_size]; done) | (simp [later_size, setCells_size]; omega))) hBl2.size; clear HOl2 hBl2 hgbl2))
                go_roundw
                case rel => exact ⟨k + 1, A3, c3, l3, by omega, by go_num, rfl, by omega, Lib.hid (by rw [HJ2.out, ← HLl2.out]; exact HLl3.out), HOOl3, Lib.hid ((show Ext w _ from ((((show Ext w _ from (((HX.out.trans HX2.out).onto _).alloc _)).grown HBBl2.out (by omega)).onto _).alloc _)).grown HBBl3.out (by omega)), Lib.hid ((((((((HRow.out.ext HX2.out).later _).alloc _).below HBBl2.out (by omega)).later _).alloc _)).below HBBl3.out (by omega))⟩
                case measure => simp [intOf]; omega
      · have e : k = l.length := by omega
        subst e
        rw [List.take_length] at HO
        go_wp2
        go_ret
        exact ⟨A', c', out, rfl, Lib.hid (by rw [HL.out]; exact HO.out), hol, HOw.out.lower (by omega), HX.out⟩
theorem rCut_in {l : List Sp} {n : Int} (h : SetIn l n) (s : Sp) : SetIn (Sp.rCut l s) n := by
  obtain ⟨k1, k2⟩ := Sp.rCut_spec h.1 s
  exact SetIn.of_mem k1 fun x hx => h.mem ((k2 x).1 hx).1
theorem rMinus_in {n : Int} : ∀ (b : List Sp) {a : List Sp}, SetIn a n → SetIn (Sp.rMinus a b) n
  | [], a, h => h
  | s :: b, a, h => rMinus_in b (rCut_in h s)
theorem minus_snoc (a b : List Sp) (k : Nat) (h : k < b.length) : Sp.rMinus a (b.take (k + 1)) = Sp.rCut (Sp.rMinus a (b.take k)) b[k] := by
  unfold Sp.rMinus
  rw [List.take_succ_eq_append_getElem h, List.foldl_append]
  rfl
theorem SetIn.small {l : List Sp} (h : SetIn l 1099511627776) : l.length * 32 ≤ 140737488340000 := by
  have := h.len (by decide)
  omega
def RMinusRel (w : World) (a b : List Sp) (i v : Value) (wr : World) : Prop := ∃ (k : Nat) (A' : Option Addr) (c' : Nat) (out : List Sp), k ≤ b.length ∧ i = .int .i64 k ∧ v = .slice A' out.length c' ∧ Hid (out = Sp.rMinus a (b.take k)) ∧ Hid (OwnsSp w.heap.size wr A' c' out) ∧ Hid (Ext w wr)
theorem none_of_own {base : Nat} {w : World} {A : Option Addr} {c : Nat} {l : List Sp} (h : OwnsSp base w A c l) : A = none → c = 0 := h.none0
set_option maxRecDepth 100000 in
set_option maxHeartbeats 400000 in
theorem rminus_any (A1 : Option Addr) (c1 : Nat) (a : List Sp) (A2 : Option Addr) (c2 : Nat) (b : List Sp) (w : World) (ha : SetIn a 1099511627776) (hlb : b.length ≤ 140737488340000) (hr1 : ReadsSp w w.heap.size A1 a) (hr2 : ReadsSp w w.heap.size A2 b) (z1 : A1 = none → c1 = 0) :
    Calls Tryz.prog 39 #[.slice A1 a.length c1, .slice A2 b.length c2] w fun e' w' => ∃ A' c' out, e' = .returned (.slice A' out.length c') ∧ Hid (out = Sp.rMinus a b) ∧ OwnsSp w.heap.size w' A' c' out ∧ Ext w w' := by
  have HR1 := Lib.hid hr1
  have HR2 := Lib.hid hr2
  have HZ1 := Lib.hid z1
  have HA := Lib.hid ha
  have hla := ha.small
  clear hr1 hr2 z1 ha
  go_enter Tryz.func39, Tryz.ntmps39
  go_wp2_with (at_builtin; refine app_reads spT spE rfl _ _ rfl w.heap.size _ _ [] rfl (own_lit0 _ _ _ (by first | omega | (simp [later_size, setCells_size]; done) | (simp [later_size, setCells_size]; omega)) (by first | omega | (simp [later_size, setCells_size]; done) | (simp [later_size, setCells_size]; omega))) w.heap.size A1 c1 a rfl (HR1.out.ext (by (repeat (first | with_reducible exact Ext.refl _ | with_reducible exact Ext.refl _ | with_reducible refine Ext.drew ?_ | with_reducible refine Ext.drewN ?_ _ | with_reducible refine Ext.alloc ?_ _ | with_reducible refine Ext.onto ?_ _ | (with_reducible refine Ext.setCells ?_ ?_ _ _; rotate_left; focus (first | omega | (simp; done) | (simp; omega))) | (with_reducible refine Ext.setCell ?_ ?_ _; rotate_left; focus (first | omega | (simp; done) | (simp; omega)))))) (Nat.le_refl _)) HZ1.out (by simp; omega) (by simp; omega) (by first | omega | (simp [later_size, setCells_size]; done) | (simp [later_size, setCells_size]; omega)) ?_; intro A3 c3 l3 w3 HL3 HO3 hB hl1 hl2 _; have HO3' := Lib.hid HO3; have HX3 : Hid (Ext w w3) := Lib.hid ((show Ext w _ from (by (repeat (first | with_reducible exact Ext.refl _ | with_reducible exact Ext.refl _ | with_reducible refine Ext.drew ?_ | with_reducible refine Ext.drewN ?_ _ | with_reducible refine Ext.alloc ?_ _ | with_reducible refine Ext.onto ?_ _ | (with_reducible refine Ext.setCells ?_ ?_ _ _; rotate_left; focus (first | omega | (simp; done) | (simp; omega))) | (with_reducible refine Ext.setCell ?_ ?_ _; rotate_left; focus (first | omega | (simp; done) | (simp; omega))))))).grown hB (Nat.le_refl _)); clear HO3 hB)
  have HL3' : Hid (l3 = a) := Lib.hid (by rw [HL3.out, List.nil_append])
  clear HL3
  go_loopw [6, 5] (RMinusRel w a b) (fun i _ _ => b.length - (intOf i).toNat)
  case atStart => exact ⟨0, A3, c3, l3, Nat.zero_le _, rfl, rfl, Lib.hid (by rw [HL3'.out]; rfl), HO3', HX3⟩
  case round =>
    obtain ⟨k, A', c', out, hk, rfl, rfl, HO, HOw, HX⟩ := hrel
    by_cases hlt : k < b.length
    · obtain ⟨bb, off, rfl, hb, y1, y2⟩ := ReadsSp.cell (HR2.out.ext HX.out (Nat.le_refl _)) k hlt
      have HJ := Lib.hid (minus_snoc a b k hlt)
      rw [← HO.out] at HJ
      have hol : out.length * 32 ≤ 140737488340000 := by rw [HO.out]; exact (rMinus_in _ HA.out).small
      generalize b[k] = t at *
      obtain ⟨t1, t2⟩ := t
      simp only [] at y1 y2
      have hsz := HX.out.size
      go_wp2_with (go_at_call 77; refine (rcut_any A' c' out (t1, t2) _ (by omega) (HOw.out.reads spE) (none_of_own HOw.out)).mono ?_; rintro e w4 ⟨A4, c4, l4, rfl, HL4, hl4, ho4, hx4⟩; have HO4 := Lib.hid ho4; have HX4 := Lib.hid hx4; clear ho4 hx4 hl4)
      go_roundw
      case rel => exact ⟨k + 1, A4, c4, l4, by omega, by go_num, rfl, Lib.hid (HL4.out.trans HJ.out.symm), Lib.hid (HO4.out.lower hsz), Lib.hid (HX.out.trans HX4.out)⟩
      case measure => simp [intOf]; omega
    · have e : k = b.length := by omega
      subst e
      rw [List.take_length] at HO
      go_wp2
      go_ret
      exact ⟨A', c', out, rfl, HO, HOw.out, HX.out⟩
/-- A span lies in what can be. -/
def OkSp (s : Sp) : Prop := s.1 < s.2 → 0 ≤ s.1 ∧ s.2 ≤ 1099511627776
theorem one_in {s : Sp} (h : s.1 < s.2) (k : OkSp s) : SetIn [s] 1099511627776 := ⟨Sp.IsSet.one h, fun t ht => by simp at ht; subst ht; exact k h⟩
set_option maxRecDepth 100000 in
set_option maxHeartbeats 400000 in
theorem rmissing_any (A : Option Addr) (c : Nat) (l : List Sp) (s : Sp) (w : World) (hs : OkSp s) (hll : l.length ≤ 140737488340000) (hr : ReadsSp w w.heap.size A l) :
    Calls Tryz.prog 41 #[.slice A l.length c, .agg #[.int .i64 s.1, .int .i64 s.2]] w fun e' w' => ∃ A' c' out, e' = .returned (.slice A' out.length c') ∧ Hid (out = rMissing l s) ∧ OwnsSp w.heap.size w' A' c' out ∧ Ext w w' := by
  have HR := Lib.hid hr
  clear hr
  by_cases he : s.2 ≤ s.1
  · have HE : Hid (emptyB s = true) := Lib.hid (by simpa [emptyB] using he)
    have HL : Hid (rMissing l s = []) := Lib.hid (by unfold rMissing; rw [if_pos he])
    clear he
    go_enter Tryz.func41, Tryz.ntmps41
    go_wp2_with (go_at_call 62; refine (rempty_is s true _ HE.out).mono ?_; rintro e w' ⟨rfl, hxl⟩; obtain ⟨xl, rfl⟩ := hxl.asLater; clear hxl)
    go_ret
    exact ⟨none, 0, [], rfl, Lib.hid HL.out.symm, Owns.nil _ _ _ _ _, (by (repeat (first | with_reducible exact Ext.refl _ | with_reducible exact Ext.refl _ | with_reducible refine Ext.drew ?_ | with_reducible refine Ext.drewN ?_ _ | with_reducible refine Ext.alloc ?_ _ | with_reducible refine Ext.onto ?_ _ | (with_reducible refine Ext.setCells ?_ ?_ _ _; rotate_left; focus (first | omega | (simp; done) | (simp; omega))) | (with_reducible refine Ext.setCell ?_ ?_ _; rotate_left; focus (first | omega | (simp; done) | (simp; omega))))))⟩
  · have HE : Hid (emptyB s = false) := Lib.hid (by simp [emptyB]; omega)
    have HL : Hid (rMissing l s = Sp.rMinus [s] l) := Lib.hid (by unfold rMissing; rw [if_neg he])
    have HI := Lib.hid (one_in (by omega) hs)
    clear he hs
    go_enter Tryz.func41, Tryz.ntmps41
    go_wp2_with (first
      | (go_at_call 62; refine (rempty_is s false _ HE.out).mono ?_; rintro e w' ⟨rfl, hxl⟩; obtain ⟨xl, rfl⟩ := hxl.asLater; clear hxl)
      | (go_at_call 39; refine (rminus_any _ _ [s] A c l _ HI.out hll ((own_lit1 _ (w.heap.size + 1) _ s (by first | omega | (simp [later_size, setCells_size]; done) | (simp [later_size, setCells_size]; omega)) (by first | omega | (simp [later_size, setCells_size]; done) | (simp [later_size, setCells_size]; omega))).reads spE) (HR.out.on (by (repeat (first | with_reducible exact Ext.refl _ | with_reducible exact Ext.refl _ | with_reducible refine Ext.drew ?_ | with_reducible refine Ext.drewN ?_ _ | with_reducible refine Ext.alloc ?_ _ | with_reducible refine Ext.onto ?_ _ | (with_reducible refine Ext.setCells ?_ ?_ _ _; rotate_left; focus (first | omega | (simp; done) | (simp; omega))) | (with_reducible refine Ext.setCell ?_ ?_ _; rotate_left; focus (first | omega | (simp; done) | (simp; omega))))))) (fun h => by cases h)).mono ?_; rintro e w4 ⟨A4, c4, l4, rfl, HL4, ho4, hx4⟩; have HO4 := Lib.hid ho4; have HX4 := Lib.hid hx4; clear ho4 hx4))
    go_ret
    exact ⟨A4, c4, l4, rfl, Lib.hid (HL4.out.trans HL.out.symm), HO4.out.lower (by first | omega | (simp [later_size, setCells_size]; done) | (simp [later_size, setCells_size]; omega)), (show Ext w _ from (by (repeat (first | with_reducible exact Ext.refl _ | with_reducible exact Ext.refl _ | with_reducible refine Ext.drew ?_ | with_reducible refine Ext.drewN ?_ _ | with_reducible refine Ext.alloc ?_ _ | with_reducible refine Ext.onto ?_ _ | (with_reducible refine Ext.setCells ?_ ?_ _ _; rotate_left; focus (first | omega | (simp; done) | (simp; omega))) | (with_reducible refine Ext.setCell ?_ ?_ _; rotate_left; focus (first | omega | (simp; done) | (simp; omega))))))).trans HX4.out⟩
def rCoversB (l : List Sp) (s : Sp) : Bool := decide ((rMissing l s).length = 0)
theorem rcovers_any (A : Option Addr) (c : Nat) (l : List Sp) (s : Sp) (w : World) (hs : OkSp s) (hll : l.length ≤ 140737488340000) (hr : ReadsSp w w.heap.size A l) :
    Calls Tryz.prog 22 #[.slice A l.length c, .agg #[.int .i64 s.1, .int .i64 s.2]] w fun e' w' => e' = .returned (.bool (rCoversB l s)) ∧ Ext w w' := by
  have HR := Lib.hid hr
  have HS := Lib.hid hs
  clear hr hs
  go_enter Tryz.func22, Tryz.ntmps22
  go_wp2_with (go_at_call 41; refine (rmissing_any A c l s _ HS.out hll (HR.out.on (by (repeat (first | with_reducible exact Ext.refl _ | with_reducible exact Ext.refl _ | with_reducible refine Ext.drew ?_ | with_reducible refine Ext.drewN ?_ _ | with_reducible refine Ext.alloc ?_ _ | with_reducible refine Ext.onto ?_ _ | (with_reducible refine Ext.setCells ?_ ?_ _ _; rotate_left; focus (first | omega | (simp; done) | (simp; omega))) | (with_reducible refine Ext.setCell ?_ ?_ _; rotate_left; focus (first | omega | (simp; done) | (simp; omega)))))))).mono ?_; rintro e w4 ⟨A4, c4, l4, rfl, HL4, ho4, hx4⟩; obtain ⟨x4, rfl⟩ := hx4.asLater; clear ho4 hx4)
  go_ret
  refine ⟨ret_bool ?_, (by (repeat (first | with_reducible exact Ext.refl _ | with_reducible exact Ext.refl _ | with_reducible refine Ext.drew ?_ | with_reducible refine Ext.drewN ?_ _ | with_reducible refine Ext.alloc ?_ _ | with_reducible refine Ext.onto ?_ _ | (with_reducible refine Ext.setCells ?_ ?_ _ _; rotate_left; focus (first | omega | (simp; done) | (simp; omega))) | (with_reducible refine Ext.setCell ?_ ?_ _; rotate_left; focus (first | omega | (simp; done) | (simp; omega))))))⟩
  rw [rCoversB, ← HL4.out, Bool.eq_iff_iff, beq_iff_eq, decide_eq_true_eq]
  omega
theorem rCovers_spec (l : List Sp) (s : Sp) : coversB l s (rCoversB l s) := empty_covers (rMissing_spec l s)
set_option maxHeartbeats 400000 in
theorem rsame_any (A B : Option Addr) (c d : Nat) (l : List Sp) (w : World) (hm : l.length ≤ 140737488355328) (hr1 : ReadsSp w w.heap.size A l) (hr2 : ReadsSp w w.heap.size B l) :
    Calls Tryz.prog 26 #[.slice A l.length c, .slice B l.length d] w fun e' w' => e' = .returned (.bool true) ∧ Ext w w' := by
  have HR1 := Lib.hid hr1
  have HR2 := Lib.hid hr2
  clear hr1 hr2
  go_enter Tryz.func26, Tryz.ntmps26
  go_wp2
  go_loopw [5] (fun i wr => ∃ k : Nat, k ≤ l.length ∧ i = .int .i64 k ∧ Ext w wr) (fun i _ => l.length - (intOf i).toNat)
  case atStart => exact ⟨0, Nat.zero_le _, rfl, Ext.refl _⟩
  case round =>
    obtain ⟨k, hk, rfl, hx⟩ := hrel
    have HX := Lib.hid hx
    by_cases hlt : k < l.length
    · obtain ⟨b1, o1, rfl, hb1, y1, y2⟩ := ReadsSp.cell (HR1.out.on hx) k hlt
      obtain ⟨b2, o2, rfl, hb2, z1, z2⟩ := ReadsSp.cell (HR2.out.on hx) k hlt
      generalize l[k] = s at *
      obtain ⟨s1, s2⟩ := s
      simp only [] at y1 y2 z1 z2
      clear hx
      go_wp2
      refine wp_region_later (by kernel_rfl) (by kernel_rfl) ?_
      repeat (first | go_big_quiet_step (fail) | quiet_step (fail))
      refine wpQuiet_nil ?_
      rintro _ ⟨xq, rfl⟩
      go_wp2
      go_roundw
      case rel => exact ⟨k + 1, by omega, by go_num, (by (repeat (first | with_reducible exact HX.out | with_reducible exact Ext.refl _ | with_reducible refine Ext.drew ?_ | with_reducible refine Ext.drewN ?_ _ | with_reducible refine Ext.alloc ?_ _ | with_reducible refine Ext.onto ?_ _ | (with_reducible refine Ext.setCells ?_ ?_ _ _; rotate_left; focus (first | omega | (simp; done) | (simp; omega))) | (with_reducible refine Ext.setCell ?_ ?_ _; rotate_left; focus (first | omega | (simp; done) | (simp; omega))))))⟩
      case measure => simp [intOf]; omega
    · clear hx
      go_wp2
      go_ret
      exact ⟨rfl, HX.out⟩
end Go.Proofs.YthhblgjbgjceiaaGreatDoor

namespace Go.Proofs.YthhblgjbgjceiaaGreatDoor
open Go.RowKit Go.Shelf
open Go.Proofs
open Go.Proofs.Sp (Sp)

theorem fold_snoc (l : List Sp) (s : Sp) (k : Nat) (h : k < l.length) : (l.take (k + 1)).foldl Sp.addStep ⟨[], s, false⟩ = Sp.addStep ((l.take k).foldl Sp.addStep ⟨[], s, false⟩) l[k] := by
  rw [List.take_succ_eq_append_getElem h, List.foldl_append]
  rfl
def RAddRel (w : World) (s : Sp) (l : List Sp) (i v p : Value) (wr : World) : Prop := ∃ (k : Nat) (A' : Option Addr) (c' : Nat) (out : List Sp) (a b : Int) (put : Bool), k ≤ l.length ∧ i = .int .i64 k ∧ v = .slice A' out.length c' ∧ p = .bool put ∧ out.length ≤ k * 2 ∧ Hid ((l.take k).foldl Sp.addStep ⟨[], s, false⟩ = ⟨out, (a, b), put⟩) ∧ Hid (OwnsSp (w.heap.size + 1) wr A' c' out) ∧ Hid (Ext w wr) ∧ Hid (RowAt wr w.heap.size #[.int .i64 a, .int .i64 b])
set_option maxRecDepth 100000 in
set_option maxHeartbeats 1000000 in
theorem radd_any (A : Option Addr) (c : Nat) (l : List Sp) (s : Sp) (w : World) (hlen : l.length * 32 ≤ 140737488350000) (hr : ReadsSp w w.heap.size A l) (z : A = none → c = 0) :
    Calls Tryz.prog 21 #[.slice A l.length c, .agg #[.int .i64 s.1, .int .i64 s.2]] w fun e' w' => ∃ A' c' out, e' = .returned (.slice A' out.length c') ∧ Hid (out = Sp.rAdd l s) ∧ OwnsSp w.heap.size w' A' c' out ∧ Ext w w' := by
  have HR := Lib.hid hr
  have HZ := Lib.hid z
  clear hr z
  by_cases he : s.2 ≤ s.1
  · have HE : Hid (emptyB s = true) := Lib.hid (by simpa [emptyB] using he)
    have HL : Hid (Sp.rAdd l s = l) := Lib.hid (by unfold Sp.rAdd; rw [if_pos he])
    clear he
    go_enter Tryz.func21, Tryz.ntmps21
    go_wp2_with (first
      | (go_at_call 62; refine (rempty_is s true _ HE.out).mono ?_; rintro e w' ⟨rfl, hxl⟩; obtain ⟨xl, rfl⟩ := hxl.asLater; clear hxl)
      | (at_builtin; refine app_reads spT spE rfl _ _ rfl (w.heap.size + 1) _ _ [] rfl (own_lit0 _ _ _ (by first | omega | (simp [later_size, setCells_size]; done) | (simp [later_size, setCells_size]; omega)) (by first | omega | (simp [later_size, setCells_size]; done) | (simp [later_size, setCells_size]; omega))) w.heap.size A c l rfl (HR.out.ext (by (repeat (first | with_reducible exact Ext.refl _ | with_reducible exact Ext.refl _ | with_reducible refine Ext.drew ?_ | with_reducible refine Ext.drewN ?_ _ | with_reducible refine Ext.alloc ?_ _ | with_reducible refine Ext.onto ?_ _ | (with_reducible refine Ext.setCells ?_ ?_ _ _; rotate_left; focus (first | omega | (simp; done) | (simp; omega))) | (with_reducible refine Ext.setCell ?_ ?_ _; rotate_left; focus (first | omega | (simp; done) | (simp; omega)))))) (Nat.le_refl _)) HZ.out (by simp; omega) (by simp; omega) (by first | omega | (simp [later_size, setCells_size]; done) | (simp [later_size, setCells_size]; omega)) ?_; intro A2 c2 l2 w2 HL2 HO2 hB hl1 hl2 _; have HO2' := Lib.hid HO2; have HB2 := Lib.hid hB; clear HO2 hB))
    go_ret
    exact ⟨A2, c2, l2, rfl, Lib.hid (by rw [HL2.out, HL.out, List.nil_append]), HO2'.out.lower (by omega), (show Ext w _ from (by (repeat (first | with_reducible exact Ext.refl _ | with_reducible exact Ext.refl _ | with_reducible refine Ext.drew ?_ | with_reducible refine Ext.drewN ?_ _ | with_reducible refine Ext.alloc ?_ _ | with_reducible refine Ext.onto ?_ _ | (with_reducible refine Ext.setCells ?_ ?_ _ _; rotate_left; focus (first | omega | (simp; done) | (simp; omega))) | (with_reducible refine Ext.setCell ?_ ?_ _; rotate_left; focus (first | omega | (simp; done) | (simp; omega))))))).grown HB2.out (by omega)⟩
  · have HE : Hid (emptyB s = false) := Lib.hid (by simp [emptyB]; omega)
    have HL : Hid (Sp.rAdd l s = Sp.addEnd (l.foldl Sp.addStep ⟨[], s, false⟩)) := Lib.hid (by unfold Sp.rAdd; rw [if_neg he])
    clear he
    obtain ⟨s1, s2⟩ := s
    go_enter Tryz.func21, Tryz.ntmps21
    go_wp2_with (go_at_call 62; refine (rempty_is (s1, s2) false _ HE.out).mono ?_; rintro e w' ⟨rfl, hxl⟩; obtain ⟨xl, rfl⟩ := hxl.asLater; clear hxl)
    go_loopw [7, 5, 6] (RAddRel w (s1, s2) l) (fun i _ _ _ => l.length - (intOf i).toNat)
    case atStart => exact ⟨0, none, 0, [], s1, s2, false, Nat.zero_le _, rfl, rfl, rfl, Nat.le_refl _, Lib.hid rfl, Lib.hid (Owns.nil _ _ _ _ _), Lib.hid (by (repeat (first | with_reducible exact Ext.refl _ | with_reducible exact Ext.refl _ | with_reducible refine Ext.drew ?_ | with_reducible refine Ext.drewN ?_ _ | with_reducible refine Ext.alloc ?_ _ | with_reducible refine Ext.onto ?_ _ | (with_reducible refine Ext.setCells ?_ ?_ _ _; rotate_left; focus (first | omega | (simp; done) | (simp; omega))) | (with_reducible refine Ext.setCell ?_ ?_ _; rotate_left; focus (first | omega | (simp; done) | (simp; omega)))))), Lib.hid (by (repeat (first | with_reducible exact RowAt.new _ _ _ | with_reducible refine RowAt.drew ?_ | with_reducible refine RowAt.later ?_ _ | with_reducible exact RowAt.newAt (by first | rfl | omega | (simp [later_size, setCells_size]; done) | (simp [later_size, setCells_size]; omega)) | with_reducible refine RowAt.alloc ?_ _ | with_reducible apply RowAt.store | with_reducible refine RowAt.others ?_ ?_ _ _ | with_reducible refine RowAt.other ?_ ?_ _)); all_goals first | omega | (simp; done) | (simp; omega) | (simp [go_sem]; done))⟩
    case round =>
      obtain ⟨k, A', c', out, a, b, put, hk, rfl, rfl, rfl, hol, HO, HOw, HX, HRow⟩ := hrel
      have hsz := HX.out.size
      have hlw := HRow.out.lt
      have z1 : wr.cell? ⟨w.heap.size, 0, none⟩ = some (.int .i64 a) := HRow.out.cell 0
      have z2 : wr.cell? ⟨w.heap.size, 1, none⟩ = some (.int .i64 b) := HRow.out.cell 1
      have f1 : wr.frozen? ⟨w.heap.size, 0, none⟩ = false := HRow.out.free 0
      have f2 : wr.frozen? ⟨w.heap.size, 1, none⟩ = false := HRow.out.free 1
      by_cases hlt : k < l.length
      · obtain ⟨bb, off, rfl, hb, y1, y2⟩ := ReadsSp.cell (HR.out.ext HX.out (Nat.le_refl _)) k hlt
        have HJ := Lib.hid (fold_snoc l (s1, s2) k hlt)
        rw [HO.out] at HJ
        generalize l[k] = t at *
        obtain ⟨t1, t2⟩ := t
        simp only [] at y1 y2
        by_cases c1 : t2 < a
        · have HJ2 : Hid ((l.take (k + 1)).foldl Sp.addStep ⟨[], (s1, s2), false⟩ = ⟨out ++ [(t1, t2)], (a, b), put⟩) := Lib.hid (by rw [HJ.out, Sp.addStep, if_pos c1])
          have d1 : decide (t2 < a) = true := by simpa using c1
          clear c1
          go_wp2
          refine wp_region_later (by kernel_rfl) (by kernel_rfl) ?_
          repeat (first | go_big_quiet_step (fail) | quiet_step (fail))
          refine wpQuiet_nil ?_
          rintro _ ⟨xq, rfl⟩
          go_wp2_with (first
            | (at_builtin; refine app_from spT spE rfl _ _ rfl (w.heap.size + 1) A' c' out rfl ((HOw.out.later _).alloc _) _ 1 _ [(t1, t2)] rfl rfl (new_cellsAt (by first | omega | (simp [later_size, setCells_size]; done) | (simp [later_size, setCells_size]; omega)) _ _) (by omega) (by omega) (by first | omega | (simp [later_size, setCells_size]; done) | (simp [later_size, setCells_size]; omega)) ?_; intro A2 c2 l2 w2 HLl2 HOl2 hBl2 hlal2 hlbl2 hgbl2; have HOOl2 := Lib.hid HOl2; have HBBl2 := Lib.hid hBl2; have hszl2 := hBl2.size; skip; clear HOl2 hBl2 hgbl2))
          go_roundw
          case rel => exact ⟨k + 1, A2, c2, l2, a, b, put, by omega, by go_num, rfl, rfl, by omega, Lib.hid (by rw [HLl2.out]; exact HJ2.out), HOOl2, Lib.hid ((show Ext w _ from ((HX.out.onto _).alloc _)).grown HBBl2.out (by omega)), Lib.hid (((HRow.out.later _).alloc _).below HBBl2.out (by omega))⟩
          case measure => simp [intOf]; omega
        · have d1 : decide (t2 < a) = false := by simpa using c1
          by_cases c2 : b < t1
          · have d2 : decide (b < t1) = true := by simpa using c2
            cases put with
            | true =>
              have HJ2 : Hid ((l.take (k + 1)).foldl Sp.addStep ⟨[], (s1, s2), false⟩ = ⟨out ++ [(t1, t2)], (a, b), true⟩) := Lib.hid (by rw [HJ.out, Sp.addStep, if_neg c1, if_pos c2]; rfl)
              clear c1 c2
              go_wp2
              refine wp_region_later (by kernel_rfl) (by kernel_rfl) ?_
              repeat (first | go_big_quiet_step (fail) | quiet_step (fail))
              refine wpQuiet_nil ?_
              rintro _ ⟨xq, rfl⟩
              go_wp2
              refine wp_region_later (by kernel_rfl) (by kernel_rfl) ?_
              repeat (first | go_big_quiet_step (fail) | quiet_step (fail))
              refine wpQuiet_nil ?_
              rintro _ ⟨xq, rfl⟩
              go_wp2_with (first
                | (at_builtin; refine app_from spT spE rfl _ _ rfl (w.heap.size + 1) A' c' out rfl ((HOw.out.later _).alloc _) _ 1 _ [(t1, t2)] rfl rfl (new_cellsAt (by first | omega | (simp [later_size, setCells_size]; done) | (simp [later_size, setCells_size]; omega)) _ _) (by omega) (by omega) (by first | omega | (simp [later_size, setCells_size]; done) | (simp [later_size, setCells_size]; omega)) ?_; intro A2 c2 l2 w2 HLl2 HOl2 hBl2 hlal2 hlbl2 hgbl2; have HOOl2 := Lib.hid HOl2; have HBBl2 := Lib.hid hBl2; have hszl2 := hBl2.size; skip; clear HOl2 hBl2 hgbl2))
              go_roundw
              case rel => exact ⟨k + 1, A2, c2, l2, a, b, true, by omega, by go_num, rfl, rfl, by omega, Lib.hid (by rw [HLl2.out]; exact HJ2.out), HOOl2, Lib.hid ((show Ext w _ from ((HX.out.onto _).alloc _)).grown HBBl2.out (by omega)), Lib.hid (((HRow.out.later _).alloc _).below HBBl2.out (by omega))⟩
              case measure => simp [intOf]; omega
            | false =>
              have HJ2 : Hid ((l.take (k + 1)).foldl Sp.addStep ⟨[], (s1, s2), false⟩ = ⟨(out ++ [(a, b)]) ++ [(t1, t2)], (a, b), true⟩) := Lib.hid (by rw [HJ.out, Sp.addStep, if_neg c1, if_pos c2]; rfl)
              clear c1 c2
              go_wp2
              refine wp_region_later (by kernel_rfl) (by kernel_rfl) ?_
              repeat (first | go_big_quiet_step (fail) | quiet_step (fail))
              refine wpQuiet_nil ?_
              rintro _ ⟨xq, rfl⟩
              go_wp2
              refine wp_region_later (by kernel_rfl) (by kernel_rfl) ?_
              repeat (first | go_big_quiet_step (fail) | quiet_step (fail))
              refine wpQuiet_nil ?_
              rintro _ ⟨xq, rfl⟩
              go_wp2_with (first
                | (at_builtin; refine app_from spT spE rfl _ _ rfl (w.heap.size + 1) A2 c2 l2 rfl (HOOl2.out.alloc _) _ 1 _ [(t1, t2)] rfl rfl (new_cellsAt (by first | omega | (simp [later_size, setCells_size]; done) | (simp [later_size, setCells_size]; omega)) _ _) (by omega) (by omega) (by first | omega | (simp [later_size, setCells_size]; done) | (simp [later_size, setCells_size]; omega)) ?_; intro A3 c3 l3 w3 HLl3 HOl3 hBl3 hlal3 hlbl3 hgbl3; have HOOl3 := Lib.hid HOl3; have HBBl3 := Lib.hid hBl3; have hszl3 := hBl3.size; skip; clear HOl3 hBl3 hgbl3)
                | (at_builtin; refine app_from spT spE rfl _ _ rfl (w.heap.size + 1) A' c' out rfl ((HOw.out.later _).alloc _) _ 1 _ [(a, b)] rfl rfl (new_cellsAt (by first | omega | (simp [later_size, setCells_size]; done) | (simp [later_size, setCells_size]; omega)) _ _) (by omega) (by omega) (by first | omega | (simp [later_size, setCells_size]; done) | (simp [later_size, setCells_size]; omega)) ?_; intro A2 c2 l2 w2 HLl2 HOl2 hBl2 hlal2 hlbl2 hgbl2; have HOOl2 := Lib.hid HOl2; have HBBl2 := Lib.hid hBl2; have hszl2 := hBl2.size; have v1 : w2.cell? ⟨bb, off + k * 2, none⟩ = some (.int .i64 t1) := (hBl2.cell (p := ⟨bb, off + k * 2, none⟩) (by show bb < w.heap.size + 1; omega)).trans (((((ext_later wr _).alloc _)).cell (p := ⟨bb, off + k * 2, none⟩) (by show bb < wr.heap.size; omega)).trans y1); have v2 : w2.cell? ⟨bb, off + k * 2 + 1, none⟩ = some (.int .i64 t2) := (hBl2.cell (p := ⟨bb, off + k * 2 + 1, none⟩) (by show bb < w.heap.size + 1; omega)).trans (((((ext_later wr _).alloc _)).cell (p := ⟨bb, off + k * 2 + 1, none⟩) (by show bb < wr.heap.size; omega)).trans y2); have hw2s : w.heap.size + 1 ≤ w2.heap.size := Nat.le_trans (by first | omega | (simp [later_size, setCells_size]; done) | (simp [later_size, setCells_size]; omega)) hBl2.size; clear HOl2 hBl2 hgbl2))
              go_roundw
              case rel => exact ⟨k + 1, A3, c3, l3, a, b, true, by omega, by go_num, rfl, rfl, by omega, Lib.hid (by rw [HLl3.out, HLl2.out]; exact HJ2.out), HOOl3, Lib.hid ((show Ext w _ from (((show Ext w _ from ((HX.out.onto _).alloc _)).grown HBBl2.out (by omega)).alloc _)).grown HBBl3.out (by omega)), Lib.hid (((((HRow.out.later _).alloc _).below HBBl2.out (by omega)).alloc _).below HBBl3.out (by omega))⟩
              case measure => simp [intOf]; omega
          · have d2 : decide (b < t1) = false := by simpa using c2
            have HJ2 : Hid ((l.take (k + 1)).foldl Sp.addStep ⟨[], (s1, s2), false⟩ = ⟨out, (min a t1, max b t2), put⟩) := Lib.hid (by rw [HJ.out, Sp.addStep, if_neg c1, if_neg c2])
            have hm1 : (if t1 < a then t1 else a) = min a t1 := by split <;> omega
            have hm2 : (if b < t2 then t2 else b) = max b t2 := by split <;> omega
            clear c1 c2
            go_wp2
            refine wp_region_later (by kernel_rfl) (by kernel_rfl) ?_
            repeat (first | go_big_quiet_step (fail) | quiet_step (fail))
            refine wpQuiet_nil ?_
            rintro _ ⟨xq, rfl⟩
            go_wp2
            refine wp_region_later (by kernel_rfl) (by kernel_rfl) ?_
            repeat (first | go_big_quiet_step (fail) | quiet_step (fail))
            refine wpQuiet_nil ?_
            rintro _ ⟨xq, rfl⟩
            go_wp2
            refine wp_region_later_tail 9 (by kernel_rfl) (by kernel_rfl) ?_
            simp only [List.take_succ_cons, List.take_zero, List.drop_succ_cons, List.drop_zero]
            repeat (first | go_big_quiet_step (fail) | quiet_step (fail))
            refine wpQuiet_nil ?_
            rintro _ ⟨xq, rfl⟩
            go_wp2
            refine wp_world (fun W => Ext w W ∧ RowAt W w.heap.size #[.int .i64 (min a t1), .int .i64 b] ∧ OwnsSp (w.heap.size + 1) W A' c' out ∧ wr.heap.size ≤ W.heap.size ∧ W.cell? ⟨bb, off + k * 2, none⟩ = some (.int .i64 t1) ∧ W.cell? ⟨bb, off + k * 2 + 1, none⟩ = some (.int .i64 t2)) ⟨Ext.setCell (((HX.out.onto _).onto _).onto _) (p := ⟨w.heap.size, 0, none⟩) (Nat.le_refl _) _, (((HRow.out.later _).later _).later _).set 0 _, ((((HOw.out.later _).later _).later _)).other (p := ⟨w.heap.size, 0, none⟩) (by show w.heap.size < w.heap.size + 1; omega) _, by simp [World.setCell, later_size] <;> omega, by simp [go_sem, ↓IntWalk.iteOmega, y1], by simp [go_sem, ↓IntWalk.iteOmega, y2]⟩ ?_
            rintro W ⟨hxW, hrW, hoW, hsW, y1', y2'⟩
            have HXW := Lib.hid hxW
            have HRW := Lib.hid hrW
            have HOW := Lib.hid hoW
            have z1' : W.cell? ⟨w.heap.size, 0, none⟩ = some (.int .i64 (min a t1)) := hrW.cell 0
            have z2' : W.cell? ⟨w.heap.size, 1, none⟩ = some (.int .i64 b) := hrW.cell 1
            have f1' : W.frozen? ⟨w.heap.size, 0, none⟩ = false := hrW.free 0
            have f2' : W.frozen? ⟨w.heap.size, 1, none⟩ = false := hrW.free 1
            clear hxW hrW hoW y1 y2 z1 z2 f1 f2
            refine wp_region_later_tail 9 (by kernel_rfl) (by kernel_rfl) ?_
            simp only [List.take_succ_cons, List.take_zero, List.drop_succ_cons, List.drop_zero]
            repeat (first | go_big_quiet_step (fail) | quiet_step (fail))
            refine wpQuiet_nil ?_
            rintro _ ⟨xq, rfl⟩
            go_wp2
            go_roundw
            case rel => exact ⟨k + 1, A', c', out, min a t1, max b t2, put, by omega, by go_num, rfl, rfl, by omega, HJ2, Lib.hid ((HOW.out.later _).other (p := ⟨w.heap.size, 1, none⟩) (by show w.heap.size < w.heap.size + 1; omega) _), Lib.hid (Ext.setCell (HXW.out.onto _) (p := ⟨w.heap.size, 1, none⟩) (Nat.le_refl _) _), Lib.hid ((HRW.out.later _).set 1 _)⟩
            case measure => simp [intOf]; omega
      · have e : k = l.length := by omega
        subst e
        rw [List.take_length] at HO
        cases put with
        | true =>
          have HF : Hid (Sp.rAdd l (s1, s2) = out) := Lib.hid (by rw [HL.out, HO.out]; rfl)
          go_wp2
          go_ret
          exact ⟨A', c', out, rfl, Lib.hid HF.out.symm, HOw.out.lower (by omega), HX.out⟩
        | false =>
          have HF : Hid (Sp.rAdd l (s1, s2) = out ++ [(a, b)]) := Lib.hid (by rw [HL.out, HO.out]; rfl)
          go_wp2_with (first
            | (at_builtin; refine app_from spT spE rfl _ _ rfl (w.heap.size + 1) A' c' out rfl (HOw.out.alloc _) _ 1 _ [(a, b)] rfl rfl (new_cellsAt (by first | omega | (simp [later_size, setCells_size]; done) | (simp [later_size, setCells_size]; omega)) _ _) (by omega) (by omega) (by first | omega | (simp [later_size, setCells_size]; done) | (simp [later_size, setCells_size]; omega)) ?_; intro A2 c2 l2 w2 HLl2 HOl2 hBl2 hlal2 hlbl2 hgbl2; have HOOl2 := Lib.hid HOl2; have HBBl2 := Lib.hid hBl2; have hszl2 := hBl2.size; skip; clear HOl2 hBl2 hgbl2))
          go_ret
          exact ⟨A2, c2, l2, rfl, Lib.hid (HLl2.out.trans HF.out.symm), HOOl2.out.lower (by omega), (show Ext w _ from HX.out.alloc _).grown HBBl2.out (by omega)⟩
end Go.Proofs.YthhblgjbgjceiaaGreatDoor
