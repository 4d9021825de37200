/- Walks of the specification's entries: Put, Missing. -/
import Derived.Test.YtiacnoejlmaplaaGreatDoorProg
import Derived.Test.YtiacnoejlmaplaaGreatDoorExt
import Derived.WalkKit
import Derived.WalkSpells
import Derived.WalkLawsBesides
import Derived.Deep.QuietTactic
import Derived.BigQuiet
import Derived.Test.YtiacnoejlmaplaaGreatDoorMs
import Derived.Test.YtiacnoejlmaplaaGreatDoorOj
import Derived.BigRegion
import Derived.Test.YtiacnoejlmaplaaGreatDoorMc
import Derived.Test.YtiacnoejlmaplaaGreatDoorFd
import Derived.Laws.MakeOwn
set_option linter.unusedVariables false
set_option linter.unusedSimpArgs false
namespace Go.Proofs.YtiacnoejlmaplaaGreatDoor
open Go.RowKit Go.Shelf
open Go.Proofs
open Go.Proofs.Sp (Sp)

/-- A slice literal with nothing in it. -/
theorem own_lit0 (w : World) (base b : Nat) (hb : base ≤ b) (hw : b = w.heap.size) : OwnsSp base (w.alloc (.cells #[] 49)) (some ⟨b, 0, none⟩) 0 [] := by
  subst hw
  exact Owns.mk spE hb (World.alloc_heap_new w _) (Nat.le_refl _) (Nat.zero_le _) rfl rfl
theorem own_lit1 (w : World) (base b : Nat) (s : Sp) (hb : base ≤ b) (hw : b = w.heap.size) : OwnsSp base (w.alloc (.cells #[.int .i64 s.1, .int .i64 s.2] 49)) (some ⟨b, 0, none⟩) 1 [s] := by
  subst hw
  exact Owns.mk spE hb (World.alloc_heap_new w _) (Nat.le_refl _) (by unfold maxLen; omega) rfl rfl

def newSp (base : Nat) : Soft := ⟨fun v w => ∃ b, v = .pointer (some ⟨b, 0, none⟩) ∧ base ≤ b ∧ RowAt w b #[.int .i64 0, .int .i64 0], fun v w w' ⟨b, h1, h2, h3⟩ hx => ⟨b, h1, h2, h3.ext hx⟩⟩
def softL (vs : List Value) (base : Nat) (i : Nat) : Soft := if i < vs.length then .eq (vs.getD i undef) else newSp base
def RCutRel (w : World) (s : Sp) (l : List Sp) (i v : Value) (wr : World) : Prop := ∃ (k : Nat) (A' : Option Addr) (c' : Nat) (out : List Sp), k ≤ l.length ∧ i = .int .i64 k ∧ v = .slice A' out.length c' ∧ out.length ≤ k * 2 ∧ Hid (out = (l.take k).flatMap (Sp.cutOne · s)) ∧ Hid (OwnsSp (w.heap.size + 1) wr A' c' out) ∧ Hid (Ext w wr) ∧ Hid (RowAt wr w.heap.size #[.int .i64 s.1, .int .i64 s.2])
theorem cut_snoc (s : Sp) (l : List Sp) (k : Nat) (h : k < l.length) : (l.take (k + 1)).flatMap (Sp.cutOne · s) = (l.take k).flatMap (Sp.cutOne · s) ++ Sp.cutOne l[k] s := by
  rw [List.take_succ_eq_append_getElem h, List.flatMap_append]
  simp
theorem app_keep {w w' : World} {A : Option Addr} {n c B : Nat} (h : w.grownBy w' (Value.slice A n c).ownBlock) (hA : ∀ a, A = some a → a.block < B) {p : Addr} (hp : B ≤ p.block) (hp2 : p.block < w.heap.size) : w'.cell? p = w.cell? p := by
  refine World.cell?_of_block (w := w) (h.block p.block hp2 fun e => ?_)
  cases A with
  | none => simp [Value.ownBlock] at e
  | some a =>
    simp [Value.ownBlock] at e
    have := hA a rfl
    omega
theorem cutOne_is {a s : Sp} {p q : Bool} (h1 : decide (min a.2 s.1 ≤ a.1) = p) (h2 : decide (a.2 ≤ max a.1 s.2) = q) : Sp.cutOne a s = (if p = true then [] else [(a.1, min a.2 s.1)]) ++ (if q = true then [] else [(max a.1 s.2, a.2)]) := by
  subst h1 h2
  unfold Sp.cutOne
  simp only [decide_eq_true_eq]
theorem cutOne_eq (a s : Sp) : Sp.cutOne a s = (if emptyB (a.1, min a.2 s.1) = true then [] else [(a.1, min a.2 s.1)]) ++ (if emptyB (max a.1 s.2, a.2) = true then [] else [(max a.1 s.2, a.2)]) := by
  unfold Sp.cutOne emptyB
  simp only [decide_eq_true_eq]
theorem emptyB_is {a b : Int} {q : Bool} (h : decide (b ≤ a) = q) : emptyB (a, b) = q := h

set_option maxRecDepth 100000 in
set_option maxHeartbeats 2000000 in
theorem rcut_any (A : Option Addr) (c : Nat) (l : List Sp) (s : Sp) (w : World) (hlen : l.length * 32 ≤ 140737488350000) (hr : ReadsSp w w.heap.size A l) (z : A = none → c = 0) :
    Calls Tryz.prog 90 #[.slice A l.length c, .agg #[.int .i64 s.1, .int .i64 s.2]] w fun e' w' => ∃ A' c' out, e' = .returned (.slice A' out.length c') ∧ Hid (out = Sp.rCut l s) ∧ out.length ≤ l.length * 2 ∧ OwnsSp w.heap.size w' A' c' out ∧ Ext w w' := by
  have HR := Lib.hid hr
  have HZ := Lib.hid z
  clear hr z
  by_cases he : s.2 ≤ s.1
  · have HE : Hid (emptyB s = true) := Lib.hid (by simpa [emptyB] using he)
    have HL : Hid (Sp.rCut l s = l) := Lib.hid (by unfold Sp.rCut; rw [if_pos he])
    clear he
    go_enter Tryz.func90, Tryz.ntmps90
    go_wp2_with (first
      | (go_at_call 56; refine (rempty_is s true _ HE.out).mono ?_; rintro e w' ⟨rfl, hxl⟩; obtain ⟨xl, rfl⟩ := hxl.asLater; clear hxl)
      | (at_builtin; refine app_reads spT spE rfl _ _ rfl (w.heap.size + 1) _ _ [] rfl (own_lit0 _ _ _ (by first | omega | (simp [later_size, setCells_size]; done) | (simp [later_size, setCells_size]; omega)) (by first | omega | (simp [later_size, setCells_size]; done) | (simp [later_size, setCells_size]; omega))) w.heap.size A c l rfl (HR.out.ext (by (repeat (first | with_reducible exact Ext.refl _ | with_reducible exact Ext.refl _ | with_reducible refine Ext.drew ?_ | with_reducible refine Ext.drewN ?_ _ | with_reducible refine Ext.alloc ?_ _ | with_reducible refine Ext.onto ?_ _ | (with_reducible refine Ext.setCells ?_ ?_ _ _; rotate_left; focus (first | omega | (simp; done) | (simp; omega))) | (with_reducible refine Ext.setCell ?_ ?_ _; rotate_left; focus (first | omega | (simp; done) | (simp; omega)))))) (Nat.le_refl _)) HZ.out (by simp; omega) (by simp; omega) (by first | omega | (simp [later_size, setCells_size]; done) | (simp [later_size, setCells_size]; omega)) ?_; intro A2 c2 l2 w2 HL2 HO2 hB hl1 hl2 _; have HO2' := Lib.hid HO2; have HB2 := Lib.hid hB; clear HO2 hB))
    go_ret
    exact ⟨A2, c2, l2, rfl, Lib.hid (by rw [HL2.out, HL.out, List.nil_append]), by simp at hl1; omega, HO2'.out.lower (by omega), (show Ext w _ from (by (repeat (first | with_reducible exact Ext.refl _ | with_reducible exact Ext.refl _ | with_reducible refine Ext.drew ?_ | with_reducible refine Ext.drewN ?_ _ | with_reducible refine Ext.alloc ?_ _ | with_reducible refine Ext.onto ?_ _ | (with_reducible refine Ext.setCells ?_ ?_ _ _; rotate_left; focus (first | omega | (simp; done) | (simp; omega))) | (with_reducible refine Ext.setCell ?_ ?_ _; rotate_left; focus (first | omega | (simp; done) | (simp; omega))))))).grown HB2.out (by omega)⟩
  · have HE : Hid (emptyB s = false) := Lib.hid (by simp [emptyB]; omega)
    have HL : Hid (Sp.rCut l s = l.flatMap (Sp.cutOne · s)) := Lib.hid (by unfold Sp.rCut; rw [if_neg he])
    clear he
    obtain ⟨s1, s2⟩ := s
    go_enter Tryz.func90, Tryz.ntmps90
    go_wp2_with (go_at_call 56; refine (rempty_is (s1, s2) false _ HE.out).mono ?_; rintro e w' ⟨rfl, hxl⟩; obtain ⟨xl, rfl⟩ := hxl.asLater; clear hxl)
    go_loopw [6, 5] (RCutRel w (s1, s2) l) (fun i _ _ => l.length - (intOf i).toNat)
    case atStart => exact ⟨0, none, 0, [], Nat.zero_le _, rfl, rfl, Nat.le_refl _, Lib.hid rfl, Lib.hid (Owns.nil _ _ _ _ _), Lib.hid (by (repeat (first | with_reducible exact Ext.refl _ | with_reducible exact Ext.refl _ | with_reducible refine Ext.drew ?_ | with_reducible refine Ext.drewN ?_ _ | with_reducible refine Ext.alloc ?_ _ | with_reducible refine Ext.onto ?_ _ | (with_reducible refine Ext.setCells ?_ ?_ _ _; rotate_left; focus (first | omega | (simp; done) | (simp; omega))) | (with_reducible refine Ext.setCell ?_ ?_ _; rotate_left; focus (first | omega | (simp; done) | (simp; omega)))))), Lib.hid (by (repeat (first | with_reducible exact RowAt.new _ _ _ | with_reducible refine RowAt.drew ?_ | with_reducible refine RowAt.later ?_ _ | with_reducible exact RowAt.newAt (by first | rfl | omega | (simp [later_size, setCells_size]; done) | (simp [later_size, setCells_size]; omega)) | with_reducible refine RowAt.alloc ?_ _ | with_reducible apply RowAt.store | with_reducible refine RowAt.others ?_ ?_ _ _ | with_reducible refine RowAt.other ?_ ?_ _)); all_goals first | omega | (simp; done) | (simp; omega) | (simp [go_sem]; done))⟩
    case round =>
      obtain ⟨k, A', c', out, hk, rfl, rfl, hol, HO, HOw, HX, HRow⟩ := hrel
      have hsz := HX.out.size
      have hlw := HRow.out.lt
      by_cases hlt : k < l.length
      · obtain ⟨b, off, rfl, hb, y1, y2⟩ := ReadsSp.cell (HR.out.ext HX.out (Nat.le_refl _)) k hlt
        have HJ := Lib.hid (cut_snoc (s1, s2) l k hlt)
        rw [← HO.out] at HJ
        generalize l[k] = t at *
        obtain ⟨t1, t2⟩ := t
        simp only [] at y1 y2
        have z1 : wr.cell? ⟨w.heap.size, 0, none⟩ = some (.int .i64 s1) := HRow.out.cell 0
        have z2 : wr.cell? ⟨w.heap.size, 1, none⟩ = some (.int .i64 s2) := HRow.out.cell 1
        have hm1 : (if s1 < t2 then s1 else t2) = min t2 s1 := by split <;> omega
        have hm2 : (if t1 < s2 then s2 else t1) = max t1 s2 := by split <;> omega
        have HC := Lib.hid (cutOne_eq (t1, t2) (s1, s2))
        simp only [] at HC
        go_wp2
        refine wp_region_soft 15 (softL [(.slice (some ⟨b, off, none⟩) l.length c), (.int .i64 (k : Int)), (.pointer (some ⟨b, off + k * 2, none⟩)), (.pointer (some ⟨b, off + k * 2, none⟩)), (.int .i64 t1), (.slice (some ⟨b, off, none⟩) l.length c), (.int .i64 (k : Int)), (.pointer (some ⟨b, off + k * 2, none⟩)), (.pointer (some ⟨b, off + k * 2 + 1, none⟩)), (.int .i64 t2), (.pointer (some ⟨w.heap.size, 0, none⟩)), (.int .i64 s1), (.int .i64 (min t2 s1)), (.agg #[(.int .i64 t1), (.int .i64 (min t2 s1))])] wr.heap.size) (by kernel_rfl) (by kernel_rfl) (lt_cons ?_ (lt_cons ?_ (lt_cons ?_ (lt_cons ?_ (lt_cons ?_ (lt_cons ?_ (lt_cons ?_ (lt_cons ?_ (lt_cons ?_ (lt_cons ?_ (lt_cons ?_ (lt_cons ?_ (lt_cons ?_ (lt_cons ?_ (lt_cons ?_ lt_none))))))))))))))) ?_
        ·
          intro o ho xs W hW hd Q' hQ; obtain rfl := Option.some.inj ho; clear ho; simp only [fillAt, dstOf, List.getElem?_cons_zero, List.getElem?_cons_succ, Option.bind_some, Act.put, List.setIfInBounds_toArray, List.set_cons_zero, List.set_cons_succ, Nat.zero_add, Nat.reduceAdd] at hQ ⊢; have HQ := Lib.hid hQ; have HD := Lib.hid hd; have HW := Lib.hid hW; have hsW := hW.size; clear hQ hd hW
          go_wp2
          exact HQ.out _ _ (Ext.refl _) rfl
        ·
          intro o ho xs W hW hd Q' hQ; obtain rfl := Option.some.inj ho; clear ho; simp only [fillAt, dstOf, List.getElem?_cons_zero, List.getElem?_cons_succ, Option.bind_some, Act.put, List.setIfInBounds_toArray, List.set_cons_zero, List.set_cons_succ, Nat.zero_add, Nat.reduceAdd] at hQ ⊢; have HQ := Lib.hid hQ; have HD := Lib.hid hd; have HW := Lib.hid hW; have hsW := hW.size; clear hQ hd hW
          go_wp2
          exact HQ.out _ _ (Ext.refl _) rfl
        ·
          intro o ho xs W hW hd Q' hQ; obtain rfl := Option.some.inj ho; clear ho; simp only [fillAt, dstOf, List.getElem?_cons_zero, List.getElem?_cons_succ, Option.bind_some, Act.put, List.setIfInBounds_toArray, List.set_cons_zero, List.set_cons_succ, Nat.zero_add, Nat.reduceAdd] at hQ ⊢; have HQ := Lib.hid hQ; have HD := Lib.hid hd; have HW := Lib.hid hW; have hsW := hW.size; clear hQ hd hW
          have hd0 : xs 0 = (.slice (some ⟨b, off, none⟩) l.length c) := (HD.out 0 (of_decide_eq_true (by kernel_rfl)))
          generalize xs 0 = x0 at hd0 HQ ⊢; subst hd0
          have hd1 : xs 1 = (.int .i64 (k : Int)) := (HD.out 1 (of_decide_eq_true (by kernel_rfl)))
          generalize xs 1 = x1 at hd1 HQ ⊢; subst hd1
          go_wp2
          exact HQ.out _ _ (Ext.refl _) rfl
        ·
          intro o ho xs W hW hd Q' hQ; obtain rfl := Option.some.inj ho; clear ho; simp only [fillAt, dstOf, List.getElem?_cons_zero, List.getElem?_cons_succ, Option.bind_some, Act.put, List.setIfInBounds_toArray, List.set_cons_zero, List.set_cons_succ, Nat.zero_add, Nat.reduceAdd] at hQ ⊢; have HQ := Lib.hid hQ; have HD := Lib.hid hd; have HW := Lib.hid hW; have hsW := hW.size; clear hQ hd hW
          have hd2 : xs 2 = (.pointer (some ⟨b, off + k * 2, none⟩)) := (HD.out 2 (of_decide_eq_true (by kernel_rfl)))
          generalize xs 2 = x2 at hd2 HQ ⊢; subst hd2
          go_wp2
          exact HQ.out _ _ (Ext.refl _) rfl
        ·
          intro o ho xs W hW hd Q' hQ; obtain rfl := Option.some.inj ho; clear ho; simp only [fillAt, dstOf, List.getElem?_cons_zero, List.getElem?_cons_succ, Option.bind_some, Act.put, List.setIfInBounds_toArray, List.set_cons_zero, List.set_cons_succ, Nat.zero_add, Nat.reduceAdd] at hQ ⊢; have HQ := Lib.hid hQ; have HD := Lib.hid hd; have HW := Lib.hid hW; have hsW := hW.size; clear hQ hd hW
          have hd3 : xs 3 = (.pointer (some ⟨b, off + k * 2, none⟩)) := (HD.out 3 (of_decide_eq_true (by kernel_rfl)))
          generalize xs 3 = x3 at hd3 HQ ⊢; subst hd3
          have hc : W.cell? ⟨b, off + k * 2, none⟩ = some ((.int .i64 t1)) := (HW.out.cell (p := ⟨b, off + k * 2, none⟩) (by show b < _; omega)).trans y1
          go_wp2
          exact HQ.out _ _ (Ext.refl _) rfl
        ·
          intro o ho xs W hW hd Q' hQ; obtain rfl := Option.some.inj ho; clear ho; simp only [fillAt, dstOf, List.getElem?_cons_zero, List.getElem?_cons_succ, Option.bind_some, Act.put, List.setIfInBounds_toArray, List.set_cons_zero, List.set_cons_succ, Nat.zero_add, Nat.reduceAdd] at hQ ⊢; have HQ := Lib.hid hQ; have HD := Lib.hid hd; have HW := Lib.hid hW; have hsW := hW.size; clear hQ hd hW
          go_wp2
          exact HQ.out _ _ (Ext.refl _) rfl
        ·
          intro o ho xs W hW hd Q' hQ; obtain rfl := Option.some.inj ho; clear ho; simp only [fillAt, dstOf, List.getElem?_cons_zero, List.getElem?_cons_succ, Option.bind_some, Act.put, List.setIfInBounds_toArray, List.set_cons_zero, List.set_cons_succ, Nat.zero_add, Nat.reduceAdd] at hQ ⊢; have HQ := Lib.hid hQ; have HD := Lib.hid hd; have HW := Lib.hid hW; have hsW := hW.size; clear hQ hd hW
          go_wp2
          exact HQ.out _ _ (Ext.refl _) rfl
        ·
          intro o ho xs W hW hd Q' hQ; obtain rfl := Option.some.inj ho; clear ho; simp only [fillAt, dstOf, List.getElem?_cons_zero, List.getElem?_cons_succ, Option.bind_some, Act.put, List.setIfInBounds_toArray, List.set_cons_zero, List.set_cons_succ, Nat.zero_add, Nat.reduceAdd] at hQ ⊢; have HQ := Lib.hid hQ; have HD := Lib.hid hd; have HW := Lib.hid hW; have hsW := hW.size; clear hQ hd hW
          have hd5 : xs 5 = (.slice (some ⟨b, off, none⟩) l.length c) := (HD.out 5 (of_decide_eq_true (by kernel_rfl)))
          generalize xs 5 = x5 at hd5 HQ ⊢; subst hd5
          have hd6 : xs 6 = (.int .i64 (k : Int)) := (HD.out 6 (of_decide_eq_true (by kernel_rfl)))
          generalize xs 6 = x6 at hd6 HQ ⊢; subst hd6
          go_wp2
          exact HQ.out _ _ (Ext.refl _) rfl
        ·
          intro o ho xs W hW hd Q' hQ; obtain rfl := Option.some.inj ho; clear ho; simp only [fillAt, dstOf, List.getElem?_cons_zero, List.getElem?_cons_succ, Option.bind_some, Act.put, List.setIfInBounds_toArray, List.set_cons_zero, List.set_cons_succ, Nat.zero_add, Nat.reduceAdd] at hQ ⊢; have HQ := Lib.hid hQ; have HD := Lib.hid hd; have HW := Lib.hid hW; have hsW := hW.size; clear hQ hd hW
          have hd7 : xs 7 = (.pointer (some ⟨b, off + k * 2, none⟩)) := (HD.out 7 (of_decide_eq_true (by kernel_rfl)))
          generalize xs 7 = x7 at hd7 HQ ⊢; subst hd7
          go_wp2
          exact HQ.out _ _ (Ext.refl _) rfl
        ·
          intro o ho xs W hW hd Q' hQ; obtain rfl := Option.some.inj ho; clear ho; simp only [fillAt, dstOf, List.getElem?_cons_zero, List.getElem?_cons_succ, Option.bind_some, Act.put, List.setIfInBounds_toArray, List.set_cons_zero, List.set_cons_succ, Nat.zero_add, Nat.reduceAdd] at hQ ⊢; have HQ := Lib.hid hQ; have HD := Lib.hid hd; have HW := Lib.hid hW; have hsW := hW.size; clear hQ hd hW
          have hd8 : xs 8 = (.pointer (some ⟨b, off + k * 2 + 1, none⟩)) := (HD.out 8 (of_decide_eq_true (by kernel_rfl)))
          generalize xs 8 = x8 at hd8 HQ ⊢; subst hd8
          have hc : W.cell? ⟨b, off + k * 2 + 1, none⟩ = some ((.int .i64 t2)) := (HW.out.cell (p := ⟨b, off + k * 2 + 1, none⟩) (by show b < _; omega)).trans y2
          go_wp2
          exact HQ.out _ _ (Ext.refl _) rfl
        ·
          intro o ho xs W hW hd Q' hQ; obtain rfl := Option.some.inj ho; clear ho; simp only [fillAt, dstOf, List.getElem?_cons_zero, List.getElem?_cons_succ, Option.bind_some, Act.put, List.setIfInBounds_toArray, List.set_cons_zero, List.set_cons_succ, Nat.zero_add, Nat.reduceAdd] at hQ ⊢; have HQ := Lib.hid hQ; have HD := Lib.hid hd; have HW := Lib.hid hW; have hsW := hW.size; clear hQ hd hW
          go_wp2
          exact HQ.out _ _ (Ext.refl _) rfl
        ·
          intro o ho xs W hW hd Q' hQ; obtain rfl := Option.some.inj ho; clear ho; simp only [fillAt, dstOf, List.getElem?_cons_zero, List.getElem?_cons_succ, Option.bind_some, Act.put, List.setIfInBounds_toArray, List.set_cons_zero, List.set_cons_succ, Nat.zero_add, Nat.reduceAdd] at hQ ⊢; have HQ := Lib.hid hQ; have HD := Lib.hid hd; have HW := Lib.hid hW; have hsW := hW.size; clear hQ hd hW
          have hd10 : xs 10 = (.pointer (some ⟨w.heap.size, 0, none⟩)) := (HD.out 10 (of_decide_eq_true (by kernel_rfl)))
          generalize xs 10 = x10 at hd10 HQ ⊢; subst hd10
          have hc : W.cell? ⟨w.heap.size, 0, none⟩ = some ((.int .i64 s1)) := (HW.out.cell (p := ⟨w.heap.size, 0, none⟩) (by show w.heap.size < _; omega)).trans z1
          go_wp2
          exact HQ.out _ _ (Ext.refl _) rfl
        ·
          intro o ho xs W hW hd Q' hQ; obtain rfl := Option.some.inj ho; clear ho; simp only [fillAt, dstOf, List.getElem?_cons_zero, List.getElem?_cons_succ, Option.bind_some, Act.put, List.setIfInBounds_toArray, List.set_cons_zero, List.set_cons_succ, Nat.zero_add, Nat.reduceAdd] at hQ ⊢; have HQ := Lib.hid hQ; have HD := Lib.hid hd; have HW := Lib.hid hW; have hsW := hW.size; clear hQ hd hW
          have hd9 : xs 9 = (.int .i64 t2) := (HD.out 9 (of_decide_eq_true (by kernel_rfl)))
          generalize xs 9 = x9 at hd9 HQ ⊢; subst hd9
          have hd11 : xs 11 = (.int .i64 s1) := (HD.out 11 (of_decide_eq_true (by kernel_rfl)))
          generalize xs 11 = x11 at hd11 HQ ⊢; subst hd11
          go_wp2
          exact HQ.out _ _ (Ext.refl _) rfl
        ·
          intro o ho xs W hW hd Q' hQ; obtain rfl := Option.some.inj ho; clear ho; simp only [fillAt, dstOf, List.getElem?_cons_zero, List.getElem?_cons_succ, Option.bind_some, Act.put, List.setIfInBounds_toArray, List.set_cons_zero, List.set_cons_succ, Nat.zero_add, Nat.reduceAdd] at hQ ⊢; have HQ := Lib.hid hQ; have HD := Lib.hid hd; have HW := Lib.hid hW; have hsW := hW.size; clear hQ hd hW
          have hd4 : xs 4 = (.int .i64 t1) := (HD.out 4 (of_decide_eq_true (by kernel_rfl)))
          generalize xs 4 = x4 at hd4 HQ ⊢; subst hd4
          have hd12 : xs 12 = (.int .i64 (min t2 s1)) := (HD.out 12 (of_decide_eq_true (by kernel_rfl)))
          generalize xs 12 = x12 at hd12 HQ ⊢; subst hd12
          go_wp2
          exact HQ.out _ _ (Ext.refl _) rfl
        ·
          intro o ho xs W hW hd Q' hQ; obtain rfl := Option.some.inj ho; clear ho; simp only [fillAt, dstOf, List.getElem?_cons_zero, List.getElem?_cons_succ, Option.bind_some, Act.put, List.setIfInBounds_toArray, List.set_cons_zero, List.set_cons_succ, Nat.zero_add, Nat.reduceAdd] at hQ ⊢; have HQ := Lib.hid hQ; have HD := Lib.hid hd; have HW := Lib.hid hW; have hsW := hW.size; clear hQ hd hW
          go_wp2
          exact HQ.out _ _ ((Ext.refl _).alloc _) ⟨W.heap.size, rfl, by omega, RowAt.new _ _ _⟩
        ·
          intro xs W hW hS
          have h13 : xs 13 = (.agg #[(.int .i64 t1), (.int .i64 (min t2 s1))]) := hS 13 (by omega)
          obtain ⟨B1, h14, hB1, hRB⟩ : (newSp wr.heap.size).S (xs 14) W := hS 14 (by omega)
          simp only [fillAt, dstOf, List.getElem?_cons_zero, List.getElem?_cons_succ, Option.bind_some, Act.put, List.setIfInBounds_toArray, List.set_cons_zero, List.set_cons_succ, Nat.zero_add, Nat.reduceAdd, List.drop_succ_cons, List.drop_zero]
          generalize xs 13 = x13 at *; subst h13
          generalize xs 14 = x14 at *; subst h14
          clear hS
          have hk0 : W.cell? ⟨B1, 0, none⟩ = some (.int .i64 0) := hRB.cell 0
          have hk1 : W.cell? ⟨B1, 1, none⟩ = some (.int .i64 0) := hRB.cell 1
          have hf0 : W.frozen? ⟨B1, 0, none⟩ = false := hRB.free 0
          have hf1 : W.frozen? ⟨B1, 1, none⟩ = false := hRB.free 1
          have hlB := hRB.lt
          go_wp2
          refine wp_world (fun W' => Ext wr W' ∧ RowAt W' B1 #[.int .i64 t1, .int .i64 (min t2 s1)]) ⟨Ext.setCell (Ext.setCell hW (p := ⟨B1, 0, none⟩) hB1 _) (p := ⟨B1, 1, none⟩) hB1 _, (hRB.set 0 _).set 1 _⟩ ?_
          clear hk0 hk1 hf0 hf1 hlB hRB hW
          rintro W1 ⟨hxW, hrW⟩
          have HXW := Lib.hid hxW
          have HRA := Lib.hid hrW
          have hlW := hrW.lt
          have hsW := hxW.size
          have a1 : W1.cell? ⟨B1, 0, none⟩ = some (.int .i64 t1) := hrW.cell 0
          have a2 : W1.cell? ⟨B1, 1, none⟩ = some (.int .i64 (min t2 s1)) := hrW.cell 1
          replace y1 := (hxW.cell (p := ⟨b, off + k * 2, none⟩) (by show b < _; omega)).trans y1
          replace y2 := (hxW.cell (p := ⟨b, off + k * 2 + 1, none⟩) (by show b < _; omega)).trans y2
          replace z1 := (hxW.cell (p := ⟨w.heap.size, 0, none⟩) hlw).trans z1
          replace z2 := (hxW.cell (p := ⟨w.heap.size, 1, none⟩) hlw).trans z2
          clear hxW hrW
          refine wp_region_soft 15 (softL [(.slice (some ⟨b, off, none⟩) l.length c), (.int .i64 (k : Int)), (.pointer (some ⟨b, off + k * 2, none⟩)), (.pointer (some ⟨b, off + k * 2, none⟩)), (.int .i64 t1), (.pointer (some ⟨w.heap.size, 1, none⟩)), (.int .i64 s2), (.int .i64 (max t1 s2)), (.slice (some ⟨b, off, none⟩) l.length c), (.int .i64 (k : Int)), (.pointer (some ⟨b, off + k * 2, none⟩)), (.pointer (some ⟨b, off + k * 2 + 1, none⟩)), (.int .i64 t2), (.agg #[(.int .i64 (max t1 s2)), (.int .i64 t2)])] W1.heap.size) (by kernel_rfl) (by kernel_rfl) (lt_cons ?_ (lt_cons ?_ (lt_cons ?_ (lt_cons ?_ (lt_cons ?_ (lt_cons ?_ (lt_cons ?_ (lt_cons ?_ (lt_cons ?_ (lt_cons ?_ (lt_cons ?_ (lt_cons ?_ (lt_cons ?_ (lt_cons ?_ (lt_cons ?_ lt_none))))))))))))))) ?_
          ·
            intro o ho xs W hW hd Q' hQ; obtain rfl := Option.some.inj ho; clear ho; simp only [fillAt, dstOf, List.getElem?_cons_zero, List.getElem?_cons_succ, Option.bind_some, Act.put, List.setIfInBounds_toArray, List.set_cons_zero, List.set_cons_succ, Nat.zero_add, Nat.reduceAdd] at hQ ⊢; have HQ := Lib.hid hQ; have HD := Lib.hid hd; have HW := Lib.hid hW; have hsW := hW.size; clear hQ hd hW
            go_wp2
            exact HQ.out _ _ (Ext.refl _) rfl
          ·
            intro o ho xs W hW hd Q' hQ; obtain rfl := Option.some.inj ho; clear ho; simp only [fillAt, dstOf, List.getElem?_cons_zero, List.getElem?_cons_succ, Option.bind_some, Act.put, List.setIfInBounds_toArray, List.set_cons_zero, List.set_cons_succ, Nat.zero_add, Nat.reduceAdd] at hQ ⊢; have HQ := Lib.hid hQ; have HD := Lib.hid hd; have HW := Lib.hid hW; have hsW := hW.size; clear hQ hd hW
            go_wp2
            exact HQ.out _ _ (Ext.refl _) rfl
          ·
            intro o ho xs W hW hd Q' hQ; obtain rfl := Option.some.inj ho; clear ho; simp only [fillAt, dstOf, List.getElem?_cons_zero, List.getElem?_cons_succ, Option.bind_some, Act.put, List.setIfInBounds_toArray, List.set_cons_zero, List.set_cons_succ, Nat.zero_add, Nat.reduceAdd] at hQ ⊢; have HQ := Lib.hid hQ; have HD := Lib.hid hd; have HW := Lib.hid hW; have hsW := hW.size; clear hQ hd hW
            have hd0 : xs 0 = (.slice (some ⟨b, off, none⟩) l.length c) := (HD.out 0 (of_decide_eq_true (by kernel_rfl)))
            generalize xs 0 = x0 at hd0 HQ ⊢; subst hd0
            have hd1 : xs 1 = (.int .i64 (k : Int)) := (HD.out 1 (of_decide_eq_true (by kernel_rfl)))
            generalize xs 1 = x1 at hd1 HQ ⊢; subst hd1
            go_wp2
            exact HQ.out _ _ (Ext.refl _) rfl
          ·
            intro o ho xs W hW hd Q' hQ; obtain rfl := Option.some.inj ho; clear ho; simp only [fillAt, dstOf, List.getElem?_cons_zero, List.getElem?_cons_succ, Option.bind_some, Act.put, List.setIfInBounds_toArray, List.set_cons_zero, List.set_cons_succ, Nat.zero_add, Nat.reduceAdd] at hQ ⊢; have HQ := Lib.hid hQ; have HD := Lib.hid hd; have HW := Lib.hid hW; have hsW := hW.size; clear hQ hd hW
            have hd2 : xs 2 = (.pointer (some ⟨b, off + k * 2, none⟩)) := (HD.out 2 (of_decide_eq_true (by kernel_rfl)))
            generalize xs 2 = x2 at hd2 HQ ⊢; subst hd2
            go_wp2
            exact HQ.out _ _ (Ext.refl _) rfl
          ·
            intro o ho xs W hW hd Q' hQ; obtain rfl := Option.some.inj ho; clear ho; simp only [fillAt, dstOf, List.getElem?_cons_zero, List.getElem?_cons_succ, Option.bind_some, Act.put, List.setIfInBounds_toArray, List.set_cons_zero, List.set_cons_succ, Nat.zero_add, Nat.reduceAdd] at hQ ⊢; have HQ := Lib.hid hQ; have HD := Lib.hid hd; have HW := Lib.hid hW; have hsW := hW.size; clear hQ hd hW
            have hd3 : xs 3 = (.pointer (some ⟨b, off + k * 2, none⟩)) := (HD.out 3 (of_decide_eq_true (by kernel_rfl)))
            generalize xs 3 = x3 at hd3 HQ ⊢; subst hd3
            have hc : W.cell? ⟨b, off + k * 2, none⟩ = some ((.int .i64 t1)) := (HW.out.cell (p := ⟨b, off + k * 2, none⟩) (by show b < _; omega)).trans y1
            go_wp2
            exact HQ.out _ _ (Ext.refl _) rfl
          ·
            intro o ho xs W hW hd Q' hQ; obtain rfl := Option.some.inj ho; clear ho; simp only [fillAt, dstOf, List.getElem?_cons_zero, List.getElem?_cons_succ, Option.bind_some, Act.put, List.setIfInBounds_toArray, List.set_cons_zero, List.set_cons_succ, Nat.zero_add, Nat.reduceAdd] at hQ ⊢; have HQ := Lib.hid hQ; have HD := Lib.hid hd; have HW := Lib.hid hW; have hsW := hW.size; clear hQ hd hW
            go_wp2
            exact HQ.out _ _ (Ext.refl _) rfl
          ·
            intro o ho xs W hW hd Q' hQ; obtain rfl := Option.some.inj ho; clear ho; simp only [fillAt, dstOf, List.getElem?_cons_zero, List.getElem?_cons_succ, Option.bind_some, Act.put, List.setIfInBounds_toArray, List.set_cons_zero, List.set_cons_succ, Nat.zero_add, Nat.reduceAdd] at hQ ⊢; have HQ := Lib.hid hQ; have HD := Lib.hid hd; have HW := Lib.hid hW; have hsW := hW.size; clear hQ hd hW
            have hd5 : xs 5 = (.pointer (some ⟨w.heap.size, 1, none⟩)) := (HD.out 5 (of_decide_eq_true (by kernel_rfl)))
            generalize xs 5 = x5 at hd5 HQ ⊢; subst hd5
            have hc : W.cell? ⟨w.heap.size, 1, none⟩ = some ((.int .i64 s2)) := (HW.out.cell (p := ⟨w.heap.size, 1, none⟩) (by show w.heap.size < _; omega)).trans z2
            go_wp2
            exact HQ.out _ _ (Ext.refl _) rfl
          ·
            intro o ho xs W hW hd Q' hQ; obtain rfl := Option.some.inj ho; clear ho; simp only [fillAt, dstOf, List.getElem?_cons_zero, List.getElem?_cons_succ, Option.bind_some, Act.put, List.setIfInBounds_toArray, List.set_cons_zero, List.set_cons_succ, Nat.zero_add, Nat.reduceAdd] at hQ ⊢; have HQ := Lib.hid hQ; have HD := Lib.hid hd; have HW := Lib.hid hW; have hsW := hW.size; clear hQ hd hW
            have hd4 : xs 4 = (.int .i64 t1) := (HD.out 4 (of_decide_eq_true (by kernel_rfl)))
            generalize xs 4 = x4 at hd4 HQ ⊢; subst hd4
            have hd6 : xs 6 = (.int .i64 s2) := (HD.out 6 (of_decide_eq_true (by kernel_rfl)))
            generalize xs 6 = x6 at hd6 HQ ⊢; subst hd6
            go_wp2
            exact HQ.out _ _ (Ext.refl _) rfl
          ·
            intro o ho xs W hW hd Q' hQ; obtain rfl := Option.some.inj ho; clear ho; simp only [fillAt, dstOf, List.getElem?_cons_zero, List.getElem?_cons_succ, Option.bind_some, Act.put, List.setIfInBounds_toArray, List.set_cons_zero, List.set_cons_succ, Nat.zero_add, Nat.reduceAdd] at hQ ⊢; have HQ := Lib.hid hQ; have HD := Lib.hid hd; have HW := Lib.hid hW; have hsW := hW.size; clear hQ hd hW
            go_wp2
            exact HQ.out _ _ (Ext.refl _) rfl
          ·
            intro o ho xs W hW hd Q' hQ; obtain rfl := Option.some.inj ho; clear ho; simp only [fillAt, dstOf, List.getElem?_cons_zero, List.getElem?_cons_succ, Option.bind_some, Act.put, List.setIfInBounds_toArray, List.set_cons_zero, List.set_cons_succ, Nat.zero_add, Nat.reduceAdd] at hQ ⊢; have HQ := Lib.hid hQ; have HD := Lib.hid hd; have HW := Lib.hid hW; have hsW := hW.size; clear hQ hd hW
            go_wp2
            exact HQ.out _ _ (Ext.refl _) rfl
          ·
            intro o ho xs W hW hd Q' hQ; obtain rfl := Option.some.inj ho; clear ho; simp only [fillAt, dstOf, List.getElem?_cons_zero, List.getElem?_cons_succ, Option.bind_some, Act.put, List.setIfInBounds_toArray, List.set_cons_zero, List.set_cons_succ, Nat.zero_add, Nat.reduceAdd] at hQ ⊢; have HQ := Lib.hid hQ; have HD := Lib.hid hd; have HW := Lib.hid hW; have hsW := hW.size; clear hQ hd hW
            have hd8 : xs 8 = (.slice (some ⟨b, off, none⟩) l.length c) := (HD.out 8 (of_decide_eq_true (by kernel_rfl)))
            generalize xs 8 = x8 at hd8 HQ ⊢; subst hd8
            have hd9 : xs 9 = (.int .i64 (k : Int)) := (HD.out 9 (of_decide_eq_true (by kernel_rfl)))
            generalize xs 9 = x9 at hd9 HQ ⊢; subst hd9
            go_wp2
            exact HQ.out _ _ (Ext.refl _) rfl
          ·
            intro o ho xs W hW hd Q' hQ; obtain rfl := Option.some.inj ho; clear ho; simp only [fillAt, dstOf, List.getElem?_cons_zero, List.getElem?_cons_succ, Option.bind_some, Act.put, List.setIfInBounds_toArray, List.set_cons_zero, List.set_cons_succ, Nat.zero_add, Nat.reduceAdd] at hQ ⊢; have HQ := Lib.hid hQ; have HD := Lib.hid hd; have HW := Lib.hid hW; have hsW := hW.size; clear hQ hd hW
            have hd10 : xs 10 = (.pointer (some ⟨b, off + k * 2, none⟩)) := (HD.out 10 (of_decide_eq_true (by kernel_rfl)))
            generalize xs 10 = x10 at hd10 HQ ⊢; subst hd10
            go_wp2
            exact HQ.out _ _ (Ext.refl _) rfl
          ·
            intro o ho xs W hW hd Q' hQ; obtain rfl := Option.some.inj ho; clear ho; simp only [fillAt, dstOf, List.getElem?_cons_zero, List.getElem?_cons_succ, Option.bind_some, Act.put, List.setIfInBounds_toArray, List.set_cons_zero, List.set_cons_succ, Nat.zero_add, Nat.reduceAdd] at hQ ⊢; have HQ := Lib.hid hQ; have HD := Lib.hid hd; have HW := Lib.hid hW; have hsW := hW.size; clear hQ hd hW
            have hd11 : xs 11 = (.pointer (some ⟨b, off + k * 2 + 1, none⟩)) := (HD.out 11 (of_decide_eq_true (by kernel_rfl)))
            generalize xs 11 = x11 at hd11 HQ ⊢; subst hd11
            have hc : W.cell? ⟨b, off + k * 2 + 1, none⟩ = some ((.int .i64 t2)) := (HW.out.cell (p := ⟨b, off + k * 2 + 1, none⟩) (by show b < _; omega)).trans y2
            go_wp2
            exact HQ.out _ _ (Ext.refl _) rfl
          ·
            intro o ho xs W hW hd Q' hQ; obtain rfl := Option.some.inj ho; clear ho; simp only [fillAt, dstOf, List.getElem?_cons_zero, List.getElem?_cons_succ, Option.bind_some, Act.put, List.setIfInBounds_toArray, List.set_cons_zero, List.set_cons_succ, Nat.zero_add, Nat.reduceAdd] at hQ ⊢; have HQ := Lib.hid hQ; have HD := Lib.hid hd; have HW := Lib.hid hW; have hsW := hW.size; clear hQ hd hW
            have hd7 : xs 7 = (.int .i64 (max t1 s2)) := (HD.out 7 (of_decide_eq_true (by kernel_rfl)))
            generalize xs 7 = x7 at hd7 HQ ⊢; subst hd7
            have hd12 : xs 12 = (.int .i64 t2) := (HD.out 12 (of_decide_eq_true (by kernel_rfl)))
            generalize xs 12 = x12 at hd12 HQ ⊢; subst hd12
            go_wp2
            exact HQ.out _ _ (Ext.refl _) rfl
          ·
            intro o ho xs W hW hd Q' hQ; obtain rfl := Option.some.inj ho; clear ho; simp only [fillAt, dstOf, List.getElem?_cons_zero, List.getElem?_cons_succ, Option.bind_some, Act.put, List.setIfInBounds_toArray, List.set_cons_zero, List.set_cons_succ, Nat.zero_add, Nat.reduceAdd] at hQ ⊢; have HQ := Lib.hid hQ; have HD := Lib.hid hd; have HW := Lib.hid hW; have hsW := hW.size; clear hQ hd hW
            go_wp2
            exact HQ.out _ _ ((Ext.refl _).alloc _) ⟨W.heap.size, rfl, by omega, RowAt.new _ _ _⟩
          ·
            intro xs W hW hS
            have h13 : xs 13 = (.agg #[(.int .i64 (max t1 s2)), (.int .i64 t2)]) := hS 13 (by omega)
            obtain ⟨B2, h14, hB2, hRB⟩ : (newSp W1.heap.size).S (xs 14) W := hS 14 (by omega)
            simp only [fillAt, dstOf, List.getElem?_cons_zero, List.getElem?_cons_succ, Option.bind_some, Act.put, List.setIfInBounds_toArray, List.set_cons_zero, List.set_cons_succ, Nat.zero_add, Nat.reduceAdd, List.drop_succ_cons, List.drop_zero]
            generalize xs 13 = x13 at *; subst h13
            generalize xs 14 = x14 at *; subst h14
            clear hS
            have hk0 : W.cell? ⟨B2, 0, none⟩ = some (.int .i64 0) := hRB.cell 0
            have hk1 : W.cell? ⟨B2, 1, none⟩ = some (.int .i64 0) := hRB.cell 1
            have hf0 : W.frozen? ⟨B2, 0, none⟩ = false := hRB.free 0
            have hf1 : W.frozen? ⟨B2, 1, none⟩ = false := hRB.free 1
            have hlB := hRB.lt
            have hW2 := HXW.out.trans hW
            have hRA2 := HRA.out.ext hW
            replace a1 := (hW.cell (p := ⟨B1, 0, none⟩) hlW).trans a1
            replace a2 := (hW.cell (p := ⟨B1, 1, none⟩) hlW).trans a2
            clear hm1 hm2 y1 y2 z1 z2
            generalize min t2 s1 = m1 at *
            generalize max t1 s2 = m2 at *
            go_wp2_with (go_at_call 56; refine (show Hid _ from ?_).out)
            refine Lib.hid ?_
            refine calls_world (fun W' => Ext wr W' ∧ RowAt W' B1 #[.int .i64 t1, .int .i64 m1] ∧ RowAt W' B2 #[.int .i64 m2, .int .i64 t2]) ⟨Ext.setCell (Ext.setCell hW2 (p := ⟨B2, 0, none⟩) (by show wr.heap.size ≤ B2; omega) _) (p := ⟨B2, 1, none⟩) (by show wr.heap.size ≤ B2; omega) _, RowAt.other (RowAt.other hRA2 (p := ⟨B2, 0, none⟩) (by show B1 ≠ B2; omega) _) (p := ⟨B2, 1, none⟩) (by show B1 ≠ B2; omega) _, (hRB.set 0 _).set 1 _⟩ ?_
            clear hk0 hk1 hf0 hf1 hlB hRB hW hW2 hRA2 a1 a2 HXW HRA hlW
            rintro W2 ⟨hxW, hrA, hrB⟩
            have HX2 := Lib.hid hxW
            have HRB := Lib.hid hrB
            have b1 : W2.cell? ⟨B2, 0, none⟩ = some (.int .i64 m2) := hrB.cell 0
            have b2 : W2.cell? ⟨B2, 1, none⟩ = some (.int .i64 t2) := hrB.cell 1
            have a1 : W2.cell? ⟨B1, 0, none⟩ = some (.int .i64 t1) := hrA.cell 0
            have a2 : W2.cell? ⟨B1, 1, none⟩ = some (.int .i64 m1) := hrA.cell 1
            have hlA := hrA.lt
            have hlB := hrB.lt
            have hs2 := hxW.size
            clear hxW hrA hrB
            have hBB : wr.heap.size ≤ B2 := by omega
            rw [HC.out] at HJ
            clear HC
            cases q1 : emptyB (t1, m1) with
            | true =>
              cases q2 : emptyB (m2, t2) with
              | true =>
                have HJ2 : Hid ((l.take (k + 1)).flatMap (Sp.cutOne · (s1, s2)) = out) := Lib.hid (by rw [HJ.out, q1, q2]; simp)
                have Q1 := Lib.hid q1
                have Q2 := Lib.hid q2
                clear q1 q2
                refine (rempty_is (t1, m1) true _ Q1.out).mono ?_
                rintro e w' ⟨rfl, hx⟩
                obtain ⟨x1, rfl⟩ := hx.asLater
                clear hx
                go_wp2_with (go_at_call 56; refine (rempty_is (m2, t2) true _ Q2.out).mono ?_; rintro e w' ⟨rfl, hx⟩; obtain ⟨x2, rfl⟩ := hx.asLater; clear hx)
                go_roundw
                case rel => exact ⟨k + 1, A', c', out, by omega, by go_num, rfl, by omega, Lib.hid HJ2.out.symm, Lib.hid ((HOw.out.ext HX2.out).later _), Lib.hid ((HX.out.trans HX2.out).onto _), Lib.hid ((HRow.out.ext HX2.out).later _)⟩
                case measure => simp [intOf]; omega
              | false =>
                have HJ2 : Hid ((l.take (k + 1)).flatMap (Sp.cutOne · (s1, s2)) = out ++ [(m2, t2)]) := Lib.hid (by rw [HJ.out, q1, q2]; simp)
                have Q1 := Lib.hid q1
                have Q2 := Lib.hid q2
                clear q1 q2
                refine (rempty_is (t1, m1) true _ Q1.out).mono ?_
                rintro e w' ⟨rfl, hx⟩
                obtain ⟨x1, rfl⟩ := hx.asLater
                clear hx
                go_wp2_with (first
                  | (go_at_call 56; refine (rempty_is (m2, t2) false _ Q2.out).mono ?_; rintro e w' ⟨rfl, hx⟩; obtain ⟨x2, rfl⟩ := hx.asLater; clear hx)
                  | (at_builtin; refine app_from spT spE rfl _ _ rfl (w.heap.size + 1) A' c' out rfl (((HOw.out.ext HX2.out).later _).alloc _) _ 1 _ [(m2, t2)] rfl rfl (new_cellsAt (by first | omega | (simp [later_size, setCells_size]; done) | (simp [later_size, setCells_size]; omega)) _ _) (by omega) (by omega) (by first | omega | (simp [later_size, setCells_size]; done) | (simp [later_size, setCells_size]; omega)) ?_; intro A2 c2 l2 w2 HLl2 HOl2 hBl2 hlal2 hlbl2 hgbl2; have HOOl2 := Lib.hid HOl2; have HBBl2 := Lib.hid hBl2; have hszl2 := hBl2.size; skip; clear HOl2 hBl2 hgbl2))
                go_roundw
                case rel => exact ⟨k + 1, A2, c2, l2, by omega, by go_num, rfl, by omega, Lib.hid (HLl2.out.trans HJ2.out.symm), HOOl2, Lib.hid ((show Ext w _ from (((HX.out.trans HX2.out).onto _).alloc _)).grown HBBl2.out (by omega)), Lib.hid ((((HRow.out.ext HX2.out).later _).alloc _).below HBBl2.out (by omega))⟩
                case measure => simp [intOf]; omega
            | false =>
              cases q2 : emptyB (m2, t2) with
              | true =>
                have HJ2 : Hid ((l.take (k + 1)).flatMap (Sp.cutOne · (s1, s2)) = out ++ [(t1, m1)]) := Lib.hid (by rw [HJ.out, q1, q2]; simp)
                have Q1 := Lib.hid q1
                have Q2 := Lib.hid q2
                clear q1 q2
                refine (rempty_is (t1, m1) false _ Q1.out).mono ?_
                rintro e w' ⟨rfl, hx⟩
                obtain ⟨x1, rfl⟩ := hx.asLater
                clear hx
                go_wp2_with (first
                  | (go_at_call 56; refine (rempty_is (m2, t2) true _ Q2.out).mono ?_; rintro e w' ⟨rfl, hx⟩; obtain ⟨x2, rfl⟩ := hx.asLater; clear hx)
                  | (at_builtin; refine app_from spT spE rfl _ _ rfl (w.heap.size + 1) A' c' out rfl (((HOw.out.ext HX2.out).later _).alloc _) _ 1 _ [(t1, m1)] rfl rfl (new_cellsAt (by first | omega | (simp [later_size, setCells_size]; done) | (simp [later_size, setCells_size]; omega)) _ _) (by omega) (by omega) (by first | omega | (simp [later_size, setCells_size]; done) | (simp [later_size, setCells_size]; omega)) ?_; intro A2 c2 l2 w2 HLl2 HOl2 hBl2 hlal2 hlbl2 hgbl2; have HOOl2 := Lib.hid HOl2; have HBBl2 := Lib.hid hBl2; have hszl2 := hBl2.size; have u0 : w2.cell? ⟨B2, 0, none⟩ = some (.int .i64 m2) := (app_keep hgbl2 (fun a ha => (HOw.out.lt a ha).2) (p := ⟨B2, 0, none⟩) hBB (by first | omega | (simp [later_size, setCells_size]; done) | (simp [later_size, setCells_size]; omega))).trans (((HRB.out.later _).alloc _).cell 0); have u1 : w2.cell? ⟨B2, 1, none⟩ = some (.int .i64 t2) := (app_keep hgbl2 (fun a ha => (HOw.out.lt a ha).2) (p := ⟨B2, 1, none⟩) hBB (by first | omega | (simp [later_size, setCells_size]; done) | (simp [later_size, setCells_size]; omega))).trans (((HRB.out.later _).alloc _).cell 1); have hB2w : B2 < w2.heap.size := Nat.lt_of_lt_of_le (show B2 < ((later W2 x1).alloc (.cells #[.int .i64 t1, .int .i64 m1] 49)).heap.size from (by first | omega | (simp [later_size, setCells_size]; done) | (simp [later_size, setCells_size]; omega))) hBl2.size; clear HOl2 hBl2 hgbl2))
                go_roundw
                case rel => exact ⟨k + 1, A2, c2, l2, by omega, by go_num, rfl, by omega, Lib.hid (HLl2.out.trans HJ2.out.symm), Lib.hid (HOOl2.out.later _), Lib.hid (((show Ext w _ from (((HX.out.trans HX2.out).onto _).alloc _)).grown HBBl2.out (by omega)).onto _), Lib.hid (((((HRow.out.ext HX2.out).later _).alloc _).below HBBl2.out (by omega)).later _)⟩
                case measure => simp [intOf]; omega
              | false =>
                have HJ2 : Hid ((l.take (k + 1)).flatMap (Sp.cutOne · (s1, s2)) = (out ++ [(t1, m1)]) ++ [(m2, t2)]) := Lib.hid (by rw [HJ.out, q1, q2]; simp)
                have Q1 := Lib.hid q1
                have Q2 := Lib.hid q2
                clear q1 q2
                refine (rempty_is (t1, m1) false _ Q1.out).mono ?_
                rintro e w' ⟨rfl, hx⟩
                obtain ⟨x1, rfl⟩ := hx.asLater
                clear hx
                go_wp2_with (first
                  | (go_at_call 56; refine (rempty_is (m2, t2) false _ Q2.out).mono ?_; rintro e w' ⟨rfl, hx⟩; obtain ⟨x2, rfl⟩ := hx.asLater; clear hx)
                  | (at_builtin; refine app_from spT spE rfl _ _ rfl (w.heap.size + 1) A2 c2 l2 rfl ((HOOl2.out.later _).alloc _) _ 1 _ [(m2, t2)] rfl rfl (new_cellsAt (by first | omega | (simp [later_size, setCells_size]; done) | (simp [later_size, setCells_size]; omega)) _ _) (by omega) (by omega) (by first | omega | (simp [later_size, setCells_size]; done) | (simp [later_size, setCells_size]; omega)) ?_; intro A3 c3 l3 w3 HLl3 HOl3 hBl3 hlal3 hlbl3 hgbl3; have HOOl3 := Lib.hid HOl3; have HBBl3 := Lib.hid hBl3; have hszl3 := hBl3.size; skip; clear HOl3 hBl3 hgbl3)
                  | (at_builtin; refine app_from spT spE rfl _ _ rfl (w.heap.size + 1) A' c' out rfl (((HOw.out.ext HX2.out).later _).alloc _) _ 1 _ [(t1, m1)] rfl rfl (new_cellsAt (by first | omega | (simp [later_size, setCells_size]; done) | (simp [later_size, setCells_size]; omega)) _ _) (by omega) (by omega) (by first | omega | (simp [later_size, setCells_size]; done) | (simp [later_size, setCells_size]; omega)) ?_; intro A2 c2 l2 w2 HLl2 HOl2 hBl2 hlal2 hlbl2 hgbl2; have HOOl2 := Lib.hid HOl2; have HBBl2 := Lib.hid hBl2; have hszl2 := hBl2.size; have u0 : w2.cell? ⟨B2, 0, none⟩ = some (.int .i64 m2) := (app_keep hgbl2 (fun a ha => (HOw.out.lt a ha).2) (p := ⟨B2, 0, none⟩) hBB (by first | omega | (simp [later_size, setCells_size]; done) | (simp [later_size, setCells_size]; omega))).trans (((HRB.out.later _).alloc _).cell 0); have u1 : w2.cell? ⟨B2, 1, none⟩ = some (.int .i64 t2) := (app_keep hgbl2 (fun a ha => (HOw.out.lt a ha).2) (p := ⟨B2, 1, none⟩) hBB (by first | omega | (simp [later_size, setCells_size]; done) | (simp [later_size, setCells_size]; omega))).trans (((HRB.out.later _).alloc _).cell 1); have hB2w : B2 < w2.heap.size := Nat.lt_of_lt_of_le (show B2 < ((later W2 x1).alloc (.cells #[.int .i64 t1, .int .i64 m1] 49)).heap.size from (by first | omega | (simp [later_size, setCells_size]; done) | (simp [later_size, setCells_size]; omega))) hBl2.size; clear HOl2 hBl2 hgbl2))
                go_roundw
                case rel => exact ⟨k + 1, A3, c3, l3, by omega, by go_num, rfl, by omega, Lib.hid (by rw [HJ2.out, ← HLl2.out]; exact HLl3.out), HOOl3, Lib.hid ((show Ext w _ from ((((show Ext w _ from (((HX.out.trans HX2.out).onto _).alloc _)).grown HBBl2.out (by omega)).onto _).alloc _)).grown HBBl3.out (by omega)), Lib.hid ((((((((HRow.out.ext HX2.out).later _).alloc _).below HBBl2.out (by omega)).later _).alloc _)).below HBBl3.out (by omega))⟩
                case measure => simp [intOf]; omega
      · have e : k = l.length := by omega
        subst e
        rw [List.take_length] at HO
        go_wp2
        go_ret
        exact ⟨A', c', out, rfl, Lib.hid (by rw [HL.out]; exact HO.out), hol, HOw.out.lower (by omega), HX.out⟩
theorem rCut_in {l : List Sp} {n : Int} (h : SetIn l n) (s : Sp) : SetIn (Sp.rCut l s) n := by
  obtain ⟨k1, k2⟩ := Sp.rCut_spec h.1 s
  exact SetIn.of_mem k1 fun x hx => h.mem ((k2 x).1 hx).1
theorem rMinus_in {n : Int} : ∀ (b : List Sp) {a : List Sp}, SetIn a n → SetIn (Sp.rMinus a b) n
  | [], a, h => h
  | s :: b, a, h => rMinus_in b (rCut_in h s)
theorem minus_snoc (a b : List Sp) (k : Nat) (h : k < b.length) : Sp.rMinus a (b.take (k + 1)) = Sp.rCut (Sp.rMinus a (b.take k)) b[k] := by
  unfold Sp.rMinus
  rw [List.take_succ_eq_append_getElem h, List.foldl_append]
  rfl
theorem SetIn.small {l : List Sp} (h : SetIn l 1099511627776) : l.length * 32 ≤ 140737488340000 := by
  have := h.len (by decide)
  omega
def RMinusRel (w : World) (a b : List Sp) (i v : Value) (wr : World) : Prop := ∃ (k : Nat) (A' : Option Addr) (c' : Nat) (out : List Sp), k ≤ b.length ∧ i = .int .i64 k ∧ v = .slice A' out.length c' ∧ Hid (out = Sp.rMinus a (b.take k)) ∧ Hid (OwnsSp w.heap.size wr A' c' out) ∧ Hid (Ext w wr)
theorem none_of_own {base : Nat} {w : World} {A : Option Addr} {c : Nat} {l : List Sp} (h : OwnsSp base w A c l) : A = none → c = 0 := h.none0
set_option maxRecDepth 100000 in
set_option maxHeartbeats 400000 in
theorem rminus_any (A1 : Option Addr) (c1 : Nat) (a : List Sp) (A2 : Option Addr) (c2 : Nat) (b : List Sp) (w : World) (ha : SetIn a 1099511627776) (hlb : b.length ≤ 140737488340000) (hr1 : ReadsSp w w.heap.size A1 a) (hr2 : ReadsSp w w.heap.size A2 b) (z1 : A1 = none → c1 = 0) :
    Calls Tryz.prog 69 #[.slice A1 a.length c1, .slice A2 b.length c2] w fun e' w' => ∃ A' c' out, e' = .returned (.slice A' out.length c') ∧ Hid (out = Sp.rMinus a b) ∧ OwnsSp w.heap.size w' A' c' out ∧ Ext w w' := by
  have HR1 := Lib.hid hr1
  have HR2 := Lib.hid hr2
  have HZ1 := Lib.hid z1
  have HA := Lib.hid ha
  have hla := ha.small
  clear hr1 hr2 z1 ha
  go_enter Tryz.func69, Tryz.ntmps69
  go_wp2_with (at_builtin; refine app_reads spT spE rfl _ _ rfl w.heap.size _ _ [] rfl (own_lit0 _ _ _ (by first | omega | (simp [later_size, setCells_size]; done) | (simp [later_size, setCells_size]; omega)) (by first | omega | (simp [later_size, setCells_size]; done) | (simp [later_size, setCells_size]; omega))) w.heap.size A1 c1 a rfl (HR1.out.ext (by (repeat (first | with_reducible exact Ext.refl _ | with_reducible exact Ext.refl _ | with_reducible refine Ext.drew ?_ | with_reducible refine Ext.drewN ?_ _ | with_reducible refine Ext.alloc ?_ _ | with_reducible refine Ext.onto ?_ _ | (with_reducible refine Ext.setCells ?_ ?_ _ _; rotate_left; focus (first | omega | (simp; done) | (simp; omega))) | (with_reducible refine Ext.setCell ?_ ?_ _; rotate_left; focus (first | omega | (simp; done) | (simp; omega)))))) (Nat.le_refl _)) HZ1.out (by simp; omega) (by simp; omega) (by first | omega | (simp [later_size, setCells_size]; done) | (simp [later_size, setCells_size]; omega)) ?_; intro A3 c3 l3 w3 HL3 HO3 hB hl1 hl2 _; have HO3' := Lib.hid HO3; have HX3 : Hid (Ext w w3) := Lib.hid ((show Ext w _ from (by (repeat (first | with_reducible exact Ext.refl _ | with_reducible exact Ext.refl _ | with_reducible refine Ext.drew ?_ | with_reducible refine Ext.drewN ?_ _ | with_reducible refine Ext.alloc ?_ _ | with_reducible refine Ext.onto ?_ _ | (with_reducible refine Ext.setCells ?_ ?_ _ _; rotate_left; focus (first | omega | (simp; done) | (simp; omega))) | (with_reducible refine Ext.setCell ?_ ?_ _; rotate_left; focus (first | omega | (simp; done) | (simp; omega))))))).grown hB (Nat.le_refl _)); clear HO3 hB)
  have HL3' : Hid (l3 = a) := Lib.hid (by rw [HL3.out, List.nil_append])
  clear HL3
  go_loopw [6, 5] (RMinusRel w a b) (fun i _ _ => b.length - (intOf i).toNat)
  case atStart => exact ⟨0, A3, c3, l3, Nat.zero_le _, rfl, rfl, Lib.hid (by rw [HL3'.out]; rfl), HO3', HX3⟩
  case round =>
    obtain ⟨k, A', c', out, hk, rfl, rfl, HO, HOw, HX⟩ := hrel
    by_cases hlt : k < b.length
    · obtain ⟨bb, off, rfl, hb, y1, y2⟩ := ReadsSp.cell (HR2.out.ext HX.out (Nat.le_refl _)) k hlt
      have HJ := Lib.hid (minus_snoc a b k hlt)
      rw [← HO.out] at HJ
      have hol : out.length * 32 ≤ 140737488340000 := by rw [HO.out]; exact (rMinus_in _ HA.out).small
      generalize b[k] = t at *
      obtain ⟨t1, t2⟩ := t
      simp only [] at y1 y2
      have hsz := HX.out.size
      go_wp2_with (go_at_call 90; refine (rcut_any A' c' out (t1, t2) _ (by omega) (HOw.out.reads spE) (none_of_own HOw.out)).mono ?_; rintro e w4 ⟨A4, c4, l4, rfl, HL4, hl4, ho4, hx4⟩; have HO4 := Lib.hid ho4; have HX4 := Lib.hid hx4; clear ho4 hx4 hl4)
      go_roundw
      case rel => exact ⟨k + 1, A4, c4, l4, by omega, by go_num, rfl, Lib.hid (HL4.out.trans HJ.out.symm), Lib.hid (HO4.out.lower hsz), Lib.hid (HX.out.trans HX4.out)⟩
      case measure => simp [intOf]; omega
    · have e : k = b.length := by omega
      subst e
      rw [List.take_length] at HO
      go_wp2
      go_ret
      exact ⟨A', c', out, rfl, HO, HOw.out, HX.out⟩
/-- A span lies in what can be. -/
def OkSp (s : Sp) : Prop := s.1 < s.2 → 0 ≤ s.1 ∧ s.2 ≤ 1099511627776
theorem one_in {s : Sp} (h : s.1 < s.2) (k : OkSp s) : SetIn [s] 1099511627776 := ⟨Sp.IsSet.one h, fun t ht => by simp at ht; subst ht; exact k h⟩
set_option maxRecDepth 100000 in
set_option maxHeartbeats 400000 in
theorem rmissing_any (A : Option Addr) (c : Nat) (l : List Sp) (s : Sp) (w : World) (hs : OkSp s) (hll : l.length ≤ 140737488340000) (hr : ReadsSp w w.heap.size A l) :
    Calls Tryz.prog 49 #[.slice A l.length c, .agg #[.int .i64 s.1, .int .i64 s.2]] w fun e' w' => ∃ A' c' out, e' = .returned (.slice A' out.length c') ∧ Hid (out = rMissing l s) ∧ OwnsSp w.heap.size w' A' c' out ∧ Ext w w' := by
  have HR := Lib.hid hr
  clear hr
  by_cases he : s.2 ≤ s.1
  · have HE : Hid (emptyB s = true) := Lib.hid (by simpa [emptyB] using he)
    have HL : Hid (rMissing l s = []) := Lib.hid (by unfold rMissing; rw [if_pos he])
    clear he
    go_enter Tryz.func49, Tryz.ntmps49
    go_wp2_with (go_at_call 56; refine (rempty_is s true _ HE.out).mono ?_; rintro e w' ⟨rfl, hxl⟩; obtain ⟨xl, rfl⟩ := hxl.asLater; clear hxl)
    go_ret
    exact ⟨none, 0, [], rfl, Lib.hid HL.out.symm, Owns.nil _ _ _ _ _, (by (repeat (first | with_reducible exact Ext.refl _ | with_reducible exact Ext.refl _ | with_reducible refine Ext.drew ?_ | with_reducible refine Ext.drewN ?_ _ | with_reducible refine Ext.alloc ?_ _ | with_reducible refine Ext.onto ?_ _ | (with_reducible refine Ext.setCells ?_ ?_ _ _; rotate_left; focus (first | omega | (simp; done) | (simp; omega))) | (with_reducible refine Ext.setCell ?_ ?_ _; rotate_left; focus (first | omega | (simp; done) | (simp; omega))))))⟩
  · have HE : Hid (emptyB s = false) := Lib.hid (by simp [emptyB]; omega)
    have HL : Hid (rMissing l s = Sp.rMinus [s] l) := Lib.hid (by unfold rMissing; rw [if_neg he])
    have HI := Lib.hid (one_in (by omega) hs)
    clear he hs
    go_enter Tryz.func49, Tryz.ntmps49
    go_wp2_with (first
      | (go_at_call 56; refine (rempty_is s false _ HE.out).mono ?_; rintro e w' ⟨rfl, hxl⟩; obtain ⟨xl, rfl⟩ := hxl.asLater; clear hxl)
      | (go_at_call 69; refine (rminus_any _ _ [s] A c l _ HI.out hll ((own_lit1 _ (w.heap.size + 1) _ s (by first | omega | (simp [later_size, setCells_size]; done) | (simp [later_size, setCells_size]; omega)) (by first | omega | (simp [later_size, setCells_size]; done) | (simp [later_size, setCells_size]; omega))).reads spE) (HR.out.on (by (repeat (first | with_reducible exact Ext.refl _ | with_reducible exact Ext.refl _ | with_reducible refine Ext.drew ?_ | with_reducible refine Ext.drewN ?_ _ | with_reducible refine Ext.alloc ?_ _ | with_reducible refine Ext.onto ?_ _ | (with_reducible refine Ext.setCells ?_ ?_ _ _; rotate_left; focus (first | omega | (simp; done) | (simp; omega))) | (with_reducible refine Ext.setCell ?_ ?_ _; rotate_left; focus (first | omega | (simp; done) | (simp; omega))))))) (fun h => by cases h)).mono ?_; rintro e w4 ⟨A4, c4, l4, rfl, HL4, ho4, hx4⟩; have HO4 := Lib.hid ho4; have HX4 := Lib.hid hx4; clear ho4 hx4))
    go_ret
    exact ⟨A4, c4, l4, rfl, Lib.hid (HL4.out.trans HL.out.symm), HO4.out.lower (by first | omega | (simp [later_size, setCells_size]; done) | (simp [later_size, setCells_size]; omega)), (show Ext w _ from (by (repeat (first | with_reducible exact Ext.refl _ | with_reducible exact Ext.refl _ | with_reducible refine Ext.drew ?_ | with_reducible refine Ext.drewN ?_ _ | with_reducible refine Ext.alloc ?_ _ | with_reducible refine Ext.onto ?_ _ | (with_reducible refine Ext.setCells ?_ ?_ _ _; rotate_left; focus (first | omega | (simp; done) | (simp; omega))) | (with_reducible refine Ext.setCell ?_ ?_ _; rotate_left; focus (first | omega | (simp; done) | (simp; omega))))))).trans HX4.out⟩
def rCoversB (l : List Sp) (s : Sp) : Bool := decide ((rMissing l s).length = 0)
theorem rCovers_spec (l : List Sp) (s : Sp) : coversB l s (rCoversB l s) := empty_covers (rMissing_spec l s)
set_option maxHeartbeats 400000 in
theorem rsame_any (A B : Option Addr) (c d : Nat) (l : List Sp) (w : World) (hm : l.length ≤ 140737488355328) (hr1 : ReadsSp w w.heap.size A l) (hr2 : ReadsSp w w.heap.size B l) :
    Calls Tryz.prog 25 #[.slice A l.length c, .slice B l.length d] w fun e' w' => e' = .returned (.bool true) ∧ Ext w w' := by
  have HR1 := Lib.hid hr1
  have HR2 := Lib.hid hr2
  clear hr1 hr2
  go_enter Tryz.func25, Tryz.ntmps25
  go_wp2
  go_loopw [5] (fun i wr => ∃ k : Nat, k ≤ l.length ∧ i = .int .i64 k ∧ Ext w wr) (fun i _ => l.length - (intOf i).toNat)
  case atStart => exact ⟨0, Nat.zero_le _, rfl, Ext.refl _⟩
  case round =>
    obtain ⟨k, hk, rfl, hx⟩ := hrel
    have HX := Lib.hid hx
    by_cases hlt : k < l.length
    · obtain ⟨b1, o1, rfl, hb1, y1, y2⟩ := ReadsSp.cell (HR1.out.on hx) k hlt
      obtain ⟨b2, o2, rfl, hb2, z1, z2⟩ := ReadsSp.cell (HR2.out.on hx) k hlt
      generalize l[k] = s at *
      obtain ⟨s1, s2⟩ := s
      simp only [] at y1 y2 z1 z2
      clear hx
      go_wp2
      refine wp_region_later (by kernel_rfl) (by kernel_rfl) ?_
      repeat (first | go_big_quiet_step (fail) | quiet_step (fail))
      refine wpQuiet_nil ?_
      rintro _ ⟨xq, rfl⟩
      go_wp2
      go_roundw
      case rel => exact ⟨k + 1, by omega, by go_num, (by (repeat (first | with_reducible exact HX.out | with_reducible exact Ext.refl _ | with_reducible refine Ext.drew ?_ | with_reducible refine Ext.drewN ?_ _ | with_reducible refine Ext.alloc ?_ _ | with_reducible refine Ext.onto ?_ _ | (with_reducible refine Ext.setCells ?_ ?_ _ _; rotate_left; focus (first | omega | (simp; done) | (simp; omega))) | (with_reducible refine Ext.setCell ?_ ?_ _; rotate_left; focus (first | omega | (simp; done) | (simp; omega))))))⟩
      case measure => simp [intOf]; omega
    · clear hx
      go_wp2
      go_ret
      exact ⟨rfl, HX.out⟩
end Go.Proofs.YtiacnoejlmaplaaGreatDoor

namespace Go.Proofs.YtiacnoejlmaplaaGreatDoor
open Go.RowKit Go.Shelf
open Go.Proofs
open Go.Proofs.Sp (Sp)

theorem fold_snoc (l : List Sp) (s : Sp) (k : Nat) (h : k < l.length) : (l.take (k + 1)).foldl Sp.addStep ⟨[], s, false⟩ = Sp.addStep ((l.take k).foldl Sp.addStep ⟨[], s, false⟩) l[k] := by
  rw [List.take_succ_eq_append_getElem h, List.foldl_append]
  rfl
def RAddRel (w : World) (s : Sp) (l : List Sp) (i v p : Value) (wr : World) : Prop := ∃ (k : Nat) (A' : Option Addr) (c' : Nat) (out : List Sp) (a b : Int) (put : Bool), k ≤ l.length ∧ i = .int .i64 k ∧ v = .slice A' out.length c' ∧ p = .bool put ∧ out.length ≤ k * 2 ∧ Hid ((l.take k).foldl Sp.addStep ⟨[], s, false⟩ = ⟨out, (a, b), put⟩) ∧ Hid (OwnsSp (w.heap.size + 1) wr A' c' out) ∧ Hid (Ext w wr) ∧ Hid (RowAt wr w.heap.size #[.int .i64 a, .int .i64 b])
set_option maxRecDepth 100000 in
set_option maxHeartbeats 1000000 in
theorem radd_any (A : Option Addr) (c : Nat) (l : List Sp) (s : Sp) (w : World) (hlen : l.length * 32 ≤ 140737488350000) (hr : ReadsSp w w.heap.size A l) (z : A = none → c = 0) :
    Calls Tryz.prog 47 #[.slice A l.length c, .agg #[.int .i64 s.1, .int .i64 s.2]] w fun e' w' => ∃ A' c' out, e' = .returned (.slice A' out.length c') ∧ Hid (out = Sp.rAdd l s) ∧ OwnsSp w.heap.size w' A' c' out ∧ Ext w w' := by
  have HR := Lib.hid hr
  have HZ := Lib.hid z
  clear hr z
  by_cases he : s.2 ≤ s.1
  · have HE : Hid (emptyB s = true) := Lib.hid (by simpa [emptyB] using he)
    have HL : Hid (Sp.rAdd l s = l) := Lib.hid (by unfold Sp.rAdd; rw [if_pos he])
    clear he
    go_enter Tryz.func47, Tryz.ntmps47
    go_wp2_with (first
      | (go_at_call 56; refine (rempty_is s true _ HE.out).mono ?_; rintro e w' ⟨rfl, hxl⟩; obtain ⟨xl, rfl⟩ := hxl.asLater; clear hxl)
      | (at_builtin; refine app_reads spT spE rfl _ _ rfl (w.heap.size + 1) _ _ [] rfl (own_lit0 _ _ _ (by first | omega | (simp [later_size, setCells_size]; done) | (simp [later_size, setCells_size]; omega)) (by first | omega | (simp [later_size, setCells_size]; done) | (simp [later_size, setCells_size]; omega))) w.heap.size A c l rfl (HR.out.ext (by (repeat (first | with_reducible exact Ext.refl _ | with_reducible exact Ext.refl _ | with_reducible refine Ext.drew ?_ | with_reducible refine Ext.drewN ?_ _ | with_reducible refine Ext.alloc ?_ _ | with_reducible refine Ext.onto ?_ _ | (with_reducible refine Ext.setCells ?_ ?_ _ _; rotate_left; focus (first | omega | (simp; done) | (simp; omega))) | (with_reducible refine Ext.setCell ?_ ?_ _; rotate_left; focus (first | omega | (simp; done) | (simp; omega)))))) (Nat.le_refl _)) HZ.out (by simp; omega) (by simp; omega) (by first | omega | (simp [later_size, setCells_size]; done) | (simp [later_size, setCells_size]; omega)) ?_; intro A2 c2 l2 w2 HL2 HO2 hB hl1 hl2 _; have HO2' := Lib.hid HO2; have HB2 := Lib.hid hB; clear HO2 hB))
    go_ret
    exact ⟨A2, c2, l2, rfl, Lib.hid (by rw [HL2.out, HL.out, List.nil_append]), HO2'.out.lower (by omega), (show Ext w _ from (by (repeat (first | with_reducible exact Ext.refl _ | with_reducible exact Ext.refl _ | with_reducible refine Ext.drew ?_ | with_reducible refine Ext.drewN ?_ _ | with_reducible refine Ext.alloc ?_ _ | with_reducible refine Ext.onto ?_ _ | (with_reducible refine Ext.setCells ?_ ?_ _ _; rotate_left; focus (first | omega | (simp; done) | (simp; omega))) | (with_reducible refine Ext.setCell ?_ ?_ _; rotate_left; focus (first | omega | (simp; done) | (simp; omega))))))).grown HB2.out (by omega)⟩
  · have HE : Hid (emptyB s = false) := Lib.hid (by simp [emptyB]; omega)
    have HL : Hid (Sp.rAdd l s = Sp.addEnd (l.foldl Sp.addStep ⟨[], s, false⟩)) := Lib.hid (by unfold Sp.rAdd; rw [if_neg he])
    clear he
    obtain ⟨s1, s2⟩ := s
    go_enter Tryz.func47, Tryz.ntmps47
    go_wp2_with (go_at_call 56; refine (rempty_is (s1, s2) false _ HE.out).mono ?_; rintro e w' ⟨rfl, hxl⟩; obtain ⟨xl, rfl⟩ := hxl.asLater; clear hxl)
    go_loopw [7, 5, 6] (RAddRel w (s1, s2) l) (fun i _ _ _ => l.length - (intOf i).toNat)
    case atStart => exact ⟨0, none, 0, [], s1, s2, false, Nat.zero_le _, rfl, rfl, rfl, Nat.le_refl _, Lib.hid rfl, Lib.hid (Owns.nil _ _ _ _ _), Lib.hid (by (repeat (first | with_reducible exact Ext.refl _ | with_reducible exact Ext.refl _ | with_reducible refine Ext.drew ?_ | with_reducible refine Ext.drewN ?_ _ | with_reducible refine Ext.alloc ?_ _ | with_reducible refine Ext.onto ?_ _ | (with_reducible refine Ext.setCells ?_ ?_ _ _; rotate_left; focus (first | omega | (simp; done) | (simp; omega))) | (with_reducible refine Ext.setCell ?_ ?_ _; rotate_left; focus (first | omega | (simp; done) | (simp; omega)))))), Lib.hid (by (repeat (first | with_reducible exact RowAt.new _ _ _ | with_reducible refine RowAt.drew ?_ | with_reducible refine RowAt.later ?_ _ | with_reducible exact RowAt.newAt (by first | rfl | omega | (simp [later_size, setCells_size]; done) | (simp [later_size, setCells_size]; omega)) | with_reducible refine RowAt.alloc ?_ _ | with_reducible apply RowAt.store | with_reducible refine RowAt.others ?_ ?_ _ _ | with_reducible refine RowAt.other ?_ ?_ _)); all_goals first | omega | (simp; done) | (simp; omega) | (simp [go_sem]; done))⟩
    case round =>
      obtain ⟨k, A', c', out, a, b, put, hk, rfl, rfl, rfl, hol, HO, HOw, HX, HRow⟩ := hrel
      have hsz := HX.out.size
      have hlw := HRow.out.lt
      have z1 : wr.cell? ⟨w.heap.size, 0, none⟩ = some (.int .i64 a) := HRow.out.cell 0
      have z2 : wr.cell? ⟨w.heap.size, 1, none⟩ = some (.int .i64 b) := HRow.out.cell 1
      have f1 : wr.frozen? ⟨w.heap.size, 0, none⟩ = false := HRow.out.free 0
      have f2 : wr.frozen? ⟨w.heap.size, 1, none⟩ = false := HRow.out.free 1
      by_cases hlt : k < l.length
      · obtain ⟨bb, off, rfl, hb, y1, y2⟩ := ReadsSp.cell (HR.out.ext HX.out (Nat.le_refl _)) k hlt
        have HJ := Lib.hid (fold_snoc l (s1, s2) k hlt)
        rw [HO.out] at HJ
        generalize l[k] = t at *
        obtain ⟨t1, t2⟩ := t
        simp only [] at y1 y2
        by_cases c1 : t2 < a
        · have HJ2 : Hid ((l.take (k + 1)).foldl Sp.addStep ⟨[], (s1, s2), false⟩ = ⟨out ++ [(t1, t2)], (a, b), put⟩) := Lib.hid (by rw [HJ.out, Sp.addStep, if_pos c1])
          have d1 : decide (t2 < a) = true := by simpa using c1
          clear c1
          go_wp2
          refine wp_region_later (by kernel_rfl) (by kernel_rfl) ?_
          repeat (first | go_big_quiet_step (fail) | quiet_step (fail))
          refine wpQuiet_nil ?_
          rintro _ ⟨xq, rfl⟩
          go_wp2_with (first
            | (at_builtin; refine app_from spT spE rfl _ _ rfl (w.heap.size + 1) A' c' out rfl ((HOw.out.later _).alloc _) _ 1 _ [(t1, t2)] rfl rfl (new_cellsAt (by first | omega | (simp [later_size, setCells_size]; done) | (simp [later_size, setCells_size]; omega)) _ _) (by omega) (by omega) (by first | omega | (simp [later_size, setCells_size]; done) | (simp [later_size, setCells_size]; omega)) ?_; intro A2 c2 l2 w2 HLl2 HOl2 hBl2 hlal2 hlbl2 hgbl2; have HOOl2 := Lib.hid HOl2; have HBBl2 := Lib.hid hBl2; have hszl2 := hBl2.size; skip; clear HOl2 hBl2 hgbl2))
          go_roundw
          case rel => exact ⟨k + 1, A2, c2, l2, a, b, put, by omega, by go_num, rfl, rfl, by omega, Lib.hid (by rw [HLl2.out]; exact HJ2.out), HOOl2, Lib.hid ((show Ext w _ from ((HX.out.onto _).alloc _)).grown HBBl2.out (by omega)), Lib.hid (((HRow.out.later _).alloc _).below HBBl2.out (by omega))⟩
          case measure => simp [intOf]; omega
        · have d1 : decide (t2 < a) = false := by simpa using c1
          by_cases c2 : b < t1
          · have d2 : decide (b < t1) = true := by simpa using c2
            cases put with
            | true =>
              have HJ2 : Hid ((l.take (k + 1)).foldl Sp.addStep ⟨[], (s1, s2), false⟩ = ⟨out ++ [(t1, t2)], (a, b), true⟩) := Lib.hid (by rw [HJ.out, Sp.addStep, if_neg c1, if_pos c2]; rfl)
              clear c1 c2
              go_wp2
              refine wp_region_later (by kernel_rfl) (by kernel_rfl) ?_
              repeat (first | go_big_quiet_step (fail) | quiet_step (fail))
              refine wpQuiet_nil ?_
              rintro _ ⟨xq, rfl⟩
              go_wp2
              refine wp_region_later (by kernel_rfl) (by kernel_rfl) ?_
              repeat (first | go_big_quiet_step (fail) | quiet_step (fail))
              refine wpQuiet_nil ?_
              rintro _ ⟨xq, rfl⟩
              go_wp2_with (first
                | (at_builtin; refine app_from spT spE rfl _ _ rfl (w.heap.size + 1) A' c' out rfl ((HOw.out.later _).alloc _) _ 1 _ [(t1, t2)] rfl rfl (new_cellsAt (by first | omega | (simp [later_size, setCells_size]; done) | (simp [later_size, setCells_size]; omega)) _ _) (by omega) (by omega) (by first | omega | (simp [later_size, setCells_size]; done) | (simp [later_size, setCells_size]; omega)) ?_; intro A2 c2 l2 w2 HLl2 HOl2 hBl2 hlal2 hlbl2 hgbl2; have HOOl2 := Lib.hid HOl2; have HBBl2 := Lib.hid hBl2; have hszl2 := hBl2.size; skip; clear HOl2 hBl2 hgbl2))
              go_roundw
              case rel => exact ⟨k + 1, A2, c2, l2, a, b, true, by omega, by go_num, rfl, rfl, by omega, Lib.hid (by rw [HLl2.out]; exact HJ2.out), HOOl2, Lib.hid ((show Ext w _ from ((HX.out.onto _).alloc _)).grown HBBl2.out (by omega)), Lib.hid (((HRow.out.later _).alloc _).below HBBl2.out (by omega))⟩
              case measure => simp [intOf]; omega
            | false =>
              have HJ2 : Hid ((l.take (k + 1)).foldl Sp.addStep ⟨[], (s1, s2), false⟩ = ⟨(out ++ [(a, b)]) ++ [(t1, t2)], (a, b), true⟩) := Lib.hid (by rw [HJ.out, Sp.addStep, if_neg c1, if_pos c2]; rfl)
              clear c1 c2
              go_wp2
              refine wp_region_later (by kernel_rfl) (by kernel_rfl) ?_
              repeat (first | go_big_quiet_step (fail) | quiet_step (fail))
              refine wpQuiet_nil ?_
              rintro _ ⟨xq, rfl⟩
              go_wp2
              refine wp_region_later (by kernel_rfl) (by kernel_rfl) ?_
              repeat (first | go_big_quiet_step (fail) | quiet_step (fail))
              refine wpQuiet_nil ?_
              rintro _ ⟨xq, rfl⟩
              go_wp2_with (first
                | (at_builtin; refine app_from spT spE rfl _ _ rfl (w.heap.size + 1) A2 c2 l2 rfl (HOOl2.out.alloc _) _ 1 _ [(t1, t2)] rfl rfl (new_cellsAt (by first | omega | (simp [later_size, setCells_size]; done) | (simp [later_size, setCells_size]; omega)) _ _) (by omega) (by omega) (by first | omega | (simp [later_size, setCells_size]; done) | (simp [later_size, setCells_size]; omega)) ?_; intro A3 c3 l3 w3 HLl3 HOl3 hBl3 hlal3 hlbl3 hgbl3; have HOOl3 := Lib.hid HOl3; have HBBl3 := Lib.hid hBl3; have hszl3 := hBl3.size; skip; clear HOl3 hBl3 hgbl3)
                | (at_builtin; refine app_from spT spE rfl _ _ rfl (w.heap.size + 1) A' c' out rfl ((HOw.out.later _).alloc _) _ 1 _ [(a, b)] rfl rfl (new_cellsAt (by first | omega | (simp [later_size, setCells_size]; done) | (simp [later_size, setCells_size]; omega)) _ _) (by omega) (by omega) (by first | omega | (simp [later_size, setCells_size]; done) | (simp [later_size, setCells_size]; omega)) ?_; intro A2 c2 l2 w2 HLl2 HOl2 hBl2 hlal2 hlbl2 hgbl2; have HOOl2 := Lib.hid HOl2; have HBBl2 := Lib.hid hBl2; have hszl2 := hBl2.size; have v1 : w2.cell? ⟨bb, off + k * 2, none⟩ = some (.int .i64 t1) := (hBl2.cell (p := ⟨bb, off + k * 2, none⟩) (by show bb < w.heap.size + 1; omega)).trans (((((ext_later wr _).alloc _)).cell (p := ⟨bb, off + k * 2, none⟩) (by show bb < wr.heap.size; omega)).trans y1); have v2 : w2.cell? ⟨bb, off + k * 2 + 1, none⟩ = some (.int .i64 t2) := (hBl2.cell (p := ⟨bb, off + k * 2 + 1, none⟩) (by show bb < w.heap.size + 1; omega)).trans (((((ext_later wr _).alloc _)).cell (p := ⟨bb, off + k * 2 + 1, none⟩) (by show bb < wr.heap.size; omega)).trans y2); have hw2s : w.heap.size + 1 ≤ w2.heap.size := Nat.le_trans (by first | omega | (simp [later_size, setCells_size]; done) | (simp [later_size, setCells_size]; omega)) hBl2.size; clear HOl2 hBl2 hgbl2))
              go_roundw
              case rel => exact ⟨k + 1, A3, c3, l3, a, b, true, by omega, by go_num, rfl, rfl, by omega, Lib.hid (by rw [HLl3.out, HLl2.out]; exact HJ2.out), HOOl3, Lib.hid ((show Ext w _ from (((show Ext w _ from ((HX.out.onto _).alloc _)).grown HBBl2.out (by omega)).alloc _)).grown HBBl3.out (by omega)), Lib.hid (((((HRow.out.later _).alloc _).below HBBl2.out (by omega)).alloc _).below HBBl3.out (by omega))⟩
              case measure => simp [intOf]; omega
          · have d2 : decide (b < t1) = false := by simpa using c2
            have HJ2 : Hid ((l.take (k + 1)).foldl Sp.addStep ⟨[], (s1, s2), false⟩ = ⟨out, (min a t1, max b t2), put⟩) := Lib.hid (by rw [HJ.out, Sp.addStep, if_neg c1, if_neg c2])
            have hm1 : (if t1 < a then t1 else a) = min a t1 := by split <;> omega
            have hm2 : (if b < t2 then t2 else b) = max b t2 := by split <;> omega
            clear c1 c2
            go_wp2
            refine wp_region_later (by kernel_rfl) (by kernel_rfl) ?_
            repeat (first | go_big_quiet_step (fail) | quiet_step (fail))
            refine wpQuiet_nil ?_
            rintro _ ⟨xq, rfl⟩
            go_wp2
            refine wp_region_later (by kernel_rfl) (by kernel_rfl) ?_
            repeat (first | go_big_quiet_step (fail) | quiet_step (fail))
            refine wpQuiet_nil ?_
            rintro _ ⟨xq, rfl⟩
            go_wp2
            refine wp_region_later_tail 9 (by kernel_rfl) (by kernel_rfl) ?_
            simp only [List.take_succ_cons, List.take_zero, List.drop_succ_cons, List.drop_zero]
            repeat (first | go_big_quiet_step (fail) | quiet_step (fail))
            refine wpQuiet_nil ?_
            rintro _ ⟨xq, rfl⟩
            go_wp2
            refine wp_world (fun W => Ext w W ∧ RowAt W w.heap.size #[.int .i64 (min a t1), .int .i64 b] ∧ OwnsSp (w.heap.size + 1) W A' c' out ∧ wr.heap.size ≤ W.heap.size ∧ W.cell? ⟨bb, off + k * 2, none⟩ = some (.int .i64 t1) ∧ W.cell? ⟨bb, off + k * 2 + 1, none⟩ = some (.int .i64 t2)) ⟨Ext.setCell (((HX.out.onto _).onto _).onto _) (p := ⟨w.heap.size, 0, none⟩) (Nat.le_refl _) _, (((HRow.out.later _).later _).later _).set 0 _, ((((HOw.out.later _).later _).later _)).other (p := ⟨w.heap.size, 0, none⟩) (by show w.heap.size < w.heap.size + 1; omega) _, by simp [World.setCell, later_size] <;> omega, by simp [go_sem, ↓IntWalk.iteOmega, y1], by simp [go_sem, ↓IntWalk.iteOmega, y2]⟩ ?_
            rintro W ⟨hxW, hrW, hoW, hsW, y1', y2'⟩
            have HXW := Lib.hid hxW
            have HRW := Lib.hid hrW
            have HOW := Lib.hid hoW
            have z1' : W.cell? ⟨w.heap.size, 0, none⟩ = some (.int .i64 (min a t1)) := hrW.cell 0
            have z2' : W.cell? ⟨w.heap.size, 1, none⟩ = some (.int .i64 b) := hrW.cell 1
            have f1' : W.frozen? ⟨w.heap.size, 0, none⟩ = false := hrW.free 0
            have f2' : W.frozen? ⟨w.heap.size, 1, none⟩ = false := hrW.free 1
            clear hxW hrW hoW y1 y2 z1 z2 f1 f2
            refine wp_region_later_tail 9 (by kernel_rfl) (by kernel_rfl) ?_
            simp only [List.take_succ_cons, List.take_zero, List.drop_succ_cons, List.drop_zero]
            repeat (first | go_big_quiet_step (fail) | quiet_step (fail))
            refine wpQuiet_nil ?_
            rintro _ ⟨xq, rfl⟩
            go_wp2
            go_roundw
            case rel => exact ⟨k + 1, A', c', out, min a t1, max b t2, put, by omega, by go_num, rfl, rfl, by omega, HJ2, Lib.hid ((HOW.out.later _).other (p := ⟨w.heap.size, 1, none⟩) (by show w.heap.size < w.heap.size + 1; omega) _), Lib.hid (Ext.setCell (HXW.out.onto _) (p := ⟨w.heap.size, 1, none⟩) (Nat.le_refl _) _), Lib.hid ((HRW.out.later _).set 1 _)⟩
            case measure => simp [intOf]; omega
      · have e : k = l.length := by omega
        subst e
        rw [List.take_length] at HO
        cases put with
        | true =>
          have HF : Hid (Sp.rAdd l (s1, s2) = out) := Lib.hid (by rw [HL.out, HO.out]; rfl)
          go_wp2
          go_ret
          exact ⟨A', c', out, rfl, Lib.hid HF.out.symm, HOw.out.lower (by omega), HX.out⟩
        | false =>
          have HF : Hid (Sp.rAdd l (s1, s2) = out ++ [(a, b)]) := Lib.hid (by rw [HL.out, HO.out]; rfl)
          go_wp2_with (first
            | (at_builtin; refine app_from spT spE rfl _ _ rfl (w.heap.size + 1) A' c' out rfl (HOw.out.alloc _) _ 1 _ [(a, b)] rfl rfl (new_cellsAt (by first | omega | (simp [later_size, setCells_size]; done) | (simp [later_size, setCells_size]; omega)) _ _) (by omega) (by omega) (by first | omega | (simp [later_size, setCells_size]; done) | (simp [later_size, setCells_size]; omega)) ?_; intro A2 c2 l2 w2 HLl2 HOl2 hBl2 hlal2 hlbl2 hgbl2; have HOOl2 := Lib.hid HOl2; have HBBl2 := Lib.hid hBl2; have hszl2 := hBl2.size; skip; clear HOl2 hBl2 hgbl2))
          go_ret
          exact ⟨A2, c2, l2, rfl, Lib.hid (HLl2.out.trans HF.out.symm), HOOl2.out.lower (by omega), (show Ext w _ from HX.out.alloc _).grown HBBl2.out (by omega)⟩
end Go.Proofs.YtiacnoejlmaplaaGreatDoor

namespace Go.Proofs.YtiacnoejlmaplaaGreatDoor
open Go.RowKit Go.Shelf
open Go.Proofs
open Go.Proofs.Sp (Sp)

/-! ### What the specification returns: an entry, and an error -/
def gotC (e : En) (n : Int) : Array Value := (stmL e.st ++ [.bool e.soft, e.hv, .string e.bytes, .bool e.whole, .int .i64 n]).toArray
theorem got_size (e : En) (n : Int) : (gotC e n).size = 46 := rfl
theorem got_all (e : En) (n : Int) : rowSub (gotC e n) 0 46 = some (gotC e n) := rowSub_all _ _ rfl
theorem got_ent (e : En) (n : Int) : rowSub (gotC e n) 0 45 = some (entC e) := by kernel_rfl
theorem got_g45 (e : En) (n : Int) : (gotC e n)[45]? = some (.int .i64 n) := rfl
theorem got_fits (s : St) (soft : Bool) (A : Option Addr) (k c : Nat) (b : ByteArray) (wh : Bool) (n : Int) : fitsRow 46 (gotC ⟨s, soft, .slice A k c, b, wh⟩ n) = true := by kernel_rfl
theorem got_fits_of {e : En} {A : Option Addr} {k c : Nat} (n : Int) (h : e.hv = .slice A k c) : fitsRow 46 (gotC e n) = true := by
  obtain ⟨a, b, v, d, f⟩ := e
  obtain rfl : v = .slice A k c := h
  exact got_fits _ _ _ _ _ _ _ _
attribute [go_sem] got_size got_all got_ent got_g45 got_fits
theorem got_ty : RowTy Tryz.prog 62 46 := ⟨by kernel_rfl, by kernel_rfl⟩
theorem got_ld (w : World) (b o : Nat) : (rowLoad 62 46 (.pointer (some ⟨b, o, none⟩))).run Tryz.prog w = rowLoadR Tryz.prog w 62 46 b o (rowOf w b o 46) := run_rowLoad got_ty w b o
theorem got_st (w : World) (b o : Nat) (cells : Array Value) : (rowStore 62 46 (.pointer (some ⟨b, o, none⟩)) (.agg cells)).run Tryz.prog w = rowStoreR Tryz.prog w 62 46 b o cells (roomOf w b o 46 && fitsRow 46 cells) := run_rowStore got_ty w b o cells
theorem got_lv (w : World) (b o : Nat) : (loadVar 62 ⟨b, o, none⟩).run Tryz.prog w = varRes Tryz.prog w 62 b o (rowOf w b o 46) := loadVar_row got_ty w b o
theorem got_al (w : World) : (rowAlloc 62).run Tryz.prog w = .ok (.value (.pointer (some ⟨w.heap.size, 0, none⟩))) (w.alloc (.cells (gotC noEn 0) 62)) := run_rowAlloc (by kernel_rfl) w
theorem got_xl (ρ : Operand → Value) (dst : Option Tmp) (x : Operand) (t : TypeId) (pos : String) (after : Array Edge) (guard : Option (Nat × Bool)) : execOp ρ { dst, op := .load 62 x, type := t, pos, after, guard } = rowLoad 62 46 (ρ x) := rfl
theorem got_xs (ρ : Operand → Value) (dst : Option Tmp) (x y : Operand) (t : TypeId) (pos : String) (after : Array Edge) (guard : Option (Nat × Bool)) : execOp ρ { dst, op := .store 62 x y, type := t, pos, after, guard } = rowStore 62 46 (ρ x) (ρ y) := rfl
theorem got_xa (ρ : Operand → Value) (dst : Option Tmp) (t : TypeId) (pos : String) (after : Array Edge) (guard : Option (Nat × Bool)) : execOp ρ { dst, op := .alloc 62, type := t, pos, after, guard } = rowAlloc 62 := rfl
attribute [go_sem ↓] got_xl got_xs got_xa
attribute [go_sem] got_ld got_st got_al
def gotB2 (x y : Value) : Sem Next := do pure (.value (← Instr.build 62 #[(0, x), (1, y)]))
def gotB1 (x : Value) : Sem Next := do pure (.value (← Instr.build 62 #[(0, x)]))
def gotB0 (y : Value) : Sem Next := do pure (.value (← Instr.build 62 #[(1, y)]))
theorem gotB2_x (ρ : Operand → Value) (dst : Option Tmp) (x y : Operand) (t : TypeId) (pos : String) (after : Array Edge) (guard : Option (Nat × Bool)) : execOp ρ { dst, op := .build 62 #[(0, x), (1, y)], type := t, pos, after, guard } = gotB2 (ρ x) (ρ y) := by kernel_rfl
theorem gotB1_x (ρ : Operand → Value) (dst : Option Tmp) (x : Operand) (t : TypeId) (pos : String) (after : Array Edge) (guard : Option (Nat × Bool)) : execOp ρ { dst, op := .build 62 #[(0, x)], type := t, pos, after, guard } = gotB1 (ρ x) := by kernel_rfl
theorem gotB0_x (ρ : Operand → Value) (dst : Option Tmp) (y : Operand) (t : TypeId) (pos : String) (after : Array Edge) (guard : Option (Nat × Bool)) : execOp ρ { dst, op := .build 62 #[(1, y)], type := t, pos, after, guard } = gotB0 (ρ y) := by kernel_rfl
theorem gotB2_run (e : En) (n : Int) (W : World) : (gotB2 (.agg (entC e)) (.int .i64 n)).run Tryz.prog W = .ok (.value (.agg (gotC e n))) W := by kernel_rfl
theorem gotB1_run (e : En) (W : World) : (gotB1 (.agg (entC e))).run Tryz.prog W = .ok (.value (.agg (gotC e 0))) W := by kernel_rfl
theorem gotB0_run (n : Int) (W : World) : (gotB0 (.int .i64 n)).run Tryz.prog W = .ok (.value (.agg (gotC noEn n))) W := by kernel_rfl
attribute [go_sem ↓] gotB2_x gotB1_x gotB0_x
attribute [go_sem] gotB2_run gotB1_run gotB0_run
theorem got_stored {w : World} {b : Nat} {cs : Array Value} {e : En} {n : Int} (h : RowAt w b cs) (hn : cs.size = 46) : rowOf (w.setCells b 0 (gotC e n).toList) b 0 46 = some (gotC e n) := h.stored (n := 46) (by rw [hn, got_size]) (got_size _ _).symm (by omega)

/-! ### Zeros, None -/
theorem reads_made (w : World) (n : Nat) : ReadsB (w.alloc (.cells (madeCells (Value.int .u8 0).cells n) 5)) (w.heap.size + 1) (some ⟨w.heap.size, 0, none⟩) (List.replicate n 0) := by
  intro h0
  refine ⟨w.heap.size, 0, rfl, by omega, fun i hi j v hv => ?_⟩
  have hj : j = 0 := by
    have := (List.getElem?_eq_some_iff.1 hv).1
    simp [encB] at this; omega
  subst hj
  rw [List.length_replicate] at hi
  simp only [encB, List.getElem_replicate, List.getElem?_cons_zero, Option.some.injEq] at hv
  subst hv
  rw [alloc_cell_if, if_pos rfl]
  simp [madeCells, hi, Value.cells, Nat.mod_one]
theorem zb_nums (n : Nat) : strOfNums (List.replicate n 0) = zb n := by
  apply bts_inj
  rw [bts_zb, bts_nums]
  intro x hx
  have := List.eq_of_mem_replicate hx
  omega
theorem conv_empty (a : Option Addr) (c : Nat) (W : World) : (convert 80 9 (.slice a 0 c)).run Tryz.prog W = .ok (.string (strOfNums (List.replicate 0 0))) W := by
  cases a <;> kernel_rfl
theorem u8info : (Tryz.prog.info? 5).map (fun i => (i.zero, i.size, i.bytes)) = some (some (.int .u8 0), 1, 1) := by kernel_rfl
set_option maxRecDepth 100000 in
set_option maxHeartbeats 1000000 in
theorem zeros_any (n : Nat) (m : Int) (hm : m = n) (w : World) (hn : n ≤ 140737488355328) : Calls Tryz.prog 55 #[.int .i64 m] w fun e w' => e = .returned (.string (zb n)) ∧ Ext w w' := by
  subst hm
  rw [← zb_nums]
  obtain ⟨i, hi, hz, h1, h2⟩ := info_parts u8info
  go_enter Tryz.func55, Tryz.ntmps55
  go_wp2
  rw [run_make w 80 5 i (.int .u8 0) (by kernel_rfl) hi hz .i64 .i64 n n (by omega) (by omega) (by rw [h2]; omega) (by omega), h1]
  go_wp2
  by_cases h0 : n = 0
  · subst h0
    rw [conv_empty]
    go_wp2
    go_ret
    exact ⟨rfl, (by (repeat (first | with_reducible exact Ext.refl _ | with_reducible exact Ext.refl _ | with_reducible refine Ext.drew ?_ | with_reducible refine Ext.drewN ?_ _ | with_reducible refine Ext.alloc ?_ _ | with_reducible refine Ext.onto ?_ _ | (with_reducible refine Ext.setCells ?_ ?_ _ _; rotate_left; focus (first | omega | (simp; done) | (simp; omega))) | (with_reducible refine Ext.setCell ?_ ?_ _; rotate_left; focus (first | omega | (simp; done) | (simp; omega))))))⟩
  · have hc := conv_bytes n (reads_made w n) (by rw [List.length_replicate]; omega)
    rw [List.length_replicate] at hc
    have hc' : (convert 80 9 (.slice (some ⟨w.heap.size, 0, none⟩) n n)).run Tryz.prog (w.alloc (.cells (madeCells #[.int .u8 0] n) 5)) = .ok (.string (strOfNums (List.replicate n 0))) (w.alloc (.cells (madeCells #[.int .u8 0] n) 5)) := hc
    rw [hc']
    go_wp2
    go_ret
    exact ⟨rfl, (by (repeat (first | with_reducible exact Ext.refl _ | with_reducible exact Ext.refl _ | with_reducible refine Ext.drew ?_ | with_reducible refine Ext.drewN ?_ _ | with_reducible refine Ext.alloc ?_ _ | with_reducible refine Ext.onto ?_ _ | (with_reducible refine Ext.setCells ?_ ?_ _ _; rotate_left; focus (first | omega | (simp; done) | (simp; omega))) | (with_reducible refine Ext.setCell ?_ ?_ _; rotate_left; focus (first | omega | (simp; done) | (simp; omega))))))⟩

theorem row46 {w : World} {b : Nat} {cs : Array Value} {e : En} {n : Int} (h : RowAt w b cs) (hn : cs.size = 46) : RowAt (w.setCells b 0 (gotC e n).toList) b (gotC e n) := h.store (by rw [hn, got_size])
set_option maxRecDepth 100000 in
set_option maxHeartbeats 400000 in
theorem none_any (s : St) (soft : Bool) (w : World) (h0 : 0 ≤ s.size) (h1 : s.size ≤ 65536) : Calls Tryz.prog 36 #[.agg (stmC s), .bool soft] w fun e' w' => e' = .returned (.agg (entC (emptyEn s soft))) ∧ Ext w w' := by
  obtain ⟨z, hz⟩ : ∃ z, zb s.size.toNat = z := ⟨_, rfl⟩
  have HZ := Lib.hid (fun W => zeros_any s.size.toNat s.size (by omega) W (by omega))
  rw [hz] at HZ
  have hE : emptyEn s soft = ⟨s, soft, .slice none 0 0, z, decide (s.size = 0)⟩ := by rw [← hz]; rfl
  rw [hE]
  have hd : decide (s.size = 0) = (s.size == 0) := rfl
  obtain ⟨q, hq⟩ : ∃ q, decide (s.size = 0) = q := ⟨_, rfl⟩
  rw [hq] at hd ⊢
  have hf : fitsRow 45 (entC ⟨s, soft, .slice none 0 0, z, q⟩) = true := ent_fits_of rfl
  have hdd := hd.symm
  clear hd hz hE hq
  go_enter Tryz.func36, Tryz.ntmps36
  go_wp2
  refine wp_world (fun W => Ext w W ∧ RowAt W w.heap.size (stmC s) ∧ RowAt W (w.heap.size + 1) (entC noEn)) ⟨(by (repeat (first | with_reducible exact Ext.refl _ | with_reducible exact Ext.refl _ | with_reducible refine Ext.drew ?_ | with_reducible refine Ext.drewN ?_ _ | with_reducible refine Ext.alloc ?_ _ | with_reducible refine Ext.onto ?_ _ | (with_reducible refine Ext.setCells ?_ ?_ _ _; rotate_left; focus (first | omega | (simp; done) | (simp; omega))) | (with_reducible refine Ext.setCell ?_ ?_ _; rotate_left; focus (first | omega | (simp; done) | (simp; omega)))))), (RowAt.new _ _ _).alloc _, RowAt.newAt (by simp)⟩ ?_
  rintro W ⟨hx0, r1, r2⟩
  have HX0 := Lib.hid hx0
  have HR2 := Lib.hid r2
  have a3 : W.cell? ⟨w.heap.size, 3, none⟩ = some (.int .i64 s.size) := (r1.cell 3).trans (stm_g3 s)
  have hrow : rowOf W w.heap.size 0 41 = some (stmC s) := r1.all (stm_size s).symm (by omega)
  have hroom : roomOf W (w.heap.size + 1) 0 45 = true := by rw [r2.room, ent_size]; rfl
  have hl1 := r1.lt
  have hl2 := r2.lt
  clear hx0 r1 r2
  refine wp_region_later_tail 9 (by kernel_rfl) (by kernel_rfl) ?_
  simp only [List.take_succ_cons, List.take_zero, List.drop_succ_cons, List.drop_zero]
  repeat (first | go_big_quiet_step ((go_at_call 55; exact quietE (HZ.out _))) | quiet_step ((go_at_call 55; exact quietE (HZ.out _))))
  refine wpQuiet_nil ?_
  rintro _ ⟨xq, rfl⟩
  go_wp2
  refine post_row ent_ty Tryz.results36 rfl rfl (row_stored (RowAt.later HR2.out _) (ent_size _) (ent_size _)) ⟨rfl, Ext.setCells (HX0.out.onto _) (by omega) _ _⟩
def beginN (s : St) : En × Int :=
  if rightB s = false then (noEn, 1) else if 65536 < s.size then (noEn, 2) else if s.size = 0 ∧ s.body ≠ Wire.digest 34 [[]] then (noEn, 8) else (emptyEn s false, 0)
theorem neq_dig2 {a b : List Int} (ha : a.length = 16) (hb : b.length = 16) (ba : Byt a) (bb : Byt b) (W : World) : (binOp .neq 23 (.agg (dgC a)) (.agg (cells8 b))).run Tryz.prog W = .ok (.bool (!(decide (a = b)))) W := by
  rw [dgC_cells ha, ← dgC_cells hb]; exact neq_dig ha hb ba bb W
theorem rdigest_e (D : List Int) (w : World) (hk : RKonst w) (h : Wire.digest 34 [[]] = D) :
    Calls Tryz.prog 35 #[.string ⟨#[]⟩] w fun e w' => e = .returned (.agg (cells8 D)) ∧ Ext w w' := rdigest_is ⟨#[]⟩ D w hk (by decide) h
theorem nofits : fitsRow 46 (gotC noEn 0) = true := got_fits_of 0 rfl
theorem nofits_n (n : Int) : fitsRow 46 (gotC noEn n) = true := got_fits_of n rfl
attribute [local go_sem] nofits_n
set_option maxRecDepth 100000 in
set_option maxHeartbeats 400000 in
theorem rbegin_any (s : St) (w : World) (h1 : s.addr.size ≤ 9223372036854775807) (h2 : s.var.size ≤ 9223372036854775807) (h3 : s.tags.size ≤ 9223372036854775807) (hb : s.body.length = 16) (hby : Byt s.body) (hk : RKonst w) :
    Calls Tryz.prog 19 #[.agg (stmC s)] w fun e' w' => e' = .returned (.agg (gotC (beginN s).1 (beginN s).2)) ∧ Ext w w' := by
  obtain ⟨D, hD⟩ : ∃ D, Wire.digest 34 [[]] = D := ⟨_, rfl⟩
  have hq := neq_dig2 hb (by rw [← hD]; exact digest_length _ _) hby (by rw [← hD]; exact digest_byt _ _) (b := D)
  obtain ⟨p, hp⟩ : ∃ p, beginN s = p := ⟨_, rfl⟩
  rw [hp]
  have HP := Lib.hid hp
  have HD := Lib.hid hD
  have HK := Lib.hid hk
  have HRt := Lib.hid (fun W => rright_any s W h1 h2 h3)
  clear hp hD hk hb hby h1 h2 h3
  cases hr : rightB s with
  | false =>
    have e : p = (noEn, 1) := by rw [← HP.out, beginN, if_pos hr]
    subst e
    rw [hr] at HRt
    clear hr hq
    go_enter Tryz.func19, Tryz.ntmps19
    go_wp2_with (go_at_call 34; refine (HRt.out _).mono ?_; rintro e w' ⟨rfl, hxl⟩; obtain ⟨xl, rfl⟩ := hxl.asLater; clear hxl)
    refine post_row got_ty Tryz.results19 rfl rfl (got_stored (by (repeat (first | with_reducible exact RowAt.newAt (cs := gotC noEn 0) (t := 62) (by simp) | with_reducible refine RowAt.drew ?_ | with_reducible refine RowAt.later ?_ _ | with_reducible exact RowAt.newAt (by first | rfl | omega | (simp [later_size, setCells_size]; done) | (simp [later_size, setCells_size]; omega)) | with_reducible refine RowAt.alloc ?_ _ | with_reducible apply RowAt.store | with_reducible refine RowAt.others ?_ ?_ _ _ | with_reducible refine RowAt.other ?_ ?_ _)); all_goals first | omega | (simp; done) | (simp; omega) | (simp [go_sem]; done)) (got_size _ _)) ⟨rfl, (by (repeat (first | with_reducible exact Ext.refl _ | with_reducible exact Ext.refl _ | with_reducible refine Ext.drew ?_ | with_reducible refine Ext.drewN ?_ _ | with_reducible refine Ext.alloc ?_ _ | with_reducible refine Ext.onto ?_ _ | (with_reducible refine Ext.setCells ?_ ?_ _ _; rotate_left; focus (first | omega | (simp; done) | (simp; omega))) | (with_reducible refine Ext.setCell ?_ ?_ _; rotate_left; focus (first | omega | (simp; done) | (simp; omega))))))⟩
  | true =>
    have hz := rightB_z hr
    have HR1 := Lib.hid hr
    rw [hr] at HRt
    clear hr
    by_cases c2 : 65536 < s.size
    · have e : p = (noEn, 2) := by rw [← HP.out, beginN, if_neg (by rw [HR1.out]; decide), if_pos c2]
      subst e
      clear hq
      go_enter Tryz.func19, Tryz.ntmps19
      go_wp2_with (go_at_call 34; refine (HRt.out _).mono ?_; rintro e w' ⟨rfl, hxl⟩; obtain ⟨xl, rfl⟩ := hxl.asLater; clear hxl)
      refine post_row got_ty Tryz.results19 rfl rfl (got_stored (by (repeat (first | with_reducible exact RowAt.newAt (cs := gotC noEn 0) (t := 62) (by simp) | with_reducible refine RowAt.drew ?_ | with_reducible refine RowAt.later ?_ _ | with_reducible exact RowAt.newAt (by first | rfl | omega | (simp [later_size, setCells_size]; done) | (simp [later_size, setCells_size]; omega)) | with_reducible refine RowAt.alloc ?_ _ | with_reducible apply RowAt.store | with_reducible refine RowAt.others ?_ ?_ _ _ | with_reducible refine RowAt.other ?_ ?_ _)); all_goals first | omega | (simp; done) | (simp; omega) | (simp [go_sem]; done)) (got_size _ _)) ⟨rfl, (by (repeat (first | with_reducible exact Ext.refl _ | with_reducible exact Ext.refl _ | with_reducible refine Ext.drew ?_ | with_reducible refine Ext.drewN ?_ _ | with_reducible refine Ext.alloc ?_ _ | with_reducible refine Ext.onto ?_ _ | (with_reducible refine Ext.setCells ?_ ?_ _ _; rotate_left; focus (first | omega | (simp; done) | (simp; omega))) | (with_reducible refine Ext.setCell ?_ ?_ _; rotate_left; focus (first | omega | (simp; done) | (simp; omega))))))⟩
    · by_cases c3 : s.size = 0
      · have e1 : (s.size == 0) = true := by simpa using c3
        by_cases c4 : s.body = D
        · have e : p = (emptyEn s false, 0) := by rw [← HP.out, beginN, if_neg (by rw [HR1.out]; decide), if_neg c2, if_neg (by rw [HD.out]; exact fun h => h.2 c4)]
          subst e
          have hd : decide (s.body = D) = true := by simpa using c4
          simp only [hd, Bool.not_true] at hq
          clear hd c4 c3
          go_enter Tryz.func19, Tryz.ntmps19
          go_wp2_with (go_at_call 34; refine (HRt.out _).mono ?_; rintro e w' ⟨rfl, hxl⟩; obtain ⟨xl, rfl⟩ := hxl.asLater; clear hxl)
          refine wp_region_later (by kernel_rfl) (by kernel_rfl) ?_
          repeat (first | go_big_quiet_step ((go_at_call 35; exact quietE (rdigest_e D _ (RowAt.ext HK.out (((((Ext.refl _).alloc _).alloc _).onto _).onto _)) HD.out))) | quiet_step ((go_at_call 35; exact quietE (rdigest_e D _ (RowAt.ext HK.out (((((Ext.refl _).alloc _).alloc _).onto _).onto _)) HD.out))))
          refine wpQuiet_nil ?_
          rintro _ ⟨xq, rfl⟩
          have hfn : fitsRow 46 (gotC (emptyEn s false) 0) = true := got_fits_of 0 rfl
          go_wp2_with (go_at_call 36; refine (none_any s false _ (by omega) (by omega)).mono ?_; rintro e w' ⟨rfl, hxl⟩; obtain ⟨xl, rfl⟩ := hxl.asLater; clear hxl)
          refine post_row got_ty Tryz.results19 rfl rfl (got_stored (by (repeat (first | with_reducible exact RowAt.newAt (cs := gotC noEn 0) (t := 62) (by simp) | with_reducible refine RowAt.drew ?_ | with_reducible refine RowAt.later ?_ _ | with_reducible exact RowAt.newAt (by first | rfl | omega | (simp [later_size, setCells_size]; done) | (simp [later_size, setCells_size]; omega)) | with_reducible refine RowAt.alloc ?_ _ | with_reducible apply RowAt.store | with_reducible refine RowAt.others ?_ ?_ _ _ | with_reducible refine RowAt.other ?_ ?_ _)); all_goals first | omega | (simp; done) | (simp; omega) | (simp [go_sem]; done)) (got_size _ _)) ⟨rfl, (by (repeat (first | with_reducible exact Ext.refl _ | with_reducible exact Ext.refl _ | with_reducible refine Ext.drew ?_ | with_reducible refine Ext.drewN ?_ _ | with_reducible refine Ext.alloc ?_ _ | with_reducible refine Ext.onto ?_ _ | (with_reducible refine Ext.setCells ?_ ?_ _ _; rotate_left; focus (first | omega | (simp; done) | (simp; omega))) | (with_reducible refine Ext.setCell ?_ ?_ _; rotate_left; focus (first | omega | (simp; done) | (simp; omega))))))⟩
        · have e : p = (noEn, 8) := by rw [← HP.out, beginN, if_neg (by rw [HR1.out]; decide), if_neg c2, if_pos (by rw [HD.out]; exact ⟨c3, c4⟩)]
          subst e
          have hd : decide (s.body = D) = false := by simpa using c4
          simp only [hd, Bool.not_false] at hq
          clear hd c4 c3
          go_enter Tryz.func19, Tryz.ntmps19
          go_wp2_with (go_at_call 34; refine (HRt.out _).mono ?_; rintro e w' ⟨rfl, hxl⟩; obtain ⟨xl, rfl⟩ := hxl.asLater; clear hxl)
          refine wp_region_later (by kernel_rfl) (by kernel_rfl) ?_
          repeat (first | go_big_quiet_step ((go_at_call 35; exact quietE (rdigest_e D _ (RowAt.ext HK.out (((((Ext.refl _).alloc _).alloc _).onto _).onto _)) HD.out))) | quiet_step ((go_at_call 35; exact quietE (rdigest_e D _ (RowAt.ext HK.out (((((Ext.refl _).alloc _).alloc _).onto _).onto _)) HD.out))))
          refine wpQuiet_nil ?_
          rintro _ ⟨xq, rfl⟩
          go_wp2
          refine post_row got_ty Tryz.results19 rfl rfl (got_stored (by (repeat (first | with_reducible exact RowAt.newAt (cs := gotC noEn 0) (t := 62) (by simp) | with_reducible refine RowAt.drew ?_ | with_reducible refine RowAt.later ?_ _ | with_reducible exact RowAt.newAt (by first | rfl | omega | (simp [later_size, setCells_size]; done) | (simp [later_size, setCells_size]; omega)) | with_reducible refine RowAt.alloc ?_ _ | with_reducible apply RowAt.store | with_reducible refine RowAt.others ?_ ?_ _ _ | with_reducible refine RowAt.other ?_ ?_ _)); all_goals first | omega | (simp; done) | (simp; omega) | (simp [go_sem]; done)) (got_size _ _)) ⟨rfl, (by (repeat (first | with_reducible exact Ext.refl _ | with_reducible exact Ext.refl _ | with_reducible refine Ext.drew ?_ | with_reducible refine Ext.drewN ?_ _ | with_reducible refine Ext.alloc ?_ _ | with_reducible refine Ext.onto ?_ _ | (with_reducible refine Ext.setCells ?_ ?_ _ _; rotate_left; focus (first | omega | (simp; done) | (simp; omega))) | (with_reducible refine Ext.setCell ?_ ?_ _; rotate_left; focus (first | omega | (simp; done) | (simp; omega))))))⟩
      · have e : p = (emptyEn s false, 0) := by rw [← HP.out, beginN, if_neg (by rw [HR1.out]; decide), if_neg c2, if_neg (fun h => c3 h.1)]
        subst e
        have e1 : (s.size == 0) = false := by simpa using c3
        clear c3
        go_enter Tryz.func19, Tryz.ntmps19
        go_wp2_with (go_at_call 34; refine (HRt.out _).mono ?_; rintro e w' ⟨rfl, hxl⟩; obtain ⟨xl, rfl⟩ := hxl.asLater; clear hxl)
        refine wp_region_later (by kernel_rfl) (by kernel_rfl) ?_
        repeat (first | go_big_quiet_step (fail) | quiet_step (fail))
        refine wpQuiet_nil ?_
        rintro _ ⟨xq, rfl⟩
        have hfn : fitsRow 46 (gotC (emptyEn s false) 0) = true := got_fits_of 0 rfl
        go_wp2_with (go_at_call 36; refine (none_any s false _ (by omega) (by omega)).mono ?_; rintro e w' ⟨rfl, hxl⟩; obtain ⟨xl, rfl⟩ := hxl.asLater; clear hxl)
        refine post_row got_ty Tryz.results19 rfl rfl (got_stored (by (repeat (first | with_reducible exact RowAt.newAt (cs := gotC noEn 0) (t := 62) (by simp) | with_reducible refine RowAt.drew ?_ | with_reducible refine RowAt.later ?_ _ | with_reducible exact RowAt.newAt (by first | rfl | omega | (simp [later_size, setCells_size]; done) | (simp [later_size, setCells_size]; omega)) | with_reducible refine RowAt.alloc ?_ _ | with_reducible apply RowAt.store | with_reducible refine RowAt.others ?_ ?_ _ _ | with_reducible refine RowAt.other ?_ ?_ _)); all_goals first | omega | (simp; done) | (simp; omega) | (simp [go_sem]; done)) (got_size _ _)) ⟨rfl, (by (repeat (first | with_reducible exact Ext.refl _ | with_reducible exact Ext.refl _ | with_reducible refine Ext.drew ?_ | with_reducible refine Ext.drewN ?_ _ | with_reducible refine Ext.alloc ?_ _ | with_reducible refine Ext.onto ?_ _ | (with_reducible refine Ext.setCells ?_ ?_ _ _; rotate_left; focus (first | omega | (simp; done) | (simp; omega))) | (with_reducible refine Ext.setCell ?_ ?_ _; rotate_left; focus (first | omega | (simp; done) | (simp; omega))))))⟩
theorem plainA_none : plainA none := fun a h => (by cases h)
/-- What settled returns: the slice that came in, or none. -/
def SetlIs (r : Res) (A : Option Addr) (c : Nat) (l : List Sp) (e' : Ending) (w w' : World) : Prop := ∃ A' c', e' = .returned (.agg (gotC { r.e with hv := .slice A' r.l.length c' } r.n)) ∧ (A' = none ∧ c' = 0 ∧ r.l = [] ∨ A' = A ∧ c' = c ∧ r.l = l) ∧ Ext w w'
/-- What Put returns. -/
def GotIs (r : Res) (n : Int) (e' : Ending) (w w' : World) : Prop := ∃ A c, e' = .returned (.agg (gotC { r.e with hv := .slice A r.l.length c } n)) ∧ plainA A ∧ (A = none → c = 0) ∧ ReadsSp w' w'.heap.size A r.l ∧ Ext w w'
set_option maxRecDepth 100000 in
set_option maxHeartbeats 400000 in
theorem rsettled_any (e : En) (A : Option Addr) (c : Nat) (l : List Sp) (b : ByteArray) (w : World) (he : e = { e with hv := .slice A l.length c, bytes := b }) (hw : e.whole = false) (h0 : 0 ≤ e.st.size) (h1 : e.st.size ≤ 65536) (hbz : b.size ≤ 140737488351200) (hl : l.length ≤ 140737488355328)
    (hb : e.st.body.length = 16) (hby : Byt e.st.body) (hk : RKonst w) (hr : ReadsSp w w.heap.size A l) :
    Calls Tryz.prog 48 #[.agg (entC e)] w fun e' w' => SetlIs (settleN e l b) A c l e' w w' := by
  have hv : e.hv = .slice A l.length c := by rw [he]
  have hbs : e.bytes = b := by rw [he]
  have HE := Lib.hid he
  have HK := Lib.hid hk
  have HR := Lib.hid hr
  have hf : fitsRow 45 (entC e) = true := ent_fits_of hv
  have hfg : fitsRow 46 (gotC e 0) = true := got_fits_of 0 hv
  obtain ⟨r, hr2⟩ : ∃ r, settleN e l b = r := ⟨_, rfl⟩
  rw [hr2]
  have HS := Lib.hid hr2
  have HV := Lib.hid hv
  clear hk hr hr2 he
  cases hfu : fullB l e.st.size with
  | false =>
    have e1 : r = ⟨{ e with bytes := b }, l, 0⟩ := by rw [← HS.out, settleN, if_neg (by rw [hfu]; decide)]
    subst e1
    have HF := Lib.hid hfu
    clear hfu hv hbs
    go_enter Tryz.func48, Tryz.ntmps48
    go_wp2_with (go_at_call 39; refine (rfull_any e A c l _ HV.out hl (by omega) (HR.out.on (by (repeat (first | with_reducible exact Ext.refl _ | with_reducible exact Ext.refl _ | with_reducible refine Ext.drew ?_ | with_reducible refine Ext.drewN ?_ _ | with_reducible refine Ext.alloc ?_ _ | with_reducible refine Ext.onto ?_ _ | (with_reducible refine Ext.setCells ?_ ?_ _ _; rotate_left; focus (first | omega | (simp; done) | (simp; omega))) | (with_reducible refine Ext.setCell ?_ ?_ _; rotate_left; focus (first | omega | (simp; done) | (simp; omega)))))))).mono ?_; rw [HF.out]; rintro e w' ⟨rfl, hxl⟩; obtain ⟨xl, rfl⟩ := hxl.asLater; clear hxl)
    refine post_row got_ty Tryz.results48 rfl rfl (got_stored (by (repeat (first | with_reducible exact RowAt.newAt (cs := gotC noEn 0) (t := 62) (by simp) | with_reducible refine RowAt.drew ?_ | with_reducible refine RowAt.later ?_ _ | with_reducible exact RowAt.newAt (by first | rfl | omega | (simp [later_size, setCells_size]; done) | (simp [later_size, setCells_size]; omega)) | with_reducible refine RowAt.alloc ?_ _ | with_reducible apply RowAt.store | with_reducible refine RowAt.others ?_ ?_ _ _ | with_reducible refine RowAt.other ?_ ?_ _)); all_goals first | omega | (simp; done) | (simp; omega) | (simp [go_sem]; done)) (got_size _ _)) ⟨A, c, by rw [show ({ e with bytes := b, hv := .slice A l.length c } : En) = e from HE.out.symm], .inr ⟨rfl, rfl, rfl⟩, (by (repeat (first | with_reducible exact Ext.refl _ | with_reducible exact Ext.refl _ | with_reducible refine Ext.drew ?_ | with_reducible refine Ext.drewN ?_ _ | with_reducible refine Ext.alloc ?_ _ | with_reducible refine Ext.onto ?_ _ | (with_reducible refine Ext.setCells ?_ ?_ _ _; rotate_left; focus (first | omega | (simp; done) | (simp; omega))) | (with_reducible refine Ext.setCell ?_ ?_ _; rotate_left; focus (first | omega | (simp; done) | (simp; omega))))))⟩
  | true =>
    have HF := Lib.hid hfu
    clear hfu
    obtain ⟨D, hD⟩ : ∃ D, Wire.digest 34 [bts b] = D := ⟨_, rfl⟩
    have hq := neq_dig (a := D) (by rw [← hD]; exact digest_length _ _) hb (by rw [← hD]; exact digest_byt _ _) hby
    have HDD := Lib.hid hD
    clear hD
    by_cases hd : D = e.st.body
    · have e1 : r = ⟨{ e with bytes := b, whole := true }, l, 0⟩ := by rw [← HS.out, settleN, if_pos HF.out, if_pos (HDD.out.trans hd)]
      subst e1
      have dd : decide (D = e.st.body) = true := by simpa using hd
      simp only [dd, Bool.not_true] at hq
      have hf2 : fitsRow 46 (gotC { e with whole := true } 0) = true := got_fits_of 0 hv
      have he3 : ({ e with bytes := b, whole := true, hv := .slice A l.length c } : En) = { e with whole := true } := by
        have := HE.out
        rw [this]
      clear dd hd hb hby hv
      go_enter Tryz.func48, Tryz.ntmps48
      go_wp2_with (go_at_call 39; refine (rfull_any e A c l _ HV.out hl (by omega) (HR.out.on (by (repeat (first | with_reducible exact Ext.refl _ | with_reducible exact Ext.refl _ | with_reducible refine Ext.drew ?_ | with_reducible refine Ext.drewN ?_ _ | with_reducible refine Ext.alloc ?_ _ | with_reducible refine Ext.onto ?_ _ | (with_reducible refine Ext.setCells ?_ ?_ _ _; rotate_left; focus (first | omega | (simp; done) | (simp; omega))) | (with_reducible refine Ext.setCell ?_ ?_ _; rotate_left; focus (first | omega | (simp; done) | (simp; omega)))))))).mono ?_; rw [HF.out]; rintro e w' ⟨rfl, hxl⟩; obtain ⟨xl, rfl⟩ := hxl.asLater; clear hxl)
      refine wp_world (fun W => Ext w W ∧ RowAt W w.heap.size (entC e) ∧ RowAt W (w.heap.size + 1) (gotC noEn 0)) ⟨(by (repeat (first | with_reducible exact Ext.refl _ | with_reducible exact Ext.refl _ | with_reducible refine Ext.drew ?_ | with_reducible refine Ext.drewN ?_ _ | with_reducible refine Ext.alloc ?_ _ | with_reducible refine Ext.onto ?_ _ | (with_reducible refine Ext.setCells ?_ ?_ _ _; rotate_left; focus (first | omega | (simp; done) | (simp; omega))) | (with_reducible refine Ext.setCell ?_ ?_ _; rotate_left; focus (first | omega | (simp; done) | (simp; omega)))))), (by (repeat (first | with_reducible exact RowAt.new _ _ _ | with_reducible refine RowAt.drew ?_ | with_reducible refine RowAt.later ?_ _ | with_reducible exact RowAt.newAt (by first | rfl | omega | (simp [later_size, setCells_size]; done) | (simp [later_size, setCells_size]; omega)) | with_reducible refine RowAt.alloc ?_ _ | with_reducible apply RowAt.store | with_reducible refine RowAt.others ?_ ?_ _ _ | with_reducible refine RowAt.other ?_ ?_ _)); all_goals first | omega | (simp; done) | (simp; omega) | (simp [go_sem]; done)), RowAt.later (RowAt.newAt (by simp)) _⟩ ?_
      rintro W ⟨hx0, r1, r2⟩
      have HX0 := Lib.hid hx0
      have HR1 := Lib.hid r1
      have HR2 := Lib.hid r2
      have c43 : W.cell? ⟨w.heap.size, 43, none⟩ = some (.string b) := (r1.cell 43).trans (by rw [ent_g43, hbs])
      have c41 : W.cell? ⟨w.heap.size, 41, none⟩ = some (.bool e.soft) := (r1.cell 41).trans (ent_g41 e)
      have r41 : rowOf W w.heap.size 0 41 = some (stmC e.st) := by rw [r1.row, if_neg (by omega), ent_stm]
      have hbd : rowOf W w.heap.size 4 16 = some (dgC e.st.body) := by rw [r1.row, if_neg (by omega), ent_body]
      have f44 : W.frozen? ⟨w.heap.size, 44, none⟩ = false := r1.free 44
      have c44 : W.cell? ⟨w.heap.size, 44, none⟩ = some (.bool e.whole) := (r1.cell 44).trans (ent_g44 e)
      have hroom : roomOf W (w.heap.size + 1) 0 46 = true := by rw [r2.room, got_size]; rfl
      have hl1 := r1.lt
      have hrow : rowOf W w.heap.size 0 45 = some (entC e) := r1.all (ent_size e).symm (by omega)
      have hl2 := r2.lt
      clear hx0 r1 r2 hbs hfg hf
      refine wp_region_later (by kernel_rfl) (by kernel_rfl) ?_
      repeat (first | go_big_quiet_step ((go_at_call 35; exact quietE (rdigest_is b D _ (RowAt.ext HK.out (HX0.out.onto _)) hbz HDD.out))) | quiet_step ((go_at_call 35; exact quietE (rdigest_is b D _ (RowAt.ext HK.out (HX0.out.onto _)) hbz HDD.out))))
      refine wpQuiet_nil ?_
      rintro _ ⟨xq, rfl⟩
      go_wp2
      refine post_row got_ty Tryz.results48 rfl rfl (got_stored (RowAt.other (RowAt.later HR2.out _) (p := ⟨w.heap.size, 44, none⟩) (by show w.heap.size + 1 ≠ w.heap.size; omega) _) (got_size _ _)) ⟨A, c, by rw [he3], .inr ⟨rfl, rfl, rfl⟩, ?_⟩
      exact ((HX0.out.onto _).setCell (p := ⟨w.heap.size, 44, none⟩) (Nat.le_refl _) _).setCells (by omega) _ _
    · have e1 : r = ⟨emptyEn e.st e.soft, [], 8⟩ := by rw [← HS.out, settleN, if_pos HF.out, if_neg (by rw [HDD.out]; exact hd)]
      subst e1
      have dd : decide (D = e.st.body) = false := by simpa using hd
      simp only [dd, Bool.not_false] at hq
      have hf2 : fitsRow 46 (gotC (emptyEn e.st e.soft) 8) = true := got_fits_of 8 rfl
      clear dd hd hb hby hv
      go_enter Tryz.func48, Tryz.ntmps48
      go_wp2_with (go_at_call 39; refine (rfull_any e A c l _ HV.out hl (by omega) (HR.out.on (by (repeat (first | with_reducible exact Ext.refl _ | with_reducible exact Ext.refl _ | with_reducible refine Ext.drew ?_ | with_reducible refine Ext.drewN ?_ _ | with_reducible refine Ext.alloc ?_ _ | with_reducible refine Ext.onto ?_ _ | (with_reducible refine Ext.setCells ?_ ?_ _ _; rotate_left; focus (first | omega | (simp; done) | (simp; omega))) | (with_reducible refine Ext.setCell ?_ ?_ _; rotate_left; focus (first | omega | (simp; done) | (simp; omega)))))))).mono ?_; rw [HF.out]; rintro e w' ⟨rfl, hxl⟩; obtain ⟨xl, rfl⟩ := hxl.asLater; clear hxl)
      refine wp_world (fun W => Ext w W ∧ RowAt W w.heap.size (entC e) ∧ RowAt W (w.heap.size + 1) (gotC noEn 0)) ⟨(by (repeat (first | with_reducible exact Ext.refl _ | with_reducible exact Ext.refl _ | with_reducible refine Ext.drew ?_ | with_reducible refine Ext.drewN ?_ _ | with_reducible refine Ext.alloc ?_ _ | with_reducible refine Ext.onto ?_ _ | (with_reducible refine Ext.setCells ?_ ?_ _ _; rotate_left; focus (first | omega | (simp; done) | (simp; omega))) | (with_reducible refine Ext.setCell ?_ ?_ _; rotate_left; focus (first | omega | (simp; done) | (simp; omega)))))), (by (repeat (first | with_reducible exact RowAt.new _ _ _ | with_reducible refine RowAt.drew ?_ | with_reducible refine RowAt.later ?_ _ | with_reducible exact RowAt.newAt (by first | rfl | omega | (simp [later_size, setCells_size]; done) | (simp [later_size, setCells_size]; omega)) | with_reducible refine RowAt.alloc ?_ _ | with_reducible apply RowAt.store | with_reducible refine RowAt.others ?_ ?_ _ _ | with_reducible refine RowAt.other ?_ ?_ _)); all_goals first | omega | (simp; done) | (simp; omega) | (simp [go_sem]; done)), RowAt.later (RowAt.newAt (by simp)) _⟩ ?_
      rintro W ⟨hx0, r1, r2⟩
      have HX0 := Lib.hid hx0
      have HR1 := Lib.hid r1
      have HR2 := Lib.hid r2
      have c43 : W.cell? ⟨w.heap.size, 43, none⟩ = some (.string b) := (r1.cell 43).trans (by rw [ent_g43, hbs])
      have c41 : W.cell? ⟨w.heap.size, 41, none⟩ = some (.bool e.soft) := (r1.cell 41).trans (ent_g41 e)
      have r41 : rowOf W w.heap.size 0 41 = some (stmC e.st) := by rw [r1.row, if_neg (by omega), ent_stm]
      have hbd : rowOf W w.heap.size 4 16 = some (dgC e.st.body) := by rw [r1.row, if_neg (by omega), ent_body]
      have f44 : W.frozen? ⟨w.heap.size, 44, none⟩ = false := r1.free 44
      have c44 : W.cell? ⟨w.heap.size, 44, none⟩ = some (.bool e.whole) := (r1.cell 44).trans (ent_g44 e)
      have hroom : roomOf W (w.heap.size + 1) 0 46 = true := by rw [r2.room, got_size]; rfl
      have hl1 := r1.lt
      have hrow : rowOf W w.heap.size 0 45 = some (entC e) := r1.all (ent_size e).symm (by omega)
      have hl2 := r2.lt
      clear hx0 r1 r2 hbs hfg hf
      refine wp_region_later (by kernel_rfl) (by kernel_rfl) ?_
      repeat (first | go_big_quiet_step ((go_at_call 35; exact quietE (rdigest_is b D _ (RowAt.ext HK.out (HX0.out.onto _)) hbz HDD.out))) | quiet_step ((go_at_call 35; exact quietE (rdigest_is b D _ (RowAt.ext HK.out (HX0.out.onto _)) hbz HDD.out))))
      refine wpQuiet_nil ?_
      rintro _ ⟨xq, rfl⟩
      go_wp2_with (go_at_call 36; refine (none_any e.st e.soft _ h0 h1).mono ?_; rintro e w' ⟨rfl, hxl⟩; obtain ⟨xl, rfl⟩ := hxl.asLater; clear hxl)
      refine post_row got_ty Tryz.results48 rfl rfl (got_stored (by (repeat (first | with_reducible exact HR2.out | with_reducible refine RowAt.drew ?_ | with_reducible refine RowAt.later ?_ _ | with_reducible exact RowAt.newAt (by first | rfl | omega | (simp [later_size, setCells_size]; done) | (simp [later_size, setCells_size]; omega)) | with_reducible refine RowAt.alloc ?_ _ | with_reducible apply RowAt.store | with_reducible refine RowAt.others ?_ ?_ _ _ | with_reducible refine RowAt.other ?_ ?_ _)); all_goals first | omega | (simp; done) | (simp; omega) | (simp [go_sem]; done)) (got_size _ _)) ⟨none, 0, rfl, .inl ⟨rfl, rfl, rfl⟩, (by (repeat (first | with_reducible exact HX0.out | with_reducible exact Ext.refl _ | with_reducible refine Ext.drew ?_ | with_reducible refine Ext.drewN ?_ _ | with_reducible refine Ext.alloc ?_ _ | with_reducible refine Ext.onto ?_ _ | (with_reducible refine Ext.setCells ?_ ?_ _ _; rotate_left; focus (first | omega | (simp; done) | (simp; omega))) | (with_reducible refine Ext.setCell ?_ ?_ _; rotate_left; focus (first | omega | (simp; done) | (simp; omega))))))⟩
end Go.Proofs.YtiacnoejlmaplaaGreatDoor

namespace Go.Proofs.YtiacnoejlmaplaaGreatDoor
open Go.RowKit Go.Shelf
open Go.Proofs
open Go.Proofs.Sp (Sp)

theorem got_row {w : World} {b : Nat} {e : En} {n : Int} (h : RowAt w b (gotC e n)) : rowOf w b 0 46 = some (gotC e n) := h.all (got_size _ _).symm (by omega)
theorem settle_same (e : En) (v : Value) (b' b : ByteArray) (l : List Sp) : (settleN ⟨e.st, e.soft, v, b', e.whole⟩ l b).l = (settleN e l b).l ∧ (settleN ⟨e.st, e.soft, v, b', e.whole⟩ l b).n = (settleN e l b).n ∧ ∀ u, ({ (settleN ⟨e.st, e.soft, v, b', e.whole⟩ l b).e with hv := u } : En) = { (settleN e l b).e with hv := u } := by
  unfold settleN
  split
  · split
    · exact ⟨rfl, rfl, fun _ => rfl⟩
    · exact ⟨rfl, rfl, fun _ => rfl⟩
  · exact ⟨rfl, rfl, fun _ => rfl⟩
theorem hv_same {e : En} {v : Value} (h : e.hv = v) : ({ e with hv := v } : En) = e := by subst h; rfl
theorem cat_len {b x : ByteArray} {p : Nat} (h : p + x.size ≤ b.size) : (b.extract 0 p ++ x).size = p + x.size := by
  rw [ByteArray.size_append, extract_sz (by omega)]; omega
set_option maxRecDepth 100000 in
set_option maxHeartbeats 400000 in
theorem rput_any (e : En) (A : Option Addr) (c : Nat) (l : List Sp) (f : Int) (more : ByteArray) (w : World) (hv : e.hv = .slice A l.length c) (hval : Val e l) (hf63 : -9223372036854775808 ≤ f ∧ f ≤ 9223372036854775807) (hm : more.size ≤ 140737488355328)
    (hb : e.st.body.length = 16) (hby : Byt e.st.body) (hk : RKonst w) (hA : plainA A) (hz : A = none → c = 0) (hr : ReadsSp w w.heap.size A l) :
    Calls Tryz.prog 24 #[.agg (entC e), .int .i64 f, .string more] w fun e' w' => GotIs (putN e l f more) (putN e l f more).n e' w w' := by
  have hfit : fitsRow 45 (entC e) = true := ent_fits_of hv
  have h44 : (entC e)[44]? = some (.bool e.whole) := ent_g44 e
  have HA := Lib.hid hA
  have HZ := Lib.hid hz
  have HR := Lib.hid hr
  have HK := Lib.hid hk
  have HVal := Lib.hid hval
  have HB := Lib.hid hb
  have HBy := Lib.hid hby
  have hz0 := hval.z0
  have hz1 := hval.sz
  have hbs := hval.bs
  have hll := hval.len
  have hvs := hv_same hv
  obtain ⟨r, hr2⟩ : ∃ r, putN e l f more = r := ⟨_, rfl⟩
  rw [hr2]
  have HP := Lib.hid hr2
  have HV := Lib.hid hv
  clear hA hz hr hk hval hb hby hr2
  cases hw : e.whole with
  | true =>
    have e1 : r = ⟨e, l, 4⟩ := by rw [← HP.out, putN, if_pos hw]
    subst e1
    rw [hw] at h44
    have hf4 : fitsRow 46 (gotC e 4) = true := got_fits_of 4 hv
    clear hw hv
    go_enter Tryz.func24, Tryz.ntmps24
    go_wp2
    refine post_row got_ty Tryz.results24 rfl rfl (got_stored (RowAt.newAt (cs := gotC noEn 0) (t := 62) (by simp)) (got_size _ _)) ⟨A, c, by rw [hvs], HA.out, HZ.out, HR.out.on (Ext.setCells (((Ext.refl w).alloc _).alloc _) (by omega) _ _), Ext.setCells (((Ext.refl w).alloc _).alloc _) (by omega) _ _⟩
  | false =>
    rw [hw] at h44
    by_cases hc : f < 0 ∨ e.st.size < f ∨ e.st.size < f + more.size
    · have e1 : r = ⟨e, l, 1⟩ := by rw [← HP.out, putN, if_neg (by rw [hw]; decide), if_pos hc]
      subst e1
      have hf4 : fitsRow 46 (gotC e 1) = true := got_fits_of 1 hv
      clear hw hv
      by_cases hc1 : f < 0
      · have d1 : decide (f < 0) = true := by simpa using hc1
        clear hc hc1
        go_enter Tryz.func24, Tryz.ntmps24
        go_wp2
        refine post_row got_ty Tryz.results24 rfl rfl (got_stored (RowAt.newAt (cs := gotC noEn 0) (t := 62) (by simp)) (got_size _ _)) ⟨A, c, by rw [hvs], HA.out, HZ.out, HR.out.on (Ext.setCells (((Ext.refl w).alloc _).alloc _) (by omega) _ _), Ext.setCells (((Ext.refl w).alloc _).alloc _) (by omega) _ _⟩
      · have d1 : decide (f < 0) = false := by simpa using hc1
        by_cases hc2 : e.st.size < f
        · have d2 : decide (e.st.size < f) = true := by simpa using hc2
          clear hc hc1 hc2
          go_enter Tryz.func24, Tryz.ntmps24
          go_wp2
          refine post_row got_ty Tryz.results24 rfl rfl (got_stored (RowAt.newAt (cs := gotC noEn 0) (t := 62) (by simp)) (got_size _ _)) ⟨A, c, by rw [hvs], HA.out, HZ.out, HR.out.on (Ext.setCells (((Ext.refl w).alloc _).alloc _) (by omega) _ _), Ext.setCells (((Ext.refl w).alloc _).alloc _) (by omega) _ _⟩
        · have d2 : decide (e.st.size < f) = false := by simpa using hc2
          have d3 : decide (e.st.size < f + more.size) = true := by simp; omega
          clear hc
          go_enter Tryz.func24, Tryz.ntmps24
          go_wp2
          refine post_row got_ty Tryz.results24 rfl rfl (got_stored (RowAt.newAt (cs := gotC noEn 0) (t := 62) (by simp)) (got_size _ _)) ⟨A, c, by rw [hvs], HA.out, HZ.out, HR.out.on (Ext.setCells (((Ext.refl w).alloc _).alloc _) (by omega) _ _), Ext.setCells (((Ext.refl w).alloc _).alloc _) (by omega) _ _⟩
    · obtain ⟨p, rfl⟩ : ∃ p : Nat, f = p := ⟨f.toNat, by omega⟩
      have hpm : p + more.size ≤ e.bytes.size := by omega
      have e1 : r = settleN e (Sp.rAdd l ((p : Int), (p : Int) + more.size)) (overB e.bytes p more) := by rw [← HP.out, putN, if_neg (by rw [hw]; decide), if_neg hc, Int.toNat_natCast]
      have HRr := Lib.hid e1
      clear e1
      have d1 : decide ((p : Int) < 0) = false := by simp <;> omega
      have d2 : decide (e.st.size < (p : Int)) = false := by simp <;> omega
      have d3 : decide (e.st.size < (p : Int) + more.size) = false := by simp <;> omega
      have hps : (p : Int) + more.size ≤ e.st.size := by omega
      have hcat := cat_over hpm
      have hcl := cat_len hpm
      have hxl : (e.bytes.extract 0 p).size = p := by rw [extract_sz (by omega)]; omega
      have hxr : (e.bytes.extract (p + more.size) e.bytes.size).size = e.bytes.size - (p + more.size) := extract_sz (Nat.le_refl _)
      clear hc HP
      go_enter Tryz.func24, Tryz.ntmps24
      go_wp2
      clear d1 d2 d3
      refine wp_region_later_tail 15 (by kernel_rfl) (by kernel_rfl) ?_
      simp only [List.take_succ_cons, List.take_zero, List.drop_succ_cons, List.drop_zero]
      repeat (first | go_big_quiet_step (fail) | quiet_step (fail))
      refine wpQuiet_nil ?_
      rintro _ ⟨xq, rfl⟩
      go_wp2_with (go_at_call 47; refine (show Hid _ from ?_).out)
      refine Lib.hid ?_
      refine calls_world (fun W => Ext w W ∧ RowAt W w.heap.size (entC { e with bytes := overB e.bytes p more }) ∧ RowAt W (w.heap.size + 1) (gotC noEn 0)) ⟨Ext.setCell ((((Ext.refl w).alloc _).alloc _).onto _) (p := ⟨w.heap.size, 43, none⟩) (Nat.le_refl _) _, by rw [← ent_set43 e]; exact (((RowAt.new w _ _).alloc _).later _).set 43 _, RowAt.other (RowAt.later (RowAt.newAt (cs := gotC noEn 0) (t := 62) (by simp)) _) (p := ⟨w.heap.size, 43, none⟩) (by show w.heap.size + 1 ≠ w.heap.size; omega) _⟩ ?_
      rintro W ⟨hx0, r1, r2⟩
      have HX0 := Lib.hid hx0
      have HR1 := Lib.hid r1
      have HR2 := Lib.hid r2
      have hl1 := r1.lt
      have hl2 := r2.lt
      have f42 : W.frozen? ⟨w.heap.size, 42, none⟩ = false := r1.free 42
      have c42 : W.cell? ⟨w.heap.size, 42, none⟩ = some e.hv := (r1.cell 42).trans (ent_g42 _)
      have hrow : rowOf W w.heap.size 0 45 = some (entC { e with bytes := overB e.bytes p more }) := r1.all (ent_size _).symm (by omega)
      have hroom : roomOf W (w.heap.size + 1) 0 46 = true := by rw [r2.room, got_size]; rfl
      clear hx0 r1 r2 hcat hcl hxl hxr hfit h44
      refine (radd_any A c l ((p : Int), (p : Int) + more.size) _ (by omega) (HR.out.on HX0.out) HZ.out).mono ?_
      rintro e' w' ⟨A2, c2, out, rfl, HO, ho, hx⟩
      have HOo := Lib.hid ho
      obtain ⟨x2, rfl⟩ := hx.asLater
      clear ho hx
      have hb2 : (overB e.bytes p more).size = e.bytes.size := overB_size hpm
      have hsn := SetIn.len (rAdd_in (f := (p : Int)) (t := (p : Int) + more.size) HVal.out.si (by omega) hps).1 hz0
      rw [← HO.out] at hsn
      go_wp2_with (go_at_call 48; refine (show Hid _ from ?_).out)
      refine Lib.hid ?_
      have hsame := settle_same e (.slice A2 out.length c2) (overB e.bytes p more) (overB e.bytes p more) out
      rw [hw] at hsame
      have er : settleN e out (overB e.bytes p more) = r := by rw [HO.out]; exact HRr.out.symm
      rw [er] at hsame
      clear er
      refine calls_world (fun W' => Ext w W' ∧ OwnsSp W.heap.size W' A2 c2 out ∧ RowAt W' (w.heap.size + 1) (gotC noEn 0)) ⟨Ext.setCell (HX0.out.onto _) (p := ⟨w.heap.size, 42, none⟩) (Nat.le_refl _) _, HOo.out.other (p := ⟨w.heap.size, 42, none⟩) hl1 _, RowAt.other (HR2.out.later _) (p := ⟨w.heap.size, 42, none⟩) (by show w.heap.size + 1 ≠ w.heap.size; omega) _⟩ ?_
      rintro W3 ⟨hx3, ho3, r3⟩
      have HX3 := Lib.hid hx3
      have HR3 := Lib.hid r3
      have hl3 := r3.lt
      have hroom3 : roomOf W3 (w.heap.size + 1) 0 46 = true := by rw [r3.room, got_size]; rfl
      have HO3 := Lib.hid ho3
      refine (rsettled_any ⟨e.st, e.soft, .slice A2 out.length c2, overB e.bytes p more, false⟩ A2 c2 out (overB e.bytes p more) W3 rfl rfl hz0 hz1 (by omega) (by omega) HB.out HBy.out (RowAt.ext HK.out hx3) (ho3.reads spE)).mono ?_
      clear hx3 ho3 r3 hroom hrow c42 f42 HR1 HR2 HOo
      rintro e' w' ⟨A4, c4, rfl, hor, hx4⟩
      obtain ⟨s1, s2, s3⟩ := hsame
      rw [s1] at hor
      rw [s1, s2, s3]
      have HOr := Lib.hid hor
      obtain ⟨x4, rfl⟩ := hx4.asLater
      have hf4 : fitsRow 46 (gotC { r.e with hv := .slice A4 r.l.length c4 } r.n) = true := got_fits_of r.n rfl
      clear hor hx4 s1 s2 s3
      go_wp2
      refine post_row got_ty Tryz.results24 rfl rfl (got_stored (HR3.out.later _) (got_size _ _)) ⟨A4, c4, rfl, ?_, ?_, ?_, Ext.setCells (HX3.out.onto _) (by omega) _ _⟩
      · rcases HOr.out with ⟨q, _⟩ | ⟨q, _⟩
        · subst q; exact plainA_none
        · subst q; exact HO3.out.plain
      · rcases HOr.out with ⟨_, q, _⟩ | ⟨q, q2, _⟩
        · exact fun _ => q
        · subst q q2; exact HO3.out.none0
      · rcases HOr.out with ⟨_, _, q⟩ | ⟨q, q2, q3⟩
        · rw [q]; exact Reads.nil _ _ _ _ _
        · subst q; rw [q3]; exact ((HO3.out.later x4).others (by omega) _ _).reads spE
end Go.Proofs.YtiacnoejlmaplaaGreatDoor
