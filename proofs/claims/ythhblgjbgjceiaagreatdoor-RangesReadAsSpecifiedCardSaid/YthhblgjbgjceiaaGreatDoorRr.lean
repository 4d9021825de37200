/- Walks of the specification's ranges: Parse, digits, Print. -/
import Derived.Test.YthhblgjbgjceiaaGreatDoorProg
import Derived.Test.YthhblgjbgjceiaaGreatDoorExt
import Derived.WalkKit
import Derived.WalkSpells
import Derived.WalkLawsBesides
import Derived.Deep.QuietTactic
import Derived.BigQuiet
import Derived.Test.YthhblgjbgjceiaaGreatDoorRl
import Derived.Test.YthhblgjbgjceiaaGreatDoorRq
import Derived.Test.YthhblgjbgjceiaaGreatDoorPr
set_option linter.unusedVariables false
set_option linter.unusedSimpArgs false
namespace Go.Proofs.YthhblgjbgjceiaaGreatDoor
open Go.RowKit Go.Shelf
open Go.Proofs
open Go.Proofs.Sp (Sp)

theorem partR_bd {size : Int} (s : List UInt8) (h0 : 0 ≤ size) (h1 : size ≤ 1099511627776) : (0 ≤ (Rp.partR size s).1.1 ∧ (Rp.partR size s).1.1 ≤ 1099511627776000) ∧ (0 ≤ (Rp.partR size s).1.2 ∧ (Rp.partR size s).1.2 ≤ 1099511627776) ∧ (Rp.partR size s).2 ≤ s.length := by
  have n1 := numR_bd s
  have n2 := numR_bd s.tail
  have n3 := numR_bd (s.drop ((Rp.numR s).2 + 1))
  rw [List.length_tail] at n2
  rw [List.length_drop] at n3
  unfold Rp.partR
  split
  · rename_i hh
    have hl : 0 < s.length := by
      cases s with
      | nil => cases hh
      | cons a t => simp
    split
    · simp only []; omega
    · simp only []; omega
  · split
    · simp only []; omega
    · rename_i hk
      have hk2 : (Rp.numR s).2 < s.length := Nat.lt_of_not_le (fun e => hk (.inr (.inl e)))
      split
      · split
        · simp only []; omega
        · simp only []; omega
      · split
        · simp only []; omega
        · simp only []; omega
theorem nil_in (n : Int) : SetIn [] n := ⟨Sp.IsSet.nil, fun t ht => by cases ht⟩
def pzC (l : List Sp) (A : Option Addr) (c : Nat) (n : Int) : Array Value := #[.slice A l.length c, .int .i64 n]
def RParRel (w : World) (size : Int) (text : ByteArray) (R : Option (List Sp)) (v i : Value) (wr : World) : Prop := ∃ (k f : Nat) (A' : Option Addr) (c' : Nat) (out : List Sp), k ≤ text.size ∧ i = .int .i64 k ∧ v = .slice A' out.length c' ∧ Hid (text.size < k + f) ∧ Hid (Rp.scanR size f (text.data.toList.drop k) out = R) ∧ Hid (SetIn out 1099511627776) ∧ Hid (OwnsSp (w.heap.size + 1) wr A' c' out) ∧ Hid (Ext w wr) ∧ Hid (RowAt wr w.heap.size #[.slice none 0 0, .int .i64 0])
theorem rpart_at (s : ByteArray) (i : Nat) (size : Int) (a b : Int) (k : Nat) (h : Rp.partR size (s.data.toList.drop i) = ((a, b), k)) (hs : s.size ≤ 10000) (h0 : 0 ≤ size) (h1 : size ≤ 1099511627776) (w : World) :
    Calls Tryz.prog 68 #[.string (s.extract i s.size), .int .i64 size] w fun e w' => e = .returned (.agg #[.int .i64 a, .int .i64 b, .int .i64 k]) ∧ Ext w w' := by
  have e := Lib.extract_to_end s i
  have := rpart7_any (s.extract i s.size) size w (by rw [ByteArray.size_extract]; omega) h0 h1
  rw [e, h] at this
  exact this
theorem rparse_arg (text : ByteArray) (size : Int) (w : World) (h : size < 0 ∨ 1099511627776 < size) :
    Calls Tryz.prog 25 #[.string text, .int .i64 size] w fun e w' => e = .returned (.agg #[.slice none 0 0, .int .i64 1]) ∧ Ext w w' := by
  go_enter Tryz.func25, Tryz.ntmps25
  go_wp2
  all_goals
    refine bodyPost_ret (v := .agg #[.slice none 0 0, .int .i64 1]) ?_ rfl ⟨rfl, (by (repeat (first | with_reducible exact Ext.refl _ | with_reducible exact Ext.refl _ | with_reducible refine Ext.drew ?_ | with_reducible refine Ext.drewN ?_ _ | with_reducible refine Ext.alloc ?_ _ | with_reducible refine Ext.onto ?_ _ | (with_reducible refine Ext.setCells ?_ ?_ _ _; rotate_left; focus (first | omega | (simp; done) | (simp; omega))) | (with_reducible refine Ext.setCell ?_ ?_ _; rotate_left; focus (first | omega | (simp; done) | (simp; omega))))))⟩
    simp [results, Tryz.results25, go_sem, ↓IntWalk.iteOmega]
theorem rparse_long (text : ByteArray) (size : Int) (w : World) (h : ¬ (size < 0 ∨ 1099511627776 < size)) (hl : 10000 < text.size) :
    Calls Tryz.prog 25 #[.string text, .int .i64 size] w fun e w' => e = .returned (.agg #[.slice none 0 0, .int .i64 2]) ∧ Ext w w' := by
  have h0 : 0 ≤ size := by omega
  have h1 : size ≤ 1099511627776 := by omega
  clear h
  go_enter Tryz.func25, Tryz.ntmps25
  go_wp2
  all_goals
    refine bodyPost_ret (v := .agg #[.slice none 0 0, .int .i64 2]) ?_ rfl ⟨rfl, (by (repeat (first | with_reducible exact Ext.refl _ | with_reducible exact Ext.refl _ | with_reducible refine Ext.drew ?_ | with_reducible refine Ext.drewN ?_ _ | with_reducible refine Ext.alloc ?_ _ | with_reducible refine Ext.onto ?_ _ | (with_reducible refine Ext.setCells ?_ ?_ _ _; rotate_left; focus (first | omega | (simp; done) | (simp; omega))) | (with_reducible refine Ext.setCell ?_ ?_ _; rotate_left; focus (first | omega | (simp; done) | (simp; omega))))))⟩
    simp [results, Tryz.results25, go_sem, ↓IntWalk.iteOmega]
theorem rparse_nopre (text : ByteArray) (size : Int) (w : World) (h : ¬ (size < 0 ∨ 1099511627776 < size)) (hl : text.size ≤ 10000) (hp : Lib.hasPrefix text.data.toList Rp.pre = false) :
    Calls Tryz.prog 25 #[.string text, .int .i64 size] w fun e w' => e = .returned (.agg #[.slice none 0 0, .int .i64 3]) ∧ Ext w w' := by
  have h0 : 0 ≤ size := by omega
  have h1 : size ≤ 1099511627776 := by omega
  have hr := Lib.hasPrefix_raw text ⟨#[98, 121, 116, 101, 115, 61]⟩
  rw [show (⟨#[98, 121, 116, 101, 115, 61]⟩ : ByteArray).data.toList = Rp.pre from rfl, hp] at hr
  clear h hp
  by_cases h6 : text.size < 6
  · clear hr
    go_enter Tryz.func25, Tryz.ntmps25
    go_wp2
    all_goals
      refine bodyPost_ret (v := .agg #[.slice none 0 0, .int .i64 3]) ?_ rfl ⟨rfl, (by (repeat (first | with_reducible exact Ext.refl _ | with_reducible exact Ext.refl _ | with_reducible refine Ext.drew ?_ | with_reducible refine Ext.drewN ?_ _ | with_reducible refine Ext.alloc ?_ _ | with_reducible refine Ext.onto ?_ _ | (with_reducible refine Ext.setCells ?_ ?_ _ _; rotate_left; focus (first | omega | (simp; done) | (simp; omega))) | (with_reducible refine Ext.setCell ?_ ?_ _; rotate_left; focus (first | omega | (simp; done) | (simp; omega))))))⟩
      simp [results, Tryz.results25, go_sem, ↓IntWalk.iteOmega]
  · have hne : ((text.extract 0 6).toList == [98, 121, 116, 101, 115, 61]) = false := by
      have e0 : (⟨#[98, 121, 116, 101, 115, 61]⟩ : ByteArray).toList = [98, 121, 116, 101, 115, 61] := by decide +kernel
      rw [← e0]
      have e : decide ((⟨#[98, 121, 116, 101, 115, 61]⟩ : ByteArray).size ≤ text.size) = true := by
        show decide (6 ≤ text.size) = true
        simpa using h6
      rw [e, Bool.true_and] at hr
      exact hr
    clear hr
    go_enter Tryz.func25, Tryz.ntmps25
    go_wp2
    all_goals
      refine bodyPost_ret (v := .agg #[.slice none 0 0, .int .i64 3]) ?_ rfl ⟨rfl, (by (repeat (first | with_reducible exact Ext.refl _ | with_reducible exact Ext.refl _ | with_reducible refine Ext.drew ?_ | with_reducible refine Ext.drewN ?_ _ | with_reducible refine Ext.alloc ?_ _ | with_reducible refine Ext.onto ?_ _ | (with_reducible refine Ext.setCells ?_ ?_ _ _; rotate_left; focus (first | omega | (simp; done) | (simp; omega))) | (with_reducible refine Ext.setCell ?_ ?_ _; rotate_left; focus (first | omega | (simp; done) | (simp; omega))))))⟩
      simp [results, Tryz.results25, go_sem, ↓IntWalk.iteOmega]
theorem radd_is (A : Option Addr) (c : Nat) (l : List Sp) (s : Sp) (w : World) (hlen : l.length * 32 ≤ 140737488350000) (hr : ReadsSp w w.heap.size A l) (z : A = none → c = 0) :
    Calls Tryz.prog 21 #[.slice A l.length c, .agg #[.int .i64 s.1, .int .i64 s.2]] w fun e' w' => ∃ A' c', e' = .returned (.slice A' (Sp.rAdd l s).length c') ∧ OwnsSp w.heap.size w' A' c' (Sp.rAdd l s) ∧ Ext w w' := by
  refine (radd_any A c l s w hlen hr z).mono ?_
  rintro e w4 ⟨A4, c4, l4, rfl, HL4, ho4, hx4⟩
  obtain rfl := HL4.out
  exact ⟨A4, c4, rfl, ho4, hx4⟩
set_option maxRecDepth 100000 in
set_option maxHeartbeats 1000000 in
theorem rparse_some (text : ByteArray) (size : Int) (w : World) (h0 : 0 ≤ size) (h1 : size ≤ 1099511627776) (hl : text.size ≤ 10000) (hp : Lib.hasPrefix text.data.toList Rp.pre = true) (u : List Sp) (n : Int)
    (hu : Rp.endN (Rp.scanR size (text.size + 1) (text.data.toList.drop 6) []) = (u, n)) :
    Calls Tryz.prog 25 #[.string text, .int .i64 size] w fun e w' => ∃ A' c', e = .returned (.agg #[.slice A' u.length c', .int .i64 n]) ∧ OwnsSp w.heap.size w' A' c' u ∧ Ext w w' := by
  have hll : text.data.toList.length = text.size := by simp
  have hp6 : 6 ≤ text.size := by
    rw [← hll]
    exact Lib.hasPrefix_le hp
  have hr := Lib.hasPrefix_raw text ⟨#[98, 121, 116, 101, 115, 61]⟩
  rw [show (⟨#[98, 121, 116, 101, 115, 61]⟩ : ByteArray).data.toList = Rp.pre from rfl, hp, Bool.and_eq_true] at hr
  have heq : ((text.extract 0 6).toList == [98, 121, 116, 101, 115, 61]) = true := by
    have e0 : (⟨#[98, 121, 116, 101, 115, 61]⟩ : ByteArray).toList = [98, 121, 116, 101, 115, 61] := by decide +kernel
    rw [← e0]
    exact hr.2
  have HL := Lib.hid hll
  obtain ⟨R, hR⟩ : ∃ R, Rp.scanR size (text.size + 1) (text.data.toList.drop 6) [] = R := ⟨_, rfl⟩
  rw [hR] at hu
  have HU := Lib.hid hu
  have HR := Lib.hid hR
  clear hu hp hll hr hR
  go_enter Tryz.func25, Tryz.ntmps25
  go_wp2
  go_loopw [5, 6] (RParRel w size text R) (fun _ i _ => text.size - (intOf i).toNat)
  case atStart => exact ⟨6, text.size + 1, none, 0, [], hp6, rfl, rfl, Lib.hid (by omega), HR, Lib.hid (SetIn.nil _), Lib.hid (Owns.nil _ _ _ _ _), Lib.hid (by (repeat (first | with_reducible exact Ext.refl _ | with_reducible exact Ext.refl _ | with_reducible refine Ext.drew ?_ | with_reducible refine Ext.drewN ?_ _ | with_reducible refine Ext.alloc ?_ _ | with_reducible refine Ext.onto ?_ _ | (with_reducible refine Ext.setCells ?_ ?_ _ _; rotate_left; focus (first | omega | (simp; done) | (simp; omega))) | (with_reducible refine Ext.setCell ?_ ?_ _; rotate_left; focus (first | omega | (simp; done) | (simp; omega)))))), Lib.hid (RowAt.new _ _ _)⟩
  case round =>
    obtain ⟨k, f, A', c', out, hk, rfl, rfl, HF, HS, HI, HO, HX, HRow⟩ := hrel
    obtain ⟨f, rfl⟩ : ∃ g, f = g + 1 := ⟨f - 1, by have := HF.out; omega⟩
    obtain ⟨⟨⟨s1, s2⟩, z⟩, hz⟩ : ∃ p, Rp.partR size (text.data.toList.drop k) = p := ⟨_, rfl⟩
    have hbd := partR_bd (size := size) (text.data.toList.drop k) h0 h1
    have hs := HS.out
    unfold Rp.scanR at hs
    rw [hz] at hs hbd
    simp only [List.length_drop, HL.out] at hbd
    obtain ⟨⟨b1, b2⟩, ⟨b3, b4⟩, b5⟩ := hbd
    have HP := Lib.hid (fun W => rpart_at text k size s1 s2 z hz hl h0 h1 W)
    have hlo : out.length ≤ 1099511627776 := by have := HI.out.len (by decide); omega
    have hsz := HX.out.size
    have hlw := HRow.out.lt
    have z1 : wr.cell? ⟨w.heap.size, 0, none⟩ = some (.slice none 0 0) := HRow.out.cell 0
    have z2 : wr.cell? ⟨w.heap.size, 1, none⟩ = some (.int .i64 0) := HRow.out.cell 1
    have f1 : wr.frozen? ⟨w.heap.size, 0, none⟩ = false := HRow.out.free 0
    have f2 : wr.frozen? ⟨w.heap.size, 1, none⟩ = false := HRow.out.free 1
    clear hz
    by_cases hz0 : z = 0
    · subst hz0
      rw [if_pos rfl] at hs
      have hu := HU.out
      rw [← hs] at hu
      obtain ⟨e1, e2⟩ := Prod.mk.inj hu
      subst e1 e2
      clear hs hu
      go_wp2_with (go_at_call 68; refine (HP.out _).mono ?_; rintro e w' ⟨rfl, hxl⟩; obtain ⟨xl, rfl⟩ := hxl.asLater; clear hxl)
      refine bodyPost_ret (v := .agg #[.slice none 0 0, .int .i64 3]) ?_ rfl ⟨none, 0, rfl, Owns.nil _ _ _ _ _, (by (repeat (first | with_reducible exact HX.out | with_reducible exact Ext.refl _ | with_reducible refine Ext.drew ?_ | with_reducible refine Ext.drewN ?_ _ | with_reducible refine Ext.alloc ?_ _ | with_reducible refine Ext.onto ?_ _ | (with_reducible refine Ext.setCells ?_ ?_ _ _; rotate_left; focus (first | omega | (simp; done) | (simp; omega))) | (with_reducible refine Ext.setCell ?_ ?_ _; rotate_left; focus (first | omega | (simp; done) | (simp; omega))))))⟩
      simp [results, Tryz.results25, go_sem, ↓IntWalk.iteOmega, z1, z2]
    · rw [if_neg hz0, List.drop_drop, List.drop_drop] at hs
      obtain ⟨q, hq⟩ : ∃ q, Sp.rAdd out (s1, s2) = q := ⟨_, rfl⟩
      have HAd := Lib.hid (fun W (h : OwnsSp (w.heap.size + 1) W A' c' out) => radd_is A' c' out (s1, s2) W (by omega) (h.reads spE) h.none0)
      have HQI : Hid (SetIn q 1099511627776) := Lib.hid (by rw [← hq]; exact (rAdd_in HI.out b1 b4).1)
      rw [hq] at HAd hs
      clear hq HI
      have hzb : ((z : Int) == 0) = false := by simp; omega
      by_cases hend : k + z = text.size
      · rw [if_pos (by rw [List.drop_eq_nil_iff, HL.out]; omega)] at hs
        have hu := HU.out
        rw [← hs] at hu
        have hendb : (((k : Int) + z) == text.size) = true := by simp; omega
        clear hs HU HR HS
        by_cases hq0 : q = []
        · subst hq0
          obtain ⟨e1, e2⟩ := Prod.mk.inj hu
          subst e1 e2
          clear hu
          go_wp2_with (first
            | (go_at_call 68; refine (HP.out _).mono ?_; rintro e w' ⟨rfl, hxl⟩; obtain ⟨xl, rfl⟩ := hxl.asLater; clear hxl)
            | (go_at_call 21; refine (HAd.out _ (HO.out.ext (by (repeat (first | with_reducible exact Ext.refl _ | with_reducible exact Ext.refl _ | with_reducible refine Ext.drew ?_ | with_reducible refine Ext.drewN ?_ _ | with_reducible refine Ext.alloc ?_ _ | with_reducible refine Ext.onto ?_ _ | (with_reducible refine Ext.setCells ?_ ?_ _ _; rotate_left; focus (first | omega | (simp; done) | (simp; omega))) | (with_reducible refine Ext.setCell ?_ ?_ _; rotate_left; focus (first | omega | (simp; done) | (simp; omega)))))))).mono ?_; rintro e w4 ⟨A4, c4, rfl, ho4, hx4⟩; have hz4 : w4.cell? ⟨wr.heap.size + xl.n, 2, none⟩ = some (.int .i64 z) := (Ext.cell (p := ⟨wr.heap.size + xl.n, 2, none⟩) hx4 (by simp [later_size])).trans (by rw [alloc_cell_if, if_pos (by simp [later_size])]; rfl); have hx5 := ((show Ext wr _ from (by (repeat (first | with_reducible exact Ext.refl _ | with_reducible exact Ext.refl _ | with_reducible refine Ext.drew ?_ | with_reducible refine Ext.drewN ?_ _ | with_reducible refine Ext.alloc ?_ _ | with_reducible refine Ext.onto ?_ _ | (with_reducible refine Ext.setCells ?_ ?_ _ _; rotate_left; focus (first | omega | (simp; done) | (simp; omega))) | (with_reducible refine Ext.setCell ?_ ?_ _; rotate_left; focus (first | omega | (simp; done) | (simp; omega))))))).trans hx4); have g1 := (HRow.out.ext hx5).cell 0; have g2 := (HRow.out.ext hx5).cell 1; have g3 := (HRow.out.ext hx5).free 0; have g4 := (HRow.out.ext hx5).free 1; have hsz4 := hx5.size; have HX4 := Lib.hid hx5; have HO4 : Hid (OwnsSp (w.heap.size + 1) w4 A4 c4 _) := Lib.hid (ho4.lower (by simp [later_size]; omega)); clear ho4 hx4 hx5))
          refine bodyPost_ret (v := .agg #[.slice none 0 0, .int .i64 70]) ?_ rfl ⟨none, 0, rfl, Owns.nil _ _ _ _ _, (by (repeat (first | with_reducible exact HX.out.trans HX4.out | with_reducible exact Ext.refl _ | with_reducible refine Ext.drew ?_ | with_reducible refine Ext.drewN ?_ _ | with_reducible refine Ext.alloc ?_ _ | with_reducible refine Ext.onto ?_ _ | (with_reducible refine Ext.setCells ?_ ?_ _ _; rotate_left; focus (first | omega | (simp; done) | (simp; omega))) | (with_reducible refine Ext.setCell ?_ ?_ _; rotate_left; focus (first | omega | (simp; done) | (simp; omega))))))⟩
          simp [results, Tryz.results25, go_sem, ↓IntWalk.iteOmega, g1, g2]
        · simp only [Rp.endN, if_neg hq0] at hu
          obtain ⟨e1, e2⟩ := Prod.mk.inj hu
          subst e1 e2
          have hq1 : ((q.length : Int) == 0) = false := by
            rw [beq_eq_false_iff_ne]
            intro e
            exact hq0 (List.eq_nil_of_length_eq_zero (by omega))
          clear hu hq0
          go_wp2_with (first
            | (go_at_call 68; refine (HP.out _).mono ?_; rintro e w' ⟨rfl, hxl⟩; obtain ⟨xl, rfl⟩ := hxl.asLater; clear hxl)
            | (go_at_call 21; refine (HAd.out _ (HO.out.ext (by (repeat (first | with_reducible exact Ext.refl _ | with_reducible exact Ext.refl _ | with_reducible refine Ext.drew ?_ | with_reducible refine Ext.drewN ?_ _ | with_reducible refine Ext.alloc ?_ _ | with_reducible refine Ext.onto ?_ _ | (with_reducible refine Ext.setCells ?_ ?_ _ _; rotate_left; focus (first | omega | (simp; done) | (simp; omega))) | (with_reducible refine Ext.setCell ?_ ?_ _; rotate_left; focus (first | omega | (simp; done) | (simp; omega)))))))).mono ?_; rintro e w4 ⟨A4, c4, rfl, ho4, hx4⟩; have hz4 : w4.cell? ⟨wr.heap.size + xl.n, 2, none⟩ = some (.int .i64 z) := (Ext.cell (p := ⟨wr.heap.size + xl.n, 2, none⟩) hx4 (by simp [later_size])).trans (by rw [alloc_cell_if, if_pos (by simp [later_size])]; rfl); have hx5 := ((show Ext wr _ from (by (repeat (first | with_reducible exact Ext.refl _ | with_reducible exact Ext.refl _ | with_reducible refine Ext.drew ?_ | with_reducible refine Ext.drewN ?_ _ | with_reducible refine Ext.alloc ?_ _ | with_reducible refine Ext.onto ?_ _ | (with_reducible refine Ext.setCells ?_ ?_ _ _; rotate_left; focus (first | omega | (simp; done) | (simp; omega))) | (with_reducible refine Ext.setCell ?_ ?_ _; rotate_left; focus (first | omega | (simp; done) | (simp; omega))))))).trans hx4); have g1 := (HRow.out.ext hx5).cell 0; have g2 := (HRow.out.ext hx5).cell 1; have g3 := (HRow.out.ext hx5).free 0; have g4 := (HRow.out.ext hx5).free 1; have hsz4 := hx5.size; have HX4 := Lib.hid hx5; have HO4 : Hid (OwnsSp (w.heap.size + 1) w4 A4 c4 _) := Lib.hid (ho4.lower (by simp [later_size]; omega)); clear ho4 hx4 hx5))
          have hw : w.heap.size < w.heap.size + 1 := by omega
          refine bodyPost_ret (v := .agg #[.slice A4 q.length c4, .int .i64 0]) ?_ rfl ⟨A4, c4, rfl, ((HO4.out.other (p := ⟨w.heap.size, 0, none⟩) hw _).other (p := ⟨w.heap.size, 1, none⟩) hw _).lower (by omega), (by (repeat (first | with_reducible exact HX.out.trans HX4.out | with_reducible exact Ext.refl _ | with_reducible refine Ext.drew ?_ | with_reducible refine Ext.drewN ?_ _ | with_reducible refine Ext.alloc ?_ _ | with_reducible refine Ext.onto ?_ _ | (with_reducible refine Ext.setCells ?_ ?_ _ _; rotate_left; focus (first | omega | (simp; done) | (simp; omega))) | (with_reducible refine Ext.setCell ?_ ?_ _; rotate_left; focus (first | omega | (simp; done) | (simp; omega))))))⟩
          simp [results, Tryz.results25, go_sem, ↓IntWalk.iteOmega, g1, g2]
      · have hlt : k + z < text.size := by omega
        have hdl : (text.data.toList.drop (k + z)).head? = some text[k + z] := by
          rw [List.head?_drop, List.getElem?_eq_getElem (by rw [HL.out]; exact hlt), byte_at text (k + z) hlt]
        rw [if_neg (by rw [List.drop_eq_nil_iff, HL.out]; omega), hdl] at hs
        have hendb : (((k : Int) + z) == text.size) = false := by simp; omega
        clear hdl HR HS
        by_cases h44 : text[k + z].toNat = 44
        · rw [if_neg (by
            intro e
            exact e (by congr 1; exact UInt8.toNat_inj.1 h44))] at hs
          have h44b : ((text[k + z].toNat : Int) != 44) = false := by simp; omega
          have HS2 := Lib.hid hs
          clear hs
          go_wp2_with (first
            | (go_at_call 68; refine (HP.out _).mono ?_; rintro e w' ⟨rfl, hxl⟩; obtain ⟨xl, rfl⟩ := hxl.asLater; clear hxl)
            | (go_at_call 21; refine (HAd.out _ (HO.out.ext (by (repeat (first | with_reducible exact Ext.refl _ | with_reducible exact Ext.refl _ | with_reducible refine Ext.drew ?_ | with_reducible refine Ext.drewN ?_ _ | with_reducible refine Ext.alloc ?_ _ | with_reducible refine Ext.onto ?_ _ | (with_reducible refine Ext.setCells ?_ ?_ _ _; rotate_left; focus (first | omega | (simp; done) | (simp; omega))) | (with_reducible refine Ext.setCell ?_ ?_ _; rotate_left; focus (first | omega | (simp; done) | (simp; omega)))))))).mono ?_; rintro e w4 ⟨A4, c4, rfl, ho4, hx4⟩; have hz4 : w4.cell? ⟨wr.heap.size + xl.n, 2, none⟩ = some (.int .i64 z) := (Ext.cell (p := ⟨wr.heap.size + xl.n, 2, none⟩) hx4 (by simp [later_size])).trans (by rw [alloc_cell_if, if_pos (by simp [later_size])]; rfl); have hx5 := ((show Ext wr _ from (by (repeat (first | with_reducible exact Ext.refl _ | with_reducible exact Ext.refl _ | with_reducible refine Ext.drew ?_ | with_reducible refine Ext.drewN ?_ _ | with_reducible refine Ext.alloc ?_ _ | with_reducible refine Ext.onto ?_ _ | (with_reducible refine Ext.setCells ?_ ?_ _ _; rotate_left; focus (first | omega | (simp; done) | (simp; omega))) | (with_reducible refine Ext.setCell ?_ ?_ _; rotate_left; focus (first | omega | (simp; done) | (simp; omega))))))).trans hx4); have g1 := (HRow.out.ext hx5).cell 0; have g2 := (HRow.out.ext hx5).cell 1; have g3 := (HRow.out.ext hx5).free 0; have g4 := (HRow.out.ext hx5).free 1; have hsz4 := hx5.size; have HX4 := Lib.hid hx5; have HO4 : Hid (OwnsSp (w.heap.size + 1) w4 A4 c4 _) := Lib.hid (ho4.lower (by simp [later_size]; omega)); clear ho4 hx4 hx5))
          go_roundw
          case rel => exact ⟨k + z + 1, f, A4, c4, q, by omega, by go_num, rfl, Lib.hid (by have := HF.out; omega), Lib.hid (by rw [← HS2.out, Nat.add_assoc]), HQI, HO4, Lib.hid (HX.out.trans HX4.out), Lib.hid (HRow.out.ext HX4.out)⟩
          case measure => simp [intOf]; omega
        · rw [if_pos (by
            intro e
            exact h44 (by rw [Option.some.inj e]; rfl))] at hs
          have h44b : ((text[k + z].toNat : Int) != 44) = true := by simp; omega
          have hu := HU.out
          rw [← hs] at hu
          obtain ⟨e1, e2⟩ := Prod.mk.inj hu
          subst e1 e2
          clear hs hu HU
          go_wp2_with (first
            | (go_at_call 68; refine (HP.out _).mono ?_; rintro e w' ⟨rfl, hxl⟩; obtain ⟨xl, rfl⟩ := hxl.asLater; clear hxl)
            | (go_at_call 21; refine (HAd.out _ (HO.out.ext (by (repeat (first | with_reducible exact Ext.refl _ | with_reducible exact Ext.refl _ | with_reducible refine Ext.drew ?_ | with_reducible refine Ext.drewN ?_ _ | with_reducible refine Ext.alloc ?_ _ | with_reducible refine Ext.onto ?_ _ | (with_reducible refine Ext.setCells ?_ ?_ _ _; rotate_left; focus (first | omega | (simp; done) | (simp; omega))) | (with_reducible refine Ext.setCell ?_ ?_ _; rotate_left; focus (first | omega | (simp; done) | (simp; omega)))))))).mono ?_; rintro e w4 ⟨A4, c4, rfl, ho4, hx4⟩; have hz4 : w4.cell? ⟨wr.heap.size + xl.n, 2, none⟩ = some (.int .i64 z) := (Ext.cell (p := ⟨wr.heap.size + xl.n, 2, none⟩) hx4 (by simp [later_size])).trans (by rw [alloc_cell_if, if_pos (by simp [later_size])]; rfl); have hx5 := ((show Ext wr _ from (by (repeat (first | with_reducible exact Ext.refl _ | with_reducible exact Ext.refl _ | with_reducible refine Ext.drew ?_ | with_reducible refine Ext.drewN ?_ _ | with_reducible refine Ext.alloc ?_ _ | with_reducible refine Ext.onto ?_ _ | (with_reducible refine Ext.setCells ?_ ?_ _ _; rotate_left; focus (first | omega | (simp; done) | (simp; omega))) | (with_reducible refine Ext.setCell ?_ ?_ _; rotate_left; focus (first | omega | (simp; done) | (simp; omega))))))).trans hx4); have g1 := (HRow.out.ext hx5).cell 0; have g2 := (HRow.out.ext hx5).cell 1; have g3 := (HRow.out.ext hx5).free 0; have g4 := (HRow.out.ext hx5).free 1; have hsz4 := hx5.size; have HX4 := Lib.hid hx5; have HO4 : Hid (OwnsSp (w.heap.size + 1) w4 A4 c4 _) := Lib.hid (ho4.lower (by simp [later_size]; omega)); clear ho4 hx4 hx5))
          refine bodyPost_ret (v := .agg #[.slice none 0 0, .int .i64 3]) ?_ rfl ⟨none, 0, rfl, Owns.nil _ _ _ _ _, (by (repeat (first | with_reducible exact HX.out.trans HX4.out | with_reducible exact Ext.refl _ | with_reducible refine Ext.drew ?_ | with_reducible refine Ext.drewN ?_ _ | with_reducible refine Ext.alloc ?_ _ | with_reducible refine Ext.onto ?_ _ | (with_reducible refine Ext.setCells ?_ ?_ _ _; rotate_left; focus (first | omega | (simp; done) | (simp; omega))) | (with_reducible refine Ext.setCell ?_ ?_ _; rotate_left; focus (first | omega | (simp; done) | (simp; omega))))))⟩
          simp [results, Tryz.results25, go_sem, ↓IntWalk.iteOmega, g1, g2]
/-- THE CONTRACT of the specification's Parse. -/
theorem rparse_any (text : ByteArray) (size : Int) (w : World) (u : List Sp) (n : Int) (hu : Rp.parseN size text.data.toList = (u, n)) :
    Calls Tryz.prog 25 #[.string text, .int .i64 size] w fun e w' => ∃ A' c', e = .returned (.agg #[.slice A' u.length c', .int .i64 n]) ∧ OwnsSp w.heap.size w' A' c' u ∧ Ext w w' := by
  have hl : text.data.toList.length = text.size := by simp
  unfold Rp.parseN at hu
  rw [hl] at hu
  by_cases h : size < 0 ∨ 1099511627776 < size
  · rw [if_pos h] at hu
    obtain ⟨rfl, rfl⟩ := Prod.mk.inj hu
    exact (rparse_arg text size w h).mono (fun e w' ⟨a, b⟩ => ⟨none, 0, a, Owns.nil _ _ _ _ _, b⟩)
  rw [if_neg h] at hu
  by_cases h2 : 10000 < text.size
  · rw [if_pos h2] at hu
    obtain ⟨rfl, rfl⟩ := Prod.mk.inj hu
    exact (rparse_long text size w h h2).mono (fun e w' ⟨a, b⟩ => ⟨none, 0, a, Owns.nil _ _ _ _ _, b⟩)
  rw [if_neg h2] at hu
  by_cases h3 : Lib.hasPrefix text.data.toList Rp.pre = false
  · rw [if_pos h3] at hu
    obtain ⟨rfl, rfl⟩ := Prod.mk.inj hu
    exact (rparse_nopre text size w h (by omega) h3).mono (fun e w' ⟨a, b⟩ => ⟨none, 0, a, Owns.nil _ _ _ _ _, b⟩)
  rw [if_neg h3] at hu
  have h3' : Lib.hasPrefix text.data.toList Rp.pre = true := by simpa using h3
  refine rparse_some text size w (by omega) (by omega) (by omega) h3' u n ?_
  rw [Rp.parse_scan size (text.data.toList.drop 6) (text.size + 1) (by rw [List.length_drop]; omega)]
  exact hu
theorem conv_one (W : World) (x : Int) : (convert 83 9 (.slice (some ⟨W.heap.size, 0, none⟩) 1 1)).run Tryz.prog (W.alloc (.cells #[.int .u8 x] 5)) = .ok (.string (strOfNums [x])) (W.alloc (.cells #[.int .u8 x] 5)) := by
  refine conv_bytes (w := W.alloc (.cells #[.int .u8 x] 5)) (B := (W.alloc (.cells #[.int .u8 x] 5)).heap.size) (A := some ⟨W.heap.size, 0, none⟩) (l := [x]) 1 (fun _ => ⟨W.heap.size, 0, rfl, by simp, fun i hi j v hv => ?_⟩) (by simp)
  have hi0 : i = 0 := by simp at hi; omega
  subst hi0
  have hj := (List.getElem?_eq_some_iff.1 hv).1
  have hj0 : j = 0 := by simp [encB] at hj; omega
  subst hj0
  simp [encB] at hv
  subst hv
  rw [alloc_cell_if, if_pos rfl]
  rfl
theorem dig_step (v : Nat) (o : ByteArray) (r : List UInt8) (h10 : 10 ≤ v) (h : Lib.decDigits v ++ o.data.toList = r) (y : Int) (hy : y = 48 + (v % 10 : Nat)) : Lib.decDigits (v / 10) ++ (strOfNums [y] ++ o).data.toList = r := by
  rw [← h]
  conv => rhs; rw [Lib.decDigits, dif_neg (by omega)]
  have e : (strOfNums [y] ++ o).data.toList = (strOfNums [y]).data.toList ++ o.data.toList := by simp
  have e2 : y.toNat = 48 + v % 10 := by rw [hy]; omega
  rw [e, strOfNums_data, List.append_assoc, List.map_cons, List.map_nil, e2]
theorem dig_last (v : Nat) (o : ByteArray) (r : List UInt8) (h10 : v < 10) (h : Lib.decDigits v ++ o.data.toList = r) (y : Int) (hy : y = 48 + (v : Nat)) : strOfNums [y] ++ o = ⟨r.toArray⟩ := by
  rw [← h, Lib.decDigits_one h10]
  apply ByteArray.ext
  apply Array.toList_inj.1
  have e : (strOfNums [y] ++ o).data.toList = (strOfNums [y]).data.toList ++ o.data.toList := by simp
  have e2 : y.toNat = 48 + v := by omega
  rw [e, strOfNums_data, List.map_cons, List.map_nil, e2]
theorem rdigits_any (n : Nat) (w : World) (hn : n ≤ 1099511627776) :
    Calls Tryz.prog 71 #[.int .i64 n] w fun e w' => e = .returned (.string ⟨(Lib.decDigits n).toArray⟩) ∧ Ext w w' := by
  have hlen : (Lib.decDigits n).length ≤ 21 := by
    have := Lib.itoa_length_le n (by omega) (by omega)
    rw [Lib.itoa_nonneg] at this
    omega
  obtain ⟨r, hr⟩ : ∃ r, Lib.decDigits n = r := ⟨_, rfl⟩
  rw [hr] at hlen ⊢
  have HR := Lib.hid hr
  clear hr
  go_enter Tryz.func71, Tryz.ntmps71
  go_wp2
  go_loopw [0, 3] (fun nv ov wr => ∃ (v : Nat) (o : ByteArray), nv = .int .i64 v ∧ ov = .string o ∧ v ≤ n ∧ Hid (Lib.decDigits v ++ o.data.toList = r) ∧ Hid (Ext w wr)) (fun nv _ _ => (intOf nv).toNat)
  case atStart => exact ⟨n, ⟨#[]⟩, rfl, rfl, Nat.le_refl _, Lib.hid (by rw [HR.out]; simp), Lib.hid (Ext.refl _)⟩
  case round =>
    obtain ⟨v, o, rfl, rfl, hv, HD, HX⟩ := hrel
    have hos : o.size ≤ 21 := by
      have := congrArg List.length HD.out
      rw [List.length_append] at this
      have e : o.data.toList.length = o.size := by simp
      omega
    have hcv := conv_one wr
    have hs1 : ∀ y : Int, (strOfNums [y]).size = 1 := fun y => rfl
    by_cases h10 : 10 ≤ v
    · have HD2 := Lib.hid (dig_step v o r h10 HD.out)
      go_wp2
      go_roundw
      case rel => exact ⟨v / 10, strOfNums [48 + (v : Int) % 10] ++ o, by go_num, rfl, by omega, Lib.hid (HD2.out _ (by omega)), Lib.hid (by (repeat (first | with_reducible exact HX.out | with_reducible exact Ext.refl _ | with_reducible refine Ext.drew ?_ | with_reducible refine Ext.drewN ?_ _ | with_reducible refine Ext.alloc ?_ _ | with_reducible refine Ext.onto ?_ _ | (with_reducible refine Ext.setCells ?_ ?_ _ _; rotate_left; focus (first | omega | (simp; done) | (simp; omega))) | (with_reducible refine Ext.setCell ?_ ?_ _; rotate_left; focus (first | omega | (simp; done) | (simp; omega))))))⟩
      case measure => simp [intOf]; omega
    · have HD2 := Lib.hid (dig_last v o r (by omega) HD.out)
      go_wp2
      go_ret
      exact ⟨by show Ending.returned (.string _) = _; rw [HD2.out _ (by omega)], (by (repeat (first | with_reducible exact HX.out | with_reducible exact Ext.refl _ | with_reducible refine Ext.drew ?_ | with_reducible refine Ext.drewN ?_ _ | with_reducible refine Ext.alloc ?_ _ | with_reducible refine Ext.onto ?_ _ | (with_reducible refine Ext.setCells ?_ ?_ _ _; rotate_left; focus (first | omega | (simp; done) | (simp; omega))) | (with_reducible refine Ext.setCell ?_ ?_ _; rotate_left; focus (first | omega | (simp; done) | (simp; omega))))))⟩
def prefB (l : List Sp) : ByteArray := ⟨#[98, 121, 116, 101, 115, 61]⟩ ++ ⟨(Lib.join (l.map fun s => (partB s).data.toList) [44]).toArray⟩
theorem bdata_app (a b : ByteArray) : (a ++ b).data.toList = a.data.toList ++ b.data.toList := by simp
theorem prefB_data (l : List Sp) : (prefB l).data.toList = Rp.pre ++ Lib.join (l.map fun s => (partB s).data.toList) [44] := by
  unfold prefB
  rw [bdata_app]
  rfl
theorem pref_step (l : List Sp) (k : Nat) (h : k < l.length) : prefB (l.take (k + 1)) = (if k = 0 then prefB (l.take k) else prefB (l.take k) ++ ⟨#[44]⟩) ++ ⟨(Lib.itoa l[k].1).toArray⟩ ++ ⟨#[45]⟩ ++ ⟨(Lib.itoa (l[k].2 - 1)).toArray⟩ := by
  apply ByteArray.ext
  apply Array.toList_inj.1
  have hp : (partB l[k]).data.toList = Lib.itoa l[k].1 ++ [45] ++ Lib.itoa (l[k].2 - 1) := by
    unfold partB
    rw [bdata_app, bdata_app]
  rw [prefB_data, List.take_succ_eq_append_getElem h, List.map_append, bdata_app, bdata_app, bdata_app]
  by_cases h0 : k = 0
  · subst h0
    rw [if_pos rfl, prefB_data, List.take_zero, List.map_nil, List.nil_append, List.map_cons, List.map_nil, Lib.join_one, hp]
    simp [Lib.join]
  · rw [if_neg h0, bdata_app, prefB_data, List.map_cons, List.map_nil, Tg.join_snoc 44 _ _ (fun e => by
      have := congrArg List.length e
      rw [List.length_map, List.length_take, List.length_nil] at this
      omega), hp]
    simp
theorem pref_size {l : List Sp} (hs : SetIn l 1099511627776) (k : Nat) : (prefB (l.take k)).size ≤ 6 + 44 * l.length := by
  have h1 := join_small (l.take k) (fun s h => hs.2 s (List.mem_of_mem_take h)) (fun s h => hs.1.2 s (List.mem_of_mem_take h))
  have h2 : (prefB (l.take k)).data.toList.length = (prefB (l.take k)).size := by simp
  have h3 : (l.take k).length ≤ l.length := by rw [List.length_take]; omega
  rw [prefB_data, List.length_append] at h2
  have h4 : Rp.pre.length = 6 := rfl
  omega
theorem rdig_is (n : Int) (h0 : 0 ≤ n) (h1 : n ≤ 1099511627776) : ∃ x : ByteArray, Hid (x = ⟨(Lib.itoa n).toArray⟩) ∧ x.size ≤ 21 ∧ Hid (∀ w, Calls Tryz.prog 71 #[.int .i64 n] w fun e w' => e = .returned (.string x) ∧ Ext w w') := by
  obtain ⟨k, rfl⟩ : ∃ k : Nat, n = k := ⟨n.toNat, by omega⟩
  refine ⟨⟨(Lib.itoa k).toArray⟩, Lib.hid rfl, ?_, Lib.hid (fun w => ?_)⟩
  · have := Lib.itoa_length_le k (by omega) (by omega)
    show (Lib.itoa k).toArray.size ≤ 21
    simpa using this
  · rw [Lib.itoa_nonneg]
    exact rdigits_any k w (by omega)
set_option maxRecDepth 100000 in
set_option maxHeartbeats 1000000 in
theorem rprint_any (A : Option Addr) (c : Nat) (l : List Sp) (w : World) (hs : SetIn l 1099511627776) (hl : l.length ≤ 10000) (hr : ReadsSp w w.heap.size A l) :
    Calls Tryz.prog 29 #[.slice A l.length c] w fun e w' => e = .returned (.string (printB l)) ∧ Ext w w' := by
  have HR := Lib.hid hr
  have HS := Lib.hid hs
  clear hr hs
  by_cases h0 : l.length = 0
  · have e : printB l = ⟨#[]⟩ := by unfold printB; rw [if_pos (List.eq_nil_of_length_eq_zero h0)]
    rw [e]
    go_enter Tryz.func29, Tryz.ntmps29
    go_wp2
    go_ret
    exact ⟨rfl, (by (repeat (first | with_reducible exact Ext.refl _ | with_reducible exact Ext.refl _ | with_reducible refine Ext.drew ?_ | with_reducible refine Ext.drewN ?_ _ | with_reducible refine Ext.alloc ?_ _ | with_reducible refine Ext.onto ?_ _ | (with_reducible refine Ext.setCells ?_ ?_ _ _; rotate_left; focus (first | omega | (simp; done) | (simp; omega))) | (with_reducible refine Ext.setCell ?_ ?_ _; rotate_left; focus (first | omega | (simp; done) | (simp; omega))))))⟩
  have HE : Hid (printB l = prefB l) := Lib.hid (by unfold printB; rw [if_neg (fun e => h0 (by rw [e]; rfl))]; rfl)
  generalize printB l = pb at *
  have h0b : ((l.length : Int) == 0) = false := by rw [beq_eq_false_iff_ne]; omega
  clear h0
  go_enter Tryz.func29, Tryz.ntmps29
  go_wp2
  go_loopw [3, 4] (fun v i wr => ∃ (k : Nat) (o : ByteArray), k ≤ l.length ∧ i = .int .i64 k ∧ v = .string o ∧ o.size ≤ 6 + 44 * l.length ∧ Hid (o = prefB (l.take k)) ∧ Hid (Ext w wr)) (fun _ i _ => l.length - (intOf i).toNat)
  case atStart => exact ⟨0, ⟨#[98, 121, 116, 101, 115, 61]⟩, Nat.zero_le _, rfl, rfl, by show 6 ≤ _; omega, Lib.hid (by apply ByteArray.ext; apply Array.toList_inj.1; rw [prefB_data, List.take_zero]; rfl), Lib.hid (Ext.refl _)⟩
  case round =>
    obtain ⟨k, o, hk, rfl, rfl, hos, HO, HX⟩ := hrel
    by_cases hlt : k < l.length
    · obtain ⟨b, off, rfl, hb, c1, c2⟩ := ReadsSp.cell (HR.out.ext HX.out (Nat.le_refl _)) k hlt
      have hbw : b < wr.heap.size := by have := HX.out.size; omega
      have hin := List.getElem_mem hlt
      have i1 := HS.out.1.2 _ hin
      have i2 := HS.out.2 _ hin
      have HJ := Lib.hid (pref_step l k hlt)
      have HSz := Lib.hid (pref_size HS.out (k + 1))
      rw [← HO.out] at HJ
      generalize l[k] = s at *
      obtain ⟨s1, s2⟩ := s
      simp only [] at c1 c2 i1 i2 HJ
      clear hin
      obtain ⟨x1, HX1, hx1, HI1⟩ := rdig_is s1 (by omega) (by omega)
      obtain ⟨x2, HX2, hx2, HI2⟩ := rdig_is (s2 - 1) (by omega) (by omega)
      rw [← HX1.out, ← HX2.out] at HJ
      clear HX1 HX2
      by_cases hk0 : k = 0
      · subst hk0
        rw [if_pos rfl] at HJ
        simp only [Nat.zero_mul, Nat.add_zero] at c1 c2
        have hz : (o ++ x1 ++ (⟨#[45]⟩ : ByteArray) ++ x2).size ≤ 6 + 44 * l.length := by rw [← HJ.out]; exact HSz.out
        have hz1 : (o ++ x1).size = o.size + x1.size := ByteArray.size_append
        have hz2 : (o ++ x1 ++ (⟨#[45]⟩ : ByteArray)).size = o.size + x1.size + 1 := by rw [ByteArray.size_append, ByteArray.size_append]; rfl
        clear HSz
        go_wp2
        refine wp_region_later (by kernel_rfl) (by kernel_rfl) ?_
        repeat (first | go_big_quiet_step ((go_at_call 71; first | with_reducible exact quietE (HI1.out _) | with_reducible exact quietE (HI2.out _))) | quiet_step ((go_at_call 71; first | with_reducible exact quietE (HI1.out _) | with_reducible exact quietE (HI2.out _))))
        refine wpQuiet_nil ?_
        rintro _ ⟨xq, rfl⟩
        go_wp2
        go_roundw
        case rel => exact ⟨0 + 1, o ++ x1 ++ (⟨#[45]⟩ : ByteArray) ++ x2, by omega, by go_num, rfl, hz, Lib.hid HJ.out.symm, Lib.hid (by (repeat (first | with_reducible exact HX.out | with_reducible exact Ext.refl _ | with_reducible refine Ext.drew ?_ | with_reducible refine Ext.drewN ?_ _ | with_reducible refine Ext.alloc ?_ _ | with_reducible refine Ext.onto ?_ _ | (with_reducible refine Ext.setCells ?_ ?_ _ _; rotate_left; focus (first | omega | (simp; done) | (simp; omega))) | (with_reducible refine Ext.setCell ?_ ?_ _; rotate_left; focus (first | omega | (simp; done) | (simp; omega))))))⟩
        case measure => simp [intOf]; omega
      · rw [if_neg hk0] at HJ
        have hz : (o ++ (⟨#[44]⟩ : ByteArray) ++ x1 ++ (⟨#[45]⟩ : ByteArray) ++ x2).size ≤ 6 + 44 * l.length := by rw [← HJ.out]; exact HSz.out
        have hz0 : (o ++ (⟨#[44]⟩ : ByteArray)).size = o.size + 1 := by rw [ByteArray.size_append]; rfl
        clear HSz
        go_wp2
        generalize o ++ (⟨#[44]⟩ : ByteArray) = o1 at *
        have hz1 : (o1 ++ x1).size = o1.size + x1.size := ByteArray.size_append
        have hz2 : (o1 ++ x1 ++ (⟨#[45]⟩ : ByteArray)).size = o1.size + x1.size + 1 := by rw [ByteArray.size_append, hz1]; rfl
        refine wp_region_later (by kernel_rfl) (by kernel_rfl) ?_
        repeat (first | go_big_quiet_step ((go_at_call 71; first | with_reducible exact quietE (HI1.out _) | with_reducible exact quietE (HI2.out _))) | quiet_step ((go_at_call 71; first | with_reducible exact quietE (HI1.out _) | with_reducible exact quietE (HI2.out _))))
        refine wpQuiet_nil ?_
        rintro _ ⟨xq, rfl⟩
        go_wp2
        go_roundw
        case rel => exact ⟨k + 1, o1 ++ x1 ++ (⟨#[45]⟩ : ByteArray) ++ x2, by omega, by go_num, rfl, hz, Lib.hid HJ.out.symm, Lib.hid (by (repeat (first | with_reducible exact HX.out | with_reducible exact Ext.refl _ | with_reducible refine Ext.drew ?_ | with_reducible refine Ext.drewN ?_ _ | with_reducible refine Ext.alloc ?_ _ | with_reducible refine Ext.onto ?_ _ | (with_reducible refine Ext.setCells ?_ ?_ _ _; rotate_left; focus (first | omega | (simp; done) | (simp; omega))) | (with_reducible refine Ext.setCell ?_ ?_ _; rotate_left; focus (first | omega | (simp; done) | (simp; omega))))))⟩
        case measure => simp [intOf]; omega
    · have e : k = l.length := by omega
      have ho := HO.out
      rw [e, List.take_length] at ho
      have HFin : Hid (o = pb) := Lib.hid (ho.trans HE.out.symm)
      go_wp2
      go_ret
      exact ⟨by show Ending.returned (.string _) = _; rw [HFin.out], (by (repeat (first | with_reducible exact HX.out | with_reducible exact Ext.refl _ | with_reducible refine Ext.drew ?_ | with_reducible refine Ext.drewN ?_ _ | with_reducible refine Ext.alloc ?_ _ | with_reducible refine Ext.onto ?_ _ | (with_reducible refine Ext.setCells ?_ ?_ _ _; rotate_left; focus (first | omega | (simp; done) | (simp; omega))) | (with_reducible refine Ext.setCell ?_ ?_ _; rotate_left; focus (first | omega | (simp; done) | (simp; omega))))))⟩
end Go.Proofs.YthhblgjbgjceiaaGreatDoor
