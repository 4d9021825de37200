/- law 07: sanity, walked. -/
import Derived.Test.YthhblgjbgjceiaaGreatDoorProg
import Derived.Test.YthhblgjbgjceiaaGreatDoorExt
import Derived.WalkKit
import Derived.WalkSpells
import Derived.WalkLawsBesides
import Derived.Deep.QuietTactic
import Derived.BigQuiet
import Derived.Test.YthhblgjbgjceiaaGreatDoorRq
import Derived.Test.YthhblgjbgjceiaaGreatDoorPr
import Derived.Test.YthhblgjbgjceiaaGreatDoorRc
set_option linter.unusedVariables false
set_option linter.unusedSimpArgs false
namespace Go.Proofs.YthhblgjbgjceiaaGreatDoor
open Go.RowKit Go.Shelf
open Go.Proofs
open Go.Proofs.Sp (Sp)

theorem lit_reads {w : World} {b : Nat} {l : List Sp} {cs : Array Value} (hb : b = w.heap.size) (hc : cs = (l.flatMap encSp).toArray) : ReadsSp (w.alloc (.cells cs 52)) (w.alloc (.cells cs 52)).heap.size (some ⟨b, 0, none⟩) l := by
  subst hb hc
  intro h0
  refine ⟨w.heap.size, 0, rfl, by simp, fun i hi j v hv => ?_⟩
  have hj : j < 2 := by
    have := (List.getElem?_eq_some_iff.1 hv).1
    simpa [encSp] using this
  rw [alloc_cell_if, if_pos rfl]
  show (l.flatMap encSp).toArray[0 + i * 2 + j]? = some v
  rw [List.getElem?_toArray, Nat.zero_add, spE.flat_get l i hi j hj]
  exact hv
theorem of_is {l o c : List Sp} (h : ∃ srt, SortedOf l srt ∧ o = Sp.joined srt) (hc : Rp.unionN l = c) : o = c := by
  obtain ⟨k1, k2⟩ := of_set h
  rw [← hc]
  exact Rp.union_alike k1 k2
theorem bdSp_all {l : List Sp} (h : (l.all fun s => decide (-4611686018427387904 ≤ s.1) && decide (s.1 ≤ 4611686018427387903)) = true) : bdSp l := fun s hs => by
  have := List.all_eq_true.1 h s hs
  simpa using this
theorem print07 : printB [(0, 2), (7, 10)] = ⟨#[98, 121, 116, 101, 115, 61, 48, 45, 49, 44, 55, 45, 57]⟩ := by
  have e0 : Lib.itoa 0 = [48] := by show Lib.decDigits 0 = [48]; rw [Lib.decDigits_one (by decide)]; rfl
  have e1 : Lib.itoa 1 = [49] := by show Lib.decDigits 1 = [49]; rw [Lib.decDigits_one (by decide)]; rfl
  have e7 : Lib.itoa 7 = [55] := by show Lib.decDigits 7 = [55]; rw [Lib.decDigits_one (by decide)]; rfl
  have e9 : Lib.itoa 9 = [57] := by show Lib.decDigits 9 = [57]; rw [Lib.decDigits_one (by decide)]; rfl
  have p1 : partB (0, 2) = ⟨#[48, 45, 49]⟩ := by
    show (⟨(Lib.itoa 0).toArray⟩ : ByteArray) ++ (⟨#[45]⟩ : ByteArray) ++ (⟨(Lib.itoa 1).toArray⟩ : ByteArray) = _
    rw [e0, e1]; rfl
  have p2 : partB (7, 10) = ⟨#[55, 45, 57]⟩ := by
    show (⟨(Lib.itoa 7).toArray⟩ : ByteArray) ++ (⟨#[45]⟩ : ByteArray) ++ (⟨(Lib.itoa 9).toArray⟩ : ByteArray) = _
    rw [e7, e9]; rfl
  unfold printB
  rw [if_neg (by simp), List.map_cons, List.map_cons, List.map_nil, p1, p2]
  rfl
theorem parse07a : Rp.parseN 10 [98, 121, 116, 101, 115, 61, 48, 45, 49, 44, 55, 45, 44, 45, 50] = ([(0, 2), (7, 10)], 0) := by decide +kernel
theorem parse07b : Rp.parseN 10 [98, 121, 116, 101, 115, 61, 49, 48, 45] = ([], 70) := by decide +kernel
theorem parse07c : Rp.parseN 10 [98, 121, 116, 101, 115, 61, 51, 45, 50] = ([], 3) := by decide +kernel
set_option maxRecDepth 100000 in
set_option maxHeartbeats 4000000 in
theorem sanity7_ok (m : Int) (w : World) (hm : w.cell? ⟨0, 0, none⟩ = some (.int .i64 m)) (hp : Pow10 w) :
    Calls Tryz.prog 23 #[] w fun e w' => e = .returned (.bool true) ∧ Ext w w' := by
  have HM := Lib.hid hm
  have HP := Lib.hid hp
  have HSL : Hid (SetIn [(0, 4), (5, 9)] 1099511627776) := Lib.hid (setB_set (by decide))
  have HSM : Hid (SetIn [(2, 3), (8, 20)] 1099511627776) := Lib.hid (setB_set (by decide))
  have hmlt : 0 < w.heap.size := cell_lt hm
  clear hm hp
  go_enter Tryz.func23, Tryz.ntmps23
  go_wp2_with (first
    | (go_at_call 33; refine (show Hid _ from ?_).out)
    | (go_at_call 26; refine (show Hid _ from ?_).out)
    | (go_at_call 35; refine (show Hid _ from ?_).out)
    | (go_at_call 38; refine (show Hid _ from ?_).out)
    | (go_at_call 31; refine (show Hid _ from ?_).out)
    | (go_at_call 37; refine (show Hid _ from ?_).out)
    | (go_at_call 24; refine (show Hid _ from ?_).out)
    | (go_at_call 28; refine (show Hid _ from ?_).out))
  refine Lib.hid ?_
  refine (of_any (some ⟨w.heap.size, 0, none⟩) 4 [(5, 9), (0, 3), (3, 4), (7, 7)] _ (bdSp_all (by decide)) (by decide) (lit_reads rfl rfl)).mono ?_
  rintro e w1 ⟨A1, c1, o1, rfl, HS1, _, ho1, hx1⟩
  obtain rfl := of_is (c := [(0, 4), (5, 9)]) HS1.out (by decide)
  have HX1 : Hid (Ext w w1) := Lib.hid (((Ext.refl w).alloc _).trans hx1)
  have HO1 := Lib.hid ho1
  clear HS1 hx1 ho1
  -- Same
  go_wp2_with (first
    | (go_at_call 33; refine (show Hid _ from ?_).out)
    | (go_at_call 26; refine (show Hid _ from ?_).out)
    | (go_at_call 35; refine (show Hid _ from ?_).out)
    | (go_at_call 38; refine (show Hid _ from ?_).out)
    | (go_at_call 31; refine (show Hid _ from ?_).out)
    | (go_at_call 37; refine (show Hid _ from ?_).out)
    | (go_at_call 24; refine (show Hid _ from ?_).out)
    | (go_at_call 28; refine (show Hid _ from ?_).out))
  refine Lib.hid ?_
  refine (rsame_any A1 (some ⟨w1.heap.size, 0, none⟩) c1 2 [(0, 4), (5, 9)] _ (by decide) ((HO1.out.ext (by (repeat (first | with_reducible exact Ext.refl _ | with_reducible exact Ext.refl _ | with_reducible refine Ext.drew ?_ | with_reducible refine Ext.drewN ?_ _ | with_reducible refine Ext.alloc ?_ _ | with_reducible refine Ext.onto ?_ _ | (with_reducible refine Ext.setCells ?_ ?_ _ _; rotate_left; focus (first | omega | (simp; done) | (simp; omega))) | (with_reducible refine Ext.setCell ?_ ?_ _; rotate_left; focus (first | omega | (simp; done) | (simp; omega))))))).reads spE) (lit_reads rfl rfl)).mono ?_
  rintro e w' ⟨rfl, hxl⟩; obtain ⟨xa, rfl⟩ := hxl.asLater; clear hxl
  go_wp2_with (first
    | (go_at_call 33; refine (show Hid _ from ?_).out)
    | (go_at_call 26; refine (show Hid _ from ?_).out)
    | (go_at_call 35; refine (show Hid _ from ?_).out)
    | (go_at_call 38; refine (show Hid _ from ?_).out)
    | (go_at_call 31; refine (show Hid _ from ?_).out)
    | (go_at_call 37; refine (show Hid _ from ?_).out)
    | (go_at_call 24; refine (show Hid _ from ?_).out)
    | (go_at_call 28; refine (show Hid _ from ?_).out))
  refine Lib.hid ?_
  refine (add_any A1 c1 [(0, 4), (5, 9)] (4, 5) _ (OwnsSp.plain HO1.out) (bdSp_all (by decide)) (by decide) ((HO1.out.ext (by (repeat (first | with_reducible exact Ext.refl _ | with_reducible exact Ext.refl _ | with_reducible refine Ext.drew ?_ | with_reducible refine Ext.drewN ?_ _ | with_reducible refine Ext.alloc ?_ _ | with_reducible refine Ext.onto ?_ _ | (with_reducible refine Ext.setCells ?_ ?_ _ _; rotate_left; focus (first | omega | (simp; done) | (simp; omega))) | (with_reducible refine Ext.setCell ?_ ?_ _; rotate_left; focus (first | omega | (simp; done) | (simp; omega))))))).reads spE)).mono ?_
  rintro e w2 ⟨A2, c2, o2, rfl, HS2, _, ho2, hx2⟩
  obtain rfl := of_is (c := [(0, 9)]) HS2.out (by decide)
  have HX2 : Hid (Ext w1 w2) := Lib.hid ((show Ext w1 _ from (by (repeat (first | with_reducible exact Ext.refl _ | with_reducible exact Ext.refl _ | with_reducible refine Ext.drew ?_ | with_reducible refine Ext.drewN ?_ _ | with_reducible refine Ext.alloc ?_ _ | with_reducible refine Ext.onto ?_ _ | (with_reducible refine Ext.setCells ?_ ?_ _ _; rotate_left; focus (first | omega | (simp; done) | (simp; omega))) | (with_reducible refine Ext.setCell ?_ ?_ _; rotate_left; focus (first | omega | (simp; done) | (simp; omega))))))).trans hx2)
  have HO2 := Lib.hid ho2
  clear HS2 hx2 ho2
  go_wp2_with (first
    | (go_at_call 33; refine (show Hid _ from ?_).out)
    | (go_at_call 26; refine (show Hid _ from ?_).out)
    | (go_at_call 35; refine (show Hid _ from ?_).out)
    | (go_at_call 38; refine (show Hid _ from ?_).out)
    | (go_at_call 31; refine (show Hid _ from ?_).out)
    | (go_at_call 37; refine (show Hid _ from ?_).out)
    | (go_at_call 24; refine (show Hid _ from ?_).out)
    | (go_at_call 28; refine (show Hid _ from ?_).out))
  refine Lib.hid ?_
  refine (rsame_any A2 (some ⟨w2.heap.size, 0, none⟩) c2 1 [(0, 9)] _ (by decide) ((HO2.out.ext (by (repeat (first | with_reducible exact Ext.refl _ | with_reducible exact Ext.refl _ | with_reducible refine Ext.drew ?_ | with_reducible refine Ext.drewN ?_ _ | with_reducible refine Ext.alloc ?_ _ | with_reducible refine Ext.onto ?_ _ | (with_reducible refine Ext.setCells ?_ ?_ _ _; rotate_left; focus (first | omega | (simp; done) | (simp; omega))) | (with_reducible refine Ext.setCell ?_ ?_ _; rotate_left; focus (first | omega | (simp; done) | (simp; omega))))))).reads spE) (lit_reads rfl rfl)).mono ?_
  rintro e w' ⟨rfl, hxl⟩; obtain ⟨xb, rfl⟩ := hxl.asLater; clear hxl
  go_wp2_with (first
    | (go_at_call 33; refine (show Hid _ from ?_).out)
    | (go_at_call 26; refine (show Hid _ from ?_).out)
    | (go_at_call 35; refine (show Hid _ from ?_).out)
    | (go_at_call 38; refine (show Hid _ from ?_).out)
    | (go_at_call 31; refine (show Hid _ from ?_).out)
    | (go_at_call 37; refine (show Hid _ from ?_).out)
    | (go_at_call 24; refine (show Hid _ from ?_).out)
    | (go_at_call 28; refine (show Hid _ from ?_).out))
  refine Lib.hid ?_
  refine (minus_any A1 c1 [(0, 4), (5, 9)] _ 2 [(2, 3), (8, 20)] _ HSL.out.1 HSM.out.1 (HSL.out.bd2 (by omega)) (HSM.out.bd2 (by omega)) (by decide) ((HO1.out.ext (HX2.out.trans (by (repeat (first | with_reducible exact Ext.refl _ | with_reducible exact Ext.refl _ | with_reducible refine Ext.drew ?_ | with_reducible refine Ext.drewN ?_ _ | with_reducible refine Ext.alloc ?_ _ | with_reducible refine Ext.onto ?_ _ | (with_reducible refine Ext.setCells ?_ ?_ _ _; rotate_left; focus (first | omega | (simp; done) | (simp; omega))) | (with_reducible refine Ext.setCell ?_ ?_ _; rotate_left; focus (first | omega | (simp; done) | (simp; omega)))))))).reads spE) (lit_reads (by simp [later_size]) rfl) (Owns.none0 HO1.out) (fun h => by cases h)).mono ?_
  rintro e w3 ⟨A3, c3, o3, rfl, HS3, _, ho3, hx3⟩
  obtain rfl : o3 = [(0, 2), (3, 4), (5, 8)] := (setOf_uniq HS3.out (Sp.rMinus_spec _ HSL.out.1)).trans (by decide)
  have HX3 : Hid (Ext w1 w3) := Lib.hid ((HX2.out.trans (show Ext w2 _ from (by (repeat (first | with_reducible exact Ext.refl _ | with_reducible exact Ext.refl _ | with_reducible refine Ext.drew ?_ | with_reducible refine Ext.drewN ?_ _ | with_reducible refine Ext.alloc ?_ _ | with_reducible refine Ext.onto ?_ _ | (with_reducible refine Ext.setCells ?_ ?_ _ _; rotate_left; focus (first | omega | (simp; done) | (simp; omega))) | (with_reducible refine Ext.setCell ?_ ?_ _; rotate_left; focus (first | omega | (simp; done) | (simp; omega)))))))).trans hx3)
  have HO3 := Lib.hid ho3
  clear HS3 hx3 ho3
  go_wp2_with (first
    | (go_at_call 33; refine (show Hid _ from ?_).out)
    | (go_at_call 26; refine (show Hid _ from ?_).out)
    | (go_at_call 35; refine (show Hid _ from ?_).out)
    | (go_at_call 38; refine (show Hid _ from ?_).out)
    | (go_at_call 31; refine (show Hid _ from ?_).out)
    | (go_at_call 37; refine (show Hid _ from ?_).out)
    | (go_at_call 24; refine (show Hid _ from ?_).out)
    | (go_at_call 28; refine (show Hid _ from ?_).out))
  refine Lib.hid ?_
  refine (rsame_any A3 _ c3 3 [(0, 2), (3, 4), (5, 8)] _ (by decide) ((HO3.out.ext (by (repeat (first | with_reducible exact Ext.refl _ | with_reducible exact Ext.refl _ | with_reducible refine Ext.drew ?_ | with_reducible refine Ext.drewN ?_ _ | with_reducible refine Ext.alloc ?_ _ | with_reducible refine Ext.onto ?_ _ | (with_reducible refine Ext.setCells ?_ ?_ _ _; rotate_left; focus (first | omega | (simp; done) | (simp; omega))) | (with_reducible refine Ext.setCell ?_ ?_ _; rotate_left; focus (first | omega | (simp; done) | (simp; omega))))))).reads spE) (lit_reads (by simp [later_size]) rfl)).mono ?_
  rintro e w' ⟨rfl, hxl⟩; obtain ⟨xc, rfl⟩ := hxl.asLater; clear hxl
  go_wp2_with (first
    | (go_at_call 33; refine (show Hid _ from ?_).out)
    | (go_at_call 26; refine (show Hid _ from ?_).out)
    | (go_at_call 35; refine (show Hid _ from ?_).out)
    | (go_at_call 38; refine (show Hid _ from ?_).out)
    | (go_at_call 31; refine (show Hid _ from ?_).out)
    | (go_at_call 37; refine (show Hid _ from ?_).out)
    | (go_at_call 24; refine (show Hid _ from ?_).out)
    | (go_at_call 28; refine (show Hid _ from ?_).out))
  refine Lib.hid ?_
  refine (missing_any A1 c1 [(0, 4), (5, 9)] (3, 12) _ HSL.out.1 (HSL.out.bd2 (by omega)) ⟨⟨by decide, by decide⟩, by decide, by decide⟩ (by decide) ((HO1.out.ext (HX3.out.trans (by (repeat (first | with_reducible exact Ext.refl _ | with_reducible exact Ext.refl _ | with_reducible refine Ext.drew ?_ | with_reducible refine Ext.drewN ?_ _ | with_reducible refine Ext.alloc ?_ _ | with_reducible refine Ext.onto ?_ _ | (with_reducible refine Ext.setCells ?_ ?_ _ _; rotate_left; focus (first | omega | (simp; done) | (simp; omega))) | (with_reducible refine Ext.setCell ?_ ?_ _; rotate_left; focus (first | omega | (simp; done) | (simp; omega)))))))).reads spE) (Owns.none0 HO1.out)).mono ?_
  rintro e w4 ⟨A4, c4, o4, rfl, HS4, _, ho4, hx4⟩
  obtain rfl : o4 = [(4, 5), (9, 12)] := (setOf_uniq HS4.out (rMissing_spec _ _)).trans (by decide)
  have HX4 : Hid (Ext w1 w4) := Lib.hid ((HX3.out.trans (show Ext w3 _ from (by (repeat (first | with_reducible exact Ext.refl _ | with_reducible exact Ext.refl _ | with_reducible refine Ext.drew ?_ | with_reducible refine Ext.drewN ?_ _ | with_reducible refine Ext.alloc ?_ _ | with_reducible refine Ext.onto ?_ _ | (with_reducible refine Ext.setCells ?_ ?_ _ _; rotate_left; focus (first | omega | (simp; done) | (simp; omega))) | (with_reducible refine Ext.setCell ?_ ?_ _; rotate_left; focus (first | omega | (simp; done) | (simp; omega)))))))).trans hx4)
  have HO4 := Lib.hid ho4
  clear HS4 hx4 ho4
  go_wp2_with (first
    | (go_at_call 33; refine (show Hid _ from ?_).out)
    | (go_at_call 26; refine (show Hid _ from ?_).out)
    | (go_at_call 35; refine (show Hid _ from ?_).out)
    | (go_at_call 38; refine (show Hid _ from ?_).out)
    | (go_at_call 31; refine (show Hid _ from ?_).out)
    | (go_at_call 37; refine (show Hid _ from ?_).out)
    | (go_at_call 24; refine (show Hid _ from ?_).out)
    | (go_at_call 28; refine (show Hid _ from ?_).out))
  refine Lib.hid ?_
  refine (rsame_any A4 _ c4 2 [(4, 5), (9, 12)] _ (by decide) ((HO4.out.ext (by (repeat (first | with_reducible exact Ext.refl _ | with_reducible exact Ext.refl _ | with_reducible refine Ext.drew ?_ | with_reducible refine Ext.drewN ?_ _ | with_reducible refine Ext.alloc ?_ _ | with_reducible refine Ext.onto ?_ _ | (with_reducible refine Ext.setCells ?_ ?_ _ _; rotate_left; focus (first | omega | (simp; done) | (simp; omega))) | (with_reducible refine Ext.setCell ?_ ?_ _; rotate_left; focus (first | omega | (simp; done) | (simp; omega))))))).reads spE) (lit_reads (by simp [later_size]) rfl)).mono ?_
  rintro e w' ⟨rfl, hxl⟩; obtain ⟨xd, rfl⟩ := hxl.asLater; clear hxl
  go_wp2_with (first
    | (go_at_call 33; refine (show Hid _ from ?_).out)
    | (go_at_call 26; refine (show Hid _ from ?_).out)
    | (go_at_call 35; refine (show Hid _ from ?_).out)
    | (go_at_call 38; refine (show Hid _ from ?_).out)
    | (go_at_call 31; refine (show Hid _ from ?_).out)
    | (go_at_call 37; refine (show Hid _ from ?_).out)
    | (go_at_call 24; refine (show Hid _ from ?_).out)
    | (go_at_call 28; refine (show Hid _ from ?_).out))
  refine Lib.hid ?_
  refine (total_any A1 c1 [(0, 4), (5, 9)] _ HSL.out (by decide) ((HO1.out.ext (HX4.out.trans (by (repeat (first | with_reducible exact Ext.refl _ | with_reducible exact Ext.refl _ | with_reducible refine Ext.drew ?_ | with_reducible refine Ext.drewN ?_ _ | with_reducible refine Ext.alloc ?_ _ | with_reducible refine Ext.onto ?_ _ | (with_reducible refine Ext.setCells ?_ ?_ _ _; rotate_left; focus (first | omega | (simp; done) | (simp; omega))) | (with_reducible refine Ext.setCell ?_ ?_ _; rotate_left; focus (first | omega | (simp; done) | (simp; omega)))))))).reads spE)).mono ?_
  rw [show totN [(0, 4), (5, 9)] = 8 by decide]
  rintro e w' ⟨rfl, hxl⟩; obtain ⟨xe, rfl⟩ := hxl.asLater; clear hxl
  go_wp2_with (first
    | (go_at_call 33; refine (show Hid _ from ?_).out)
    | (go_at_call 26; refine (show Hid _ from ?_).out)
    | (go_at_call 35; refine (show Hid _ from ?_).out)
    | (go_at_call 38; refine (show Hid _ from ?_).out)
    | (go_at_call 31; refine (show Hid _ from ?_).out)
    | (go_at_call 37; refine (show Hid _ from ?_).out)
    | (go_at_call 24; refine (show Hid _ from ?_).out)
    | (go_at_call 28; refine (show Hid _ from ?_).out))
  refine Lib.hid ?_
  refine (parse_any _ 10 m _ ((Ext.cell (p := ⟨0, 0, none⟩) ((HX1.out.trans HX4.out).trans (by (repeat (first | with_reducible exact Ext.refl _ | with_reducible exact Ext.refl _ | with_reducible refine Ext.drew ?_ | with_reducible refine Ext.drewN ?_ _ | with_reducible refine Ext.alloc ?_ _ | with_reducible refine Ext.onto ?_ _ | (with_reducible refine Ext.setCells ?_ ?_ _ _; rotate_left; focus (first | omega | (simp; done) | (simp; omega))) | (with_reducible refine Ext.setCell ?_ ?_ _; rotate_left; focus (first | omega | (simp; done) | (simp; omega))))))) hmlt).trans HM.out) _ _ parse07a).mono ?_
  rintro e w5 ⟨A5, c5, rfl, ho5, hx5⟩
  have HX5 : Hid (Ext w w5) := Lib.hid (((HX1.out.trans HX4.out).trans (show Ext w4 _ from (by (repeat (first | with_reducible exact Ext.refl _ | with_reducible exact Ext.refl _ | with_reducible refine Ext.drew ?_ | with_reducible refine Ext.drewN ?_ _ | with_reducible refine Ext.alloc ?_ _ | with_reducible refine Ext.onto ?_ _ | (with_reducible refine Ext.setCells ?_ ?_ _ _; rotate_left; focus (first | omega | (simp; done) | (simp; omega))) | (with_reducible refine Ext.setCell ?_ ?_ _; rotate_left; focus (first | omega | (simp; done) | (simp; omega)))))))).trans hx5)
  have HO5 := Lib.hid ho5
  clear hx5 ho5
  go_wp2_with (first
    | (go_at_call 33; refine (show Hid _ from ?_).out)
    | (go_at_call 26; refine (show Hid _ from ?_).out)
    | (go_at_call 35; refine (show Hid _ from ?_).out)
    | (go_at_call 38; refine (show Hid _ from ?_).out)
    | (go_at_call 31; refine (show Hid _ from ?_).out)
    | (go_at_call 37; refine (show Hid _ from ?_).out)
    | (go_at_call 24; refine (show Hid _ from ?_).out)
    | (go_at_call 28; refine (show Hid _ from ?_).out))
  refine Lib.hid ?_
  refine (parse_any _ 10 m _ ((Ext.cell (p := ⟨0, 0, none⟩) (HX5.out.trans (by (repeat (first | with_reducible exact Ext.refl _ | with_reducible exact Ext.refl _ | with_reducible refine Ext.drew ?_ | with_reducible refine Ext.drewN ?_ _ | with_reducible refine Ext.alloc ?_ _ | with_reducible refine Ext.onto ?_ _ | (with_reducible refine Ext.setCells ?_ ?_ _ _; rotate_left; focus (first | omega | (simp; done) | (simp; omega))) | (with_reducible refine Ext.setCell ?_ ?_ _; rotate_left; focus (first | omega | (simp; done) | (simp; omega))))))) hmlt).trans HM.out) _ _ parse07b).mono ?_
  rintro e w' ⟨A6, c6, rfl, _, hxl⟩; obtain ⟨xf, rfl⟩ := hxl.asLater; clear hxl
  go_wp2_with (first
    | (go_at_call 33; refine (show Hid _ from ?_).out)
    | (go_at_call 26; refine (show Hid _ from ?_).out)
    | (go_at_call 35; refine (show Hid _ from ?_).out)
    | (go_at_call 38; refine (show Hid _ from ?_).out)
    | (go_at_call 31; refine (show Hid _ from ?_).out)
    | (go_at_call 37; refine (show Hid _ from ?_).out)
    | (go_at_call 24; refine (show Hid _ from ?_).out)
    | (go_at_call 28; refine (show Hid _ from ?_).out))
  refine Lib.hid ?_
  refine (parse_any _ 10 m _ ((Ext.cell (p := ⟨0, 0, none⟩) (HX5.out.trans (by (repeat (first | with_reducible exact Ext.refl _ | with_reducible exact Ext.refl _ | with_reducible refine Ext.drew ?_ | with_reducible refine Ext.drewN ?_ _ | with_reducible refine Ext.alloc ?_ _ | with_reducible refine Ext.onto ?_ _ | (with_reducible refine Ext.setCells ?_ ?_ _ _; rotate_left; focus (first | omega | (simp; done) | (simp; omega))) | (with_reducible refine Ext.setCell ?_ ?_ _; rotate_left; focus (first | omega | (simp; done) | (simp; omega))))))) hmlt).trans HM.out) _ _ parse07c).mono ?_
  rintro e w' ⟨A7, c7, rfl, _, hxl⟩; obtain ⟨xg, rfl⟩ := hxl.asLater; clear hxl
  go_wp2_with (first
    | (go_at_call 33; refine (show Hid _ from ?_).out)
    | (go_at_call 26; refine (show Hid _ from ?_).out)
    | (go_at_call 35; refine (show Hid _ from ?_).out)
    | (go_at_call 38; refine (show Hid _ from ?_).out)
    | (go_at_call 31; refine (show Hid _ from ?_).out)
    | (go_at_call 37; refine (show Hid _ from ?_).out)
    | (go_at_call 24; refine (show Hid _ from ?_).out)
    | (go_at_call 28; refine (show Hid _ from ?_).out))
  refine Lib.hid ?_
  refine (rsame_any A5 _ c5 2 [(0, 2), (7, 10)] _ (by decide) ((HO5.out.ext (by (repeat (first | with_reducible exact Ext.refl _ | with_reducible exact Ext.refl _ | with_reducible refine Ext.drew ?_ | with_reducible refine Ext.drewN ?_ _ | with_reducible refine Ext.alloc ?_ _ | with_reducible refine Ext.onto ?_ _ | (with_reducible refine Ext.setCells ?_ ?_ _ _; rotate_left; focus (first | omega | (simp; done) | (simp; omega))) | (with_reducible refine Ext.setCell ?_ ?_ _; rotate_left; focus (first | omega | (simp; done) | (simp; omega))))))).reads spE) (lit_reads (by simp [later_size]) rfl)).mono ?_
  rintro e w' ⟨rfl, hxl⟩; obtain ⟨xh, rfl⟩ := hxl.asLater; clear hxl
  go_wp2_with (first
    | (go_at_call 33; refine (show Hid _ from ?_).out)
    | (go_at_call 26; refine (show Hid _ from ?_).out)
    | (go_at_call 35; refine (show Hid _ from ?_).out)
    | (go_at_call 38; refine (show Hid _ from ?_).out)
    | (go_at_call 31; refine (show Hid _ from ?_).out)
    | (go_at_call 37; refine (show Hid _ from ?_).out)
    | (go_at_call 24; refine (show Hid _ from ?_).out)
    | (go_at_call 28; refine (show Hid _ from ?_).out))
  refine Lib.hid ?_
  refine (print_any A5 c5 [(0, 2), (7, 10)] _ (setB_set (by decide)) (by decide) ((HO5.out.ext (by (repeat (first | with_reducible exact Ext.refl _ | with_reducible exact Ext.refl _ | with_reducible refine Ext.drew ?_ | with_reducible refine Ext.drewN ?_ _ | with_reducible refine Ext.alloc ?_ _ | with_reducible refine Ext.onto ?_ _ | (with_reducible refine Ext.setCells ?_ ?_ _ _; rotate_left; focus (first | omega | (simp; done) | (simp; omega))) | (with_reducible refine Ext.setCell ?_ ?_ _; rotate_left; focus (first | omega | (simp; done) | (simp; omega))))))).reads spE) (HP.out.ext (HX5.out.trans (by (repeat (first | with_reducible exact Ext.refl _ | with_reducible exact Ext.refl _ | with_reducible refine Ext.drew ?_ | with_reducible refine Ext.drewN ?_ _ | with_reducible refine Ext.alloc ?_ _ | with_reducible refine Ext.onto ?_ _ | (with_reducible refine Ext.setCells ?_ ?_ _ _; rotate_left; focus (first | omega | (simp; done) | (simp; omega))) | (with_reducible refine Ext.setCell ?_ ?_ _; rotate_left; focus (first | omega | (simp; done) | (simp; omega))))))))).mono ?_
  rw [print07]
  rintro e w' ⟨rfl, hxl⟩; obtain ⟨xi, rfl⟩ := hxl.asLater; clear hxl
  go_wp2
  go_ret
  exact ⟨rfl, (by (repeat (first | with_reducible exact HX5.out | with_reducible exact Ext.refl _ | with_reducible refine Ext.drew ?_ | with_reducible refine Ext.drewN ?_ _ | with_reducible refine Ext.alloc ?_ _ | with_reducible refine Ext.onto ?_ _ | (with_reducible refine Ext.setCells ?_ ?_ _ _; rotate_left; focus (first | omega | (simp; done) | (simp; omega))) | (with_reducible refine Ext.setCell ?_ ?_ _; rotate_left; focus (first | omega | (simp; done) | (simp; omega))))))⟩
end Go.Proofs.YthhblgjbgjceiaaGreatDoor
