/- Walk of law 07: RangesComputeAsSpecified. -/
import Derived.Test.YthhblgjbgjceiaaGreatDoorProg
import Derived.Test.YthhblgjbgjceiaaGreatDoorExt
import Derived.WalkKit
import Derived.WalkSpells
import Derived.WalkLawsBesides
import Derived.Deep.QuietTactic
import Derived.BigQuiet
import Derived.Test.YthhblgjbgjceiaaGreatDoorSa
import Derived.Test.YthhblgjbgjceiaaGreatDoorSb
set_option linter.unusedVariables false
set_option linter.unusedSimpArgs false
namespace Go.Proofs.YthhblgjbgjceiaaGreatDoor
open Go.RowKit Go.Shelf
open Go.Proofs
open Go.Proofs.Sp (Sp)

/-- What sanity asks of a world. -/
structure Lib7 (w : World) : Prop where
  m : ∃ m, w.cell? ⟨0, 0, none⟩ = some (.int .i64 m)
  p : Pow10 w
theorem Lib7.on {w w' : World} (h : Lib7 w) (hx : Ext w w') : Lib7 w' := by
  obtain ⟨m, hm⟩ := h.m
  exact ⟨⟨m, (Ext.cell (p := ⟨0, 0, none⟩) hx (cell_lt hm)).trans hm⟩, h.p.ext hx⟩
theorem san7 {w : World} (h : Lib7 w) : Hid (∀ W, Ext w W → Calls Tryz.prog 23 #[] W fun e w' => e = .returned (.bool true) ∧ Ext W w') := Lib.hid (fun W hx => by
  obtain ⟨m, hm⟩ := (h.on hx).m
  exact sanity7_ok m W hm (h.on hx).p)
def slSoft (l : List Sp) : Soft := ⟨fun v w => ∃ A c, v = .slice A l.length c ∧ SlIn A c l w, fun v w w' ⟨A, c, h1, h2⟩ hx => ⟨A, c, h1, h2.on hx⟩⟩
def softs (L : List Soft) (i : Nat) : Soft := L.getD i Soft.any
set_option maxRecDepth 100000 in
set_option maxHeartbeats 1000000 in
theorem compute_ok (A : Option Addr) (c : Nat) (a : List Sp) (B : Option Addr) (d : Nat) (b : List Sp) (s : Sp) (x : Int) (w : World) (hL : Lib7 w) (h1 : SlIn A c a w) (h2 : SlIn B d b w) :
    Calls Tryz.prog 8 #[.slice A a.length c, .slice B b.length d, .agg #[.int .i64 s.1, .int .i64 s.2], .int .i64 x] w fun e w' => e = .returned (.bool true) ∧ Ext w w' := by
  have HSan := san7 hL
  have H1 := Lib.hid h1
  have H2 := Lib.hid h2
  clear hL h1 h2
  by_cases hl1 : 40 < a.length
  · have HVA : Hid True := Lib.hid trivial
    have HVB : Hid True := Lib.hid trivial
    have HG : Hid True := Lib.hid trivial
    go_enter Tryz.func8, Tryz.ntmps8
    go_wp2_with (first
      | (go_at_call 27; first | (with_reducible refine (HVA.out _ (by (repeat (first | with_reducible exact Ext.refl _ | with_reducible exact Ext.refl _ | with_reducible refine Ext.drew ?_ | with_reducible refine Ext.drewN ?_ _ | with_reducible refine Ext.alloc ?_ _ | with_reducible refine Ext.onto ?_ _ | (with_reducible refine Ext.setCells ?_ ?_ _ _; rotate_left; focus (first | omega | (simp; done) | (simp; omega))) | (with_reducible refine Ext.setCell ?_ ?_ _; rotate_left; focus (first | omega | (simp; done) | (simp; omega))))))).mono ?_; rintro e w' ⟨rfl, hxl⟩; obtain ⟨xl, rfl⟩ := hxl.asLater; clear hxl) | (with_reducible refine (HVB.out _ (by (repeat (first | with_reducible exact Ext.refl _ | with_reducible exact Ext.refl _ | with_reducible refine Ext.drew ?_ | with_reducible refine Ext.drewN ?_ _ | with_reducible refine Ext.alloc ?_ _ | with_reducible refine Ext.onto ?_ _ | (with_reducible refine Ext.setCells ?_ ?_ _ _; rotate_left; focus (first | omega | (simp; done) | (simp; omega))) | (with_reducible refine Ext.setCell ?_ ?_ _; rotate_left; focus (first | omega | (simp; done) | (simp; omega))))))).mono ?_; rintro e w' ⟨rfl, hxl⟩; obtain ⟨xl, rfl⟩ := hxl.asLater; clear hxl))
      | (go_at_call 30; refine (HG.out _).mono ?_; rintro e w' ⟨rfl, hxl⟩; obtain ⟨xl, rfl⟩ := hxl.asLater; clear hxl)
      | (go_at_call 23; refine (HSan.out _ (by (repeat (first | with_reducible exact Ext.refl _ | with_reducible exact Ext.refl _ | with_reducible refine Ext.drew ?_ | with_reducible refine Ext.drewN ?_ _ | with_reducible refine Ext.alloc ?_ _ | with_reducible refine Ext.onto ?_ _ | (with_reducible refine Ext.setCells ?_ ?_ _ _; rotate_left; focus (first | omega | (simp; done) | (simp; omega))) | (with_reducible refine Ext.setCell ?_ ?_ _; rotate_left; focus (first | omega | (simp; done) | (simp; omega))))))).mono ?_; rintro e w' ⟨rfl, hxl⟩; obtain ⟨xl, rfl⟩ := hxl.asLater; clear hxl))
    go_ret
    exact ⟨rfl, (by (repeat (first | with_reducible exact Ext.refl _ | with_reducible exact Ext.refl _ | with_reducible refine Ext.drew ?_ | with_reducible refine Ext.drewN ?_ _ | with_reducible refine Ext.alloc ?_ _ | with_reducible refine Ext.onto ?_ _ | (with_reducible refine Ext.setCells ?_ ?_ _ _; rotate_left; focus (first | omega | (simp; done) | (simp; omega))) | (with_reducible refine Ext.setCell ?_ ?_ _; rotate_left; focus (first | omega | (simp; done) | (simp; omega))))))⟩
  by_cases hl2 : 40 < b.length
  · have HVA : Hid True := Lib.hid trivial
    have HVB : Hid True := Lib.hid trivial
    have HG : Hid True := Lib.hid trivial
    go_enter Tryz.func8, Tryz.ntmps8
    go_wp2_with (first
      | (go_at_call 27; first | (with_reducible refine (HVA.out _ (by (repeat (first | with_reducible exact Ext.refl _ | with_reducible exact Ext.refl _ | with_reducible refine Ext.drew ?_ | with_reducible refine Ext.drewN ?_ _ | with_reducible refine Ext.alloc ?_ _ | with_reducible refine Ext.onto ?_ _ | (with_reducible refine Ext.setCells ?_ ?_ _ _; rotate_left; focus (first | omega | (simp; done) | (simp; omega))) | (with_reducible refine Ext.setCell ?_ ?_ _; rotate_left; focus (first | omega | (simp; done) | (simp; omega))))))).mono ?_; rintro e w' ⟨rfl, hxl⟩; obtain ⟨xl, rfl⟩ := hxl.asLater; clear hxl) | (with_reducible refine (HVB.out _ (by (repeat (first | with_reducible exact Ext.refl _ | with_reducible exact Ext.refl _ | with_reducible refine Ext.drew ?_ | with_reducible refine Ext.drewN ?_ _ | with_reducible refine Ext.alloc ?_ _ | with_reducible refine Ext.onto ?_ _ | (with_reducible refine Ext.setCells ?_ ?_ _ _; rotate_left; focus (first | omega | (simp; done) | (simp; omega))) | (with_reducible refine Ext.setCell ?_ ?_ _; rotate_left; focus (first | omega | (simp; done) | (simp; omega))))))).mono ?_; rintro e w' ⟨rfl, hxl⟩; obtain ⟨xl, rfl⟩ := hxl.asLater; clear hxl))
      | (go_at_call 30; refine (HG.out _).mono ?_; rintro e w' ⟨rfl, hxl⟩; obtain ⟨xl, rfl⟩ := hxl.asLater; clear hxl)
      | (go_at_call 23; refine (HSan.out _ (by (repeat (first | with_reducible exact Ext.refl _ | with_reducible exact Ext.refl _ | with_reducible refine Ext.drew ?_ | with_reducible refine Ext.drewN ?_ _ | with_reducible refine Ext.alloc ?_ _ | with_reducible refine Ext.onto ?_ _ | (with_reducible refine Ext.setCells ?_ ?_ _ _; rotate_left; focus (first | omega | (simp; done) | (simp; omega))) | (with_reducible refine Ext.setCell ?_ ?_ _; rotate_left; focus (first | omega | (simp; done) | (simp; omega))))))).mono ?_; rintro e w' ⟨rfl, hxl⟩; obtain ⟨xl, rfl⟩ := hxl.asLater; clear hxl))
    go_ret
    exact ⟨rfl, (by (repeat (first | with_reducible exact Ext.refl _ | with_reducible exact Ext.refl _ | with_reducible refine Ext.drew ?_ | with_reducible refine Ext.drewN ?_ _ | with_reducible refine Ext.alloc ?_ _ | with_reducible refine Ext.onto ?_ _ | (with_reducible refine Ext.setCells ?_ ?_ _ _; rotate_left; focus (first | omega | (simp; done) | (simp; omega))) | (with_reducible refine Ext.setCell ?_ ?_ _; rotate_left; focus (first | omega | (simp; done) | (simp; omega))))))⟩
  obtain ⟨va, hva⟩ : ∃ v, setB a = v := ⟨_, rfl⟩
  obtain ⟨vb, hvb⟩ : ∃ v, setB b = v := ⟨_, rfl⟩
  obtain ⟨g, hg⟩ : ∃ v, goodB s = v := ⟨_, rfl⟩
  have HVA := Lib.hid (fun W (hx : Ext w W) => rvalid_is va hva (by omega) (H1.out.on hx))
  have HVB := Lib.hid (fun W (hx : Ext w W) => rvalid_is vb hvb (by omega) (H2.out.on hx))
  have HG := Lib.hid (fun W => rgood_is s g W hg)
  cases va with
  | false =>
    clear hva hvb hg
    go_enter Tryz.func8, Tryz.ntmps8
    go_wp2_with (first
      | (go_at_call 27; first | (with_reducible refine (HVA.out _ (by (repeat (first | with_reducible exact Ext.refl _ | with_reducible exact Ext.refl _ | with_reducible refine Ext.drew ?_ | with_reducible refine Ext.drewN ?_ _ | with_reducible refine Ext.alloc ?_ _ | with_reducible refine Ext.onto ?_ _ | (with_reducible refine Ext.setCells ?_ ?_ _ _; rotate_left; focus (first | omega | (simp; done) | (simp; omega))) | (with_reducible refine Ext.setCell ?_ ?_ _; rotate_left; focus (first | omega | (simp; done) | (simp; omega))))))).mono ?_; rintro e w' ⟨rfl, hxl⟩; obtain ⟨xl, rfl⟩ := hxl.asLater; clear hxl) | (with_reducible refine (HVB.out _ (by (repeat (first | with_reducible exact Ext.refl _ | with_reducible exact Ext.refl _ | with_reducible refine Ext.drew ?_ | with_reducible refine Ext.drewN ?_ _ | with_reducible refine Ext.alloc ?_ _ | with_reducible refine Ext.onto ?_ _ | (with_reducible refine Ext.setCells ?_ ?_ _ _; rotate_left; focus (first | omega | (simp; done) | (simp; omega))) | (with_reducible refine Ext.setCell ?_ ?_ _; rotate_left; focus (first | omega | (simp; done) | (simp; omega))))))).mono ?_; rintro e w' ⟨rfl, hxl⟩; obtain ⟨xl, rfl⟩ := hxl.asLater; clear hxl))
      | (go_at_call 30; refine (HG.out _).mono ?_; rintro e w' ⟨rfl, hxl⟩; obtain ⟨xl, rfl⟩ := hxl.asLater; clear hxl)
      | (go_at_call 23; refine (HSan.out _ (by (repeat (first | with_reducible exact Ext.refl _ | with_reducible exact Ext.refl _ | with_reducible refine Ext.drew ?_ | with_reducible refine Ext.drewN ?_ _ | with_reducible refine Ext.alloc ?_ _ | with_reducible refine Ext.onto ?_ _ | (with_reducible refine Ext.setCells ?_ ?_ _ _; rotate_left; focus (first | omega | (simp; done) | (simp; omega))) | (with_reducible refine Ext.setCell ?_ ?_ _; rotate_left; focus (first | omega | (simp; done) | (simp; omega))))))).mono ?_; rintro e w' ⟨rfl, hxl⟩; obtain ⟨xl, rfl⟩ := hxl.asLater; clear hxl))
    go_ret
    exact ⟨rfl, (by (repeat (first | with_reducible exact Ext.refl _ | with_reducible exact Ext.refl _ | with_reducible refine Ext.drew ?_ | with_reducible refine Ext.drewN ?_ _ | with_reducible refine Ext.alloc ?_ _ | with_reducible refine Ext.onto ?_ _ | (with_reducible refine Ext.setCells ?_ ?_ _ _; rotate_left; focus (first | omega | (simp; done) | (simp; omega))) | (with_reducible refine Ext.setCell ?_ ?_ _; rotate_left; focus (first | omega | (simp; done) | (simp; omega))))))⟩
  | true =>
    cases vb with
    | false =>
      clear hva hvb hg
      go_enter Tryz.func8, Tryz.ntmps8
      go_wp2_with (first
        | (go_at_call 27; first | (with_reducible refine (HVA.out _ (by (repeat (first | with_reducible exact Ext.refl _ | with_reducible exact Ext.refl _ | with_reducible refine Ext.drew ?_ | with_reducible refine Ext.drewN ?_ _ | with_reducible refine Ext.alloc ?_ _ | with_reducible refine Ext.onto ?_ _ | (with_reducible refine Ext.setCells ?_ ?_ _ _; rotate_left; focus (first | omega | (simp; done) | (simp; omega))) | (with_reducible refine Ext.setCell ?_ ?_ _; rotate_left; focus (first | omega | (simp; done) | (simp; omega))))))).mono ?_; rintro e w' ⟨rfl, hxl⟩; obtain ⟨xl, rfl⟩ := hxl.asLater; clear hxl) | (with_reducible refine (HVB.out _ (by (repeat (first | with_reducible exact Ext.refl _ | with_reducible exact Ext.refl _ | with_reducible refine Ext.drew ?_ | with_reducible refine Ext.drewN ?_ _ | with_reducible refine Ext.alloc ?_ _ | with_reducible refine Ext.onto ?_ _ | (with_reducible refine Ext.setCells ?_ ?_ _ _; rotate_left; focus (first | omega | (simp; done) | (simp; omega))) | (with_reducible refine Ext.setCell ?_ ?_ _; rotate_left; focus (first | omega | (simp; done) | (simp; omega))))))).mono ?_; rintro e w' ⟨rfl, hxl⟩; obtain ⟨xl, rfl⟩ := hxl.asLater; clear hxl))
        | (go_at_call 30; refine (HG.out _).mono ?_; rintro e w' ⟨rfl, hxl⟩; obtain ⟨xl, rfl⟩ := hxl.asLater; clear hxl)
        | (go_at_call 23; refine (HSan.out _ (by (repeat (first | with_reducible exact Ext.refl _ | with_reducible exact Ext.refl _ | with_reducible refine Ext.drew ?_ | with_reducible refine Ext.drewN ?_ _ | with_reducible refine Ext.alloc ?_ _ | with_reducible refine Ext.onto ?_ _ | (with_reducible refine Ext.setCells ?_ ?_ _ _; rotate_left; focus (first | omega | (simp; done) | (simp; omega))) | (with_reducible refine Ext.setCell ?_ ?_ _; rotate_left; focus (first | omega | (simp; done) | (simp; omega))))))).mono ?_; rintro e w' ⟨rfl, hxl⟩; obtain ⟨xl, rfl⟩ := hxl.asLater; clear hxl))
      go_ret
      exact ⟨rfl, (by (repeat (first | with_reducible exact Ext.refl _ | with_reducible exact Ext.refl _ | with_reducible refine Ext.drew ?_ | with_reducible refine Ext.drewN ?_ _ | with_reducible refine Ext.alloc ?_ _ | with_reducible refine Ext.onto ?_ _ | (with_reducible refine Ext.setCells ?_ ?_ _ _; rotate_left; focus (first | omega | (simp; done) | (simp; omega))) | (with_reducible refine Ext.setCell ?_ ?_ _; rotate_left; focus (first | omega | (simp; done) | (simp; omega))))))⟩
    | true =>
      cases g with
      | false =>
        clear hva hvb hg
        go_enter Tryz.func8, Tryz.ntmps8
        go_wp2_with (first
          | (go_at_call 27; first | (with_reducible refine (HVA.out _ (by (repeat (first | with_reducible exact Ext.refl _ | with_reducible exact Ext.refl _ | with_reducible refine Ext.drew ?_ | with_reducible refine Ext.drewN ?_ _ | with_reducible refine Ext.alloc ?_ _ | with_reducible refine Ext.onto ?_ _ | (with_reducible refine Ext.setCells ?_ ?_ _ _; rotate_left; focus (first | omega | (simp; done) | (simp; omega))) | (with_reducible refine Ext.setCell ?_ ?_ _; rotate_left; focus (first | omega | (simp; done) | (simp; omega))))))).mono ?_; rintro e w' ⟨rfl, hxl⟩; obtain ⟨xl, rfl⟩ := hxl.asLater; clear hxl) | (with_reducible refine (HVB.out _ (by (repeat (first | with_reducible exact Ext.refl _ | with_reducible exact Ext.refl _ | with_reducible refine Ext.drew ?_ | with_reducible refine Ext.drewN ?_ _ | with_reducible refine Ext.alloc ?_ _ | with_reducible refine Ext.onto ?_ _ | (with_reducible refine Ext.setCells ?_ ?_ _ _; rotate_left; focus (first | omega | (simp; done) | (simp; omega))) | (with_reducible refine Ext.setCell ?_ ?_ _; rotate_left; focus (first | omega | (simp; done) | (simp; omega))))))).mono ?_; rintro e w' ⟨rfl, hxl⟩; obtain ⟨xl, rfl⟩ := hxl.asLater; clear hxl))
          | (go_at_call 30; refine (HG.out _).mono ?_; rintro e w' ⟨rfl, hxl⟩; obtain ⟨xl, rfl⟩ := hxl.asLater; clear hxl)
          | (go_at_call 23; refine (HSan.out _ (by (repeat (first | with_reducible exact Ext.refl _ | with_reducible exact Ext.refl _ | with_reducible refine Ext.drew ?_ | with_reducible refine Ext.drewN ?_ _ | with_reducible refine Ext.alloc ?_ _ | with_reducible refine Ext.onto ?_ _ | (with_reducible refine Ext.setCells ?_ ?_ _ _; rotate_left; focus (first | omega | (simp; done) | (simp; omega))) | (with_reducible refine Ext.setCell ?_ ?_ _; rotate_left; focus (first | omega | (simp; done) | (simp; omega))))))).mono ?_; rintro e w' ⟨rfl, hxl⟩; obtain ⟨xl, rfl⟩ := hxl.asLater; clear hxl))
        go_ret
        exact ⟨rfl, (by (repeat (first | with_reducible exact Ext.refl _ | with_reducible exact Ext.refl _ | with_reducible refine Ext.drew ?_ | with_reducible refine Ext.drewN ?_ _ | with_reducible refine Ext.alloc ?_ _ | with_reducible refine Ext.onto ?_ _ | (with_reducible refine Ext.setCells ?_ ?_ _ _; rotate_left; focus (first | omega | (simp; done) | (simp; omega))) | (with_reducible refine Ext.setCell ?_ ?_ _; rotate_left; focus (first | omega | (simp; done) | (simp; omega))))))⟩
      | true =>
        have HA := Lib.hid (setB_set hva)
        have HB := Lib.hid (setB_set hvb)
        have HOk := Lib.hid (good_ok hg)
        have hq1 := len40 (rMinus_in2 (b := b) HA.out)
        have hq2 := len40 (rMeet_in (b := b) HA.out)
        have hq3 := len40 (rMissing_in (a := a) HOk.out)
        have HX0 : Hid (Ext w w) := Lib.hid (Ext.refl w)
        clear hva hvb hg
        go_enter Tryz.func8, Tryz.ntmps8
        go_wp2_with (first
          | (go_at_call 33; refine (show Hid _ from ?_).out)
          | (go_at_call 35; refine (show Hid _ from ?_).out)
          | (go_at_call 38; refine (show Hid _ from ?_).out)
          | (go_at_call 32; refine (show Hid _ from ?_).out)
          | (go_at_call 31; refine (show Hid _ from ?_).out)
          | (go_at_call 34; refine (show Hid _ from ?_).out)
          | (go_at_call 37; refine (show Hid _ from ?_).out)
          | (go_at_call 43; refine (show Hid _ from ?_).out)
          | (go_at_call 36; refine (show Hid _ from ?_).out)
          | (go_at_call 24; refine (show Hid _ from ?_).out)
          | (go_at_call 28; refine (show Hid _ from ?_).out)
          | (go_at_call 26; refine (show Hid _ from ?_).out)
          | (go_at_call 27; refine (show Hid _ from ?_).out)
          | (go_at_call 30; refine (show Hid _ from ?_).out)
          | (go_at_call 39; refine (show Hid _ from ?_).out)
          | (go_at_call 40; refine (show Hid _ from ?_).out)
          | (go_at_call 41; refine (show Hid _ from ?_).out)
          | (go_at_call 22; refine (show Hid _ from ?_).out)
          | (go_at_call 42; refine (show Hid _ from ?_).out)
          | (go_at_call 44; refine (show Hid _ from ?_).out)
          | (go_at_call 25; refine (show Hid _ from ?_).out)
          | (go_at_call 29; refine (show Hid _ from ?_).out)
          | (go_at_call 23; refine (show Hid _ from ?_).out))
        refine Lib.hid ?_
        refine (HVA.out _ (by (repeat (first | with_reducible exact Ext.refl _ | with_reducible exact Ext.refl _ | with_reducible refine Ext.drew ?_ | with_reducible refine Ext.drewN ?_ _ | with_reducible refine Ext.alloc ?_ _ | with_reducible refine Ext.onto ?_ _ | (with_reducible refine Ext.setCells ?_ ?_ _ _; rotate_left; focus (first | omega | (simp; done) | (simp; omega))) | (with_reducible refine Ext.setCell ?_ ?_ _; rotate_left; focus (first | omega | (simp; done) | (simp; omega))))))).mono ?_
        rintro e w' ⟨rfl, hxl⟩; obtain ⟨xa, rfl⟩ := hxl.asLater; clear hxl
        go_wp2_with (first
          | (go_at_call 33; refine (show Hid _ from ?_).out)
          | (go_at_call 35; refine (show Hid _ from ?_).out)
          | (go_at_call 38; refine (show Hid _ from ?_).out)
          | (go_at_call 32; refine (show Hid _ from ?_).out)
          | (go_at_call 31; refine (show Hid _ from ?_).out)
          | (go_at_call 34; refine (show Hid _ from ?_).out)
          | (go_at_call 37; refine (show Hid _ from ?_).out)
          | (go_at_call 43; refine (show Hid _ from ?_).out)
          | (go_at_call 36; refine (show Hid _ from ?_).out)
          | (go_at_call 24; refine (show Hid _ from ?_).out)
          | (go_at_call 28; refine (show Hid _ from ?_).out)
          | (go_at_call 26; refine (show Hid _ from ?_).out)
          | (go_at_call 27; refine (show Hid _ from ?_).out)
          | (go_at_call 30; refine (show Hid _ from ?_).out)
          | (go_at_call 39; refine (show Hid _ from ?_).out)
          | (go_at_call 40; refine (show Hid _ from ?_).out)
          | (go_at_call 41; refine (show Hid _ from ?_).out)
          | (go_at_call 22; refine (show Hid _ from ?_).out)
          | (go_at_call 42; refine (show Hid _ from ?_).out)
          | (go_at_call 44; refine (show Hid _ from ?_).out)
          | (go_at_call 25; refine (show Hid _ from ?_).out)
          | (go_at_call 29; refine (show Hid _ from ?_).out)
          | (go_at_call 23; refine (show Hid _ from ?_).out))
        refine Lib.hid ?_
        refine (HVB.out _ (by (repeat (first | with_reducible exact Ext.refl _ | with_reducible exact Ext.refl _ | with_reducible refine Ext.drew ?_ | with_reducible refine Ext.drewN ?_ _ | with_reducible refine Ext.alloc ?_ _ | with_reducible refine Ext.onto ?_ _ | (with_reducible refine Ext.setCells ?_ ?_ _ _; rotate_left; focus (first | omega | (simp; done) | (simp; omega))) | (with_reducible refine Ext.setCell ?_ ?_ _; rotate_left; focus (first | omega | (simp; done) | (simp; omega))))))).mono ?_
        rintro e w' ⟨rfl, hxl⟩; obtain ⟨xb, rfl⟩ := hxl.asLater; clear hxl
        go_wp2_with (first
          | (go_at_call 33; refine (show Hid _ from ?_).out)
          | (go_at_call 35; refine (show Hid _ from ?_).out)
          | (go_at_call 38; refine (show Hid _ from ?_).out)
          | (go_at_call 32; refine (show Hid _ from ?_).out)
          | (go_at_call 31; refine (show Hid _ from ?_).out)
          | (go_at_call 34; refine (show Hid _ from ?_).out)
          | (go_at_call 37; refine (show Hid _ from ?_).out)
          | (go_at_call 43; refine (show Hid _ from ?_).out)
          | (go_at_call 36; refine (show Hid _ from ?_).out)
          | (go_at_call 24; refine (show Hid _ from ?_).out)
          | (go_at_call 28; refine (show Hid _ from ?_).out)
          | (go_at_call 26; refine (show Hid _ from ?_).out)
          | (go_at_call 27; refine (show Hid _ from ?_).out)
          | (go_at_call 30; refine (show Hid _ from ?_).out)
          | (go_at_call 39; refine (show Hid _ from ?_).out)
          | (go_at_call 40; refine (show Hid _ from ?_).out)
          | (go_at_call 41; refine (show Hid _ from ?_).out)
          | (go_at_call 22; refine (show Hid _ from ?_).out)
          | (go_at_call 42; refine (show Hid _ from ?_).out)
          | (go_at_call 44; refine (show Hid _ from ?_).out)
          | (go_at_call 25; refine (show Hid _ from ?_).out)
          | (go_at_call 29; refine (show Hid _ from ?_).out)
          | (go_at_call 23; refine (show Hid _ from ?_).out))
        refine Lib.hid ?_
        refine (HG.out _).mono ?_
        rintro e w' ⟨rfl, hxl⟩; obtain ⟨xc, rfl⟩ := hxl.asLater; clear hxl
        go_wp2
        refine wp_world (fun W => Ext w W ∧ W.cell? ⟨w.heap.size, 0, none⟩ = some (.int .i64 s.1) ∧ W.cell? ⟨w.heap.size, 1, none⟩ = some (.int .i64 s.2) ∧ w.heap.size < W.heap.size) ⟨(by (repeat (first | with_reducible exact Ext.refl _ | with_reducible exact Ext.refl _ | with_reducible refine Ext.drew ?_ | with_reducible refine Ext.drewN ?_ _ | with_reducible refine Ext.alloc ?_ _ | with_reducible refine Ext.onto ?_ _ | (with_reducible refine Ext.setCells ?_ ?_ _ _; rotate_left; focus (first | omega | (simp; done) | (simp; omega))) | (with_reducible refine Ext.setCell ?_ ?_ _; rotate_left; focus (first | omega | (simp; done) | (simp; omega)))))), by rw [later_cell_if, if_pos (by simp), alloc_cell_if, if_pos rfl]; rfl, by rw [later_cell_if, if_pos (by simp), alloc_cell_if, if_pos rfl]; rfl, by simp [later_size]; omega⟩ ?_
        rintro W0 ⟨hx0, z0, z1, hlt0⟩
        replace H1 := Lib.hid (H1.out.on hx0)
        replace H2 := Lib.hid (H2.out.on hx0)
        have HX := Lib.hid hx0
        have hsz0 := hx0.size
        clear hx0
        obtain ⟨m1, hm1⟩ : ∃ m, Sp.rMinus a b = m := ⟨_, rfl⟩
        obtain ⟨m2, hm2⟩ : ∃ m, rMeet a b = m := ⟨_, rfl⟩
        obtain ⟨m3, hm3⟩ : ∃ m, rMissing a s = m := ⟨_, rfl⟩
        have HM1 : Hid (SetIn m1 1099511627776) := Lib.hid (by rw [← hm1]; exact rMinus_in2 HA.out)
        have HM2 : Hid (SetIn m2 1099511627776) := Lib.hid (by rw [← hm2]; exact rMeet_in HA.out)
        have HM3 : Hid (SetIn m3 1099511627776) := Lib.hid (by rw [← hm3]; exact rMissing_in HOk.out)
        have HC1 := Lib.hid (fun (W : World) (p1 : SlIn A c a W) (p2 : SlIn B d b W) => pminus_is HA.out HB.out p1 p2)
        have HC2 := Lib.hid (fun (W : World) (p1 : SlIn A c a W) (p2 : SlIn B d b W) => pmeet_is HA.out HB.out p1 p2)
        have HC3 := Lib.hid (fun (W : World) (p1 : SlIn A c a W) => pmissing_is HA.out HOk.out p1)
        have HD1 := Lib.hid (fun (W : World) (p1 : SlIn A c a W) (p2 : SlIn B d b W) => rminus_is HA.out HB.out p1 p2)
        have HD2 := Lib.hid (fun (W : World) (p1 : SlIn A c a W) (p2 : SlIn B d b W) => rmeet_is HA.out HB.out p1 p2)
        have HD3 := Lib.hid (fun (W : World) (p1 : SlIn A c a W) => rmissing_is HA.out HOk.out p1)
        rw [hm1] at HC1 HD1 hq1
        rw [hm2] at HC2 HD2 hq2
        rw [hm3] at HC3 HD3 hq3
        clear hm1 hm2 hm3
        refine wp_region_soft 9 (softs [.eq (.slice A a.length c), .eq (.slice B b.length d), slSoft m1, .eq (.slice A a.length c), .eq (.slice B b.length d), slSoft m2, .eq (.slice A a.length c), .eq (.agg #[.int .i64 s.1, .int .i64 s.2]), slSoft m3]) (by kernel_rfl) (by kernel_rfl) (lt_cons ?_ (lt_cons ?_ (lt_cons ?_ (lt_cons ?_ (lt_cons ?_ (lt_cons ?_ (lt_cons ?_ (lt_cons ?_ (lt_cons ?_ lt_none))))))))) ?_
        ·
          intro o ho xs W hW hd Q' hQ; obtain rfl := Option.some.inj ho; clear ho; simp only [fillAt, dstOf, List.getElem?_cons_zero, List.getElem?_cons_succ, Option.bind_some, Act.put, List.setIfInBounds_toArray, List.set_cons_zero, List.set_cons_succ, Nat.zero_add, Nat.reduceAdd] at hQ ⊢; have HQ := Lib.hid hQ; have HD := Lib.hid hd; have HW := Lib.hid hW; have hsW := hW.size; clear hQ hd hW
          go_wp2
          exact HQ.out _ _ (Ext.refl _) rfl
        ·
          intro o ho xs W hW hd Q' hQ; obtain rfl := Option.some.inj ho; clear ho; simp only [fillAt, dstOf, List.getElem?_cons_zero, List.getElem?_cons_succ, Option.bind_some, Act.put, List.setIfInBounds_toArray, List.set_cons_zero, List.set_cons_succ, Nat.zero_add, Nat.reduceAdd] at hQ ⊢; have HQ := Lib.hid hQ; have HD := Lib.hid hd; have HW := Lib.hid hW; have hsW := hW.size; clear hQ hd hW
          go_wp2
          exact HQ.out _ _ (Ext.refl _) rfl
        ·
          intro o ho xs W hW hd Q' hQ; obtain rfl := Option.some.inj ho; clear ho; simp only [fillAt, dstOf, List.getElem?_cons_zero, List.getElem?_cons_succ, Option.bind_some, Act.put, List.setIfInBounds_toArray, List.set_cons_zero, List.set_cons_succ, Nat.zero_add, Nat.reduceAdd] at hQ ⊢; have HQ := Lib.hid hQ; have HD := Lib.hid hd; have HW := Lib.hid hW; have hsW := hW.size; clear hQ hd hW
          have hd0 : xs 0 = .slice A a.length c := (HD.out 0 (of_decide_eq_true (by kernel_rfl)))
          generalize xs 0 = x0 at hd0 HQ ⊢; subst hd0
          have hd1 : xs 1 = .slice B b.length d := (HD.out 1 (of_decide_eq_true (by kernel_rfl)))
          generalize xs 1 = x1 at hd1 HQ ⊢; subst hd1
          go_wp2_with (go_at_call 38; refine (HC1.out _ (H1.out.on HW.out) (H2.out.on HW.out)).mono ?_; rintro e1 w1 ⟨A1, c1, rfl, hs, hx⟩)
          exact HQ.out _ _ hx ⟨A1, c1, rfl, hs⟩
        ·
          intro o ho xs W hW hd Q' hQ; obtain rfl := Option.some.inj ho; clear ho; simp only [fillAt, dstOf, List.getElem?_cons_zero, List.getElem?_cons_succ, Option.bind_some, Act.put, List.setIfInBounds_toArray, List.set_cons_zero, List.set_cons_succ, Nat.zero_add, Nat.reduceAdd] at hQ ⊢; have HQ := Lib.hid hQ; have HD := Lib.hid hd; have HW := Lib.hid hW; have hsW := hW.size; clear hQ hd hW
          go_wp2
          exact HQ.out _ _ (Ext.refl _) rfl
        ·
          intro o ho xs W hW hd Q' hQ; obtain rfl := Option.some.inj ho; clear ho; simp only [fillAt, dstOf, List.getElem?_cons_zero, List.getElem?_cons_succ, Option.bind_some, Act.put, List.setIfInBounds_toArray, List.set_cons_zero, List.set_cons_succ, Nat.zero_add, Nat.reduceAdd] at hQ ⊢; have HQ := Lib.hid hQ; have HD := Lib.hid hd; have HW := Lib.hid hW; have hsW := hW.size; clear hQ hd hW
          go_wp2
          exact HQ.out _ _ (Ext.refl _) rfl
        ·
          intro o ho xs W hW hd Q' hQ; obtain rfl := Option.some.inj ho; clear ho; simp only [fillAt, dstOf, List.getElem?_cons_zero, List.getElem?_cons_succ, Option.bind_some, Act.put, List.setIfInBounds_toArray, List.set_cons_zero, List.set_cons_succ, Nat.zero_add, Nat.reduceAdd] at hQ ⊢; have HQ := Lib.hid hQ; have HD := Lib.hid hd; have HW := Lib.hid hW; have hsW := hW.size; clear hQ hd hW
          have hd3 : xs 3 = .slice A a.length c := (HD.out 3 (of_decide_eq_true (by kernel_rfl)))
          generalize xs 3 = x3 at hd3 HQ ⊢; subst hd3
          have hd4 : xs 4 = .slice B b.length d := (HD.out 4 (of_decide_eq_true (by kernel_rfl)))
          generalize xs 4 = x4 at hd4 HQ ⊢; subst hd4
          go_wp2_with (go_at_call 32; refine (HC2.out _ (H1.out.on HW.out) (H2.out.on HW.out)).mono ?_; rintro e1 w1 ⟨A1, c1, rfl, hs, hx⟩)
          exact HQ.out _ _ hx ⟨A1, c1, rfl, hs⟩
        ·
          intro o ho xs W hW hd Q' hQ; obtain rfl := Option.some.inj ho; clear ho; simp only [fillAt, dstOf, List.getElem?_cons_zero, List.getElem?_cons_succ, Option.bind_some, Act.put, List.setIfInBounds_toArray, List.set_cons_zero, List.set_cons_succ, Nat.zero_add, Nat.reduceAdd] at hQ ⊢; have HQ := Lib.hid hQ; have HD := Lib.hid hd; have HW := Lib.hid hW; have hsW := hW.size; clear hQ hd hW
          go_wp2
          exact HQ.out _ _ (Ext.refl _) rfl
        ·
          intro o ho xs W hW hd Q' hQ; obtain rfl := Option.some.inj ho; clear ho; simp only [fillAt, dstOf, List.getElem?_cons_zero, List.getElem?_cons_succ, Option.bind_some, Act.put, List.setIfInBounds_toArray, List.set_cons_zero, List.set_cons_succ, Nat.zero_add, Nat.reduceAdd] at hQ ⊢; have HQ := Lib.hid hQ; have HD := Lib.hid hd; have HW := Lib.hid hW; have hsW := hW.size; clear hQ hd hW
          have hc0 : W.cell? ⟨w.heap.size, 0, none⟩ = some (.int .i64 s.1) := (HW.out.cell (p := ⟨w.heap.size, 0, none⟩) hlt0).trans z0
          have hc1 : W.cell? ⟨w.heap.size, 1, none⟩ = some (.int .i64 s.2) := (HW.out.cell (p := ⟨w.heap.size, 1, none⟩) hlt0).trans z1
          go_wp2
          exact HQ.out _ _ (Ext.refl _) rfl
        ·
          intro o ho xs W hW hd Q' hQ; obtain rfl := Option.some.inj ho; clear ho; simp only [fillAt, dstOf, List.getElem?_cons_zero, List.getElem?_cons_succ, Option.bind_some, Act.put, List.setIfInBounds_toArray, List.set_cons_zero, List.set_cons_succ, Nat.zero_add, Nat.reduceAdd] at hQ ⊢; have HQ := Lib.hid hQ; have HD := Lib.hid hd; have HW := Lib.hid hW; have hsW := hW.size; clear hQ hd hW
          have hd6 : xs 6 = .slice A a.length c := (HD.out 6 (of_decide_eq_true (by kernel_rfl)))
          generalize xs 6 = x6 at hd6 HQ ⊢; subst hd6
          have hd7 : xs 7 = .agg #[.int .i64 s.1, .int .i64 s.2] := (HD.out 7 (of_decide_eq_true (by kernel_rfl)))
          generalize xs 7 = x7 at hd7 HQ ⊢; subst hd7
          go_wp2_with (go_at_call 31; refine (HC3.out _ (H1.out.on HW.out)).mono ?_; rintro e1 w1 ⟨A1, c1, rfl, hs, hx⟩)
          exact HQ.out _ _ hx ⟨A1, c1, rfl, hs⟩
        ·
          intro xs W1 hW hS
          obtain ⟨P1, e1, h21, HN1⟩ : (slSoft m1).S (xs 2) W1 := hS 2 (by omega)
          obtain ⟨P2, e2, h22, HN2⟩ : (slSoft m2).S (xs 5) W1 := hS 5 (by omega)
          obtain ⟨P3, e3, h23, HN3⟩ : (slSoft m3).S (xs 8) W1 := hS 8 (by omega)
          replace HN1 := Lib.hid HN1
          replace HN2 := Lib.hid HN2
          replace HN3 := Lib.hid HN3
          simp only [fillAt, dstOf, List.getElem?_cons_zero, List.getElem?_cons_succ, Option.bind_some, Act.put, List.setIfInBounds_toArray, List.set_cons_zero, List.set_cons_succ, Nat.zero_add, Nat.reduceAdd, List.drop_succ_cons, List.drop_zero]
          generalize xs 2 = y2 at *; subst h21
          generalize xs 5 = y5 at *; subst h22
          generalize xs 8 = y8 at *; subst h23
          have hxk := hW
          replace HX := Lib.hid (HX.out.trans hxk)
          replace H1 := Lib.hid (H1.out.on hxk)
          replace H2 := Lib.hid (H2.out.on hxk)
          replace z0 := (hxk.cell (p := ⟨w.heap.size, 0, none⟩) hlt0).trans z0
          replace z1 := (hxk.cell (p := ⟨w.heap.size, 1, none⟩) hlt0).trans z1
          replace hlt0 := Nat.lt_of_lt_of_le hlt0 hxk.size
          clear hS hW hxk HC1 HC2 HC3
          go_wp2_with (first
            | (go_at_call 33; refine (show Hid _ from ?_).out)
            | (go_at_call 35; refine (show Hid _ from ?_).out)
            | (go_at_call 38; refine (show Hid _ from ?_).out)
            | (go_at_call 32; refine (show Hid _ from ?_).out)
            | (go_at_call 31; refine (show Hid _ from ?_).out)
            | (go_at_call 34; refine (show Hid _ from ?_).out)
            | (go_at_call 37; refine (show Hid _ from ?_).out)
            | (go_at_call 43; refine (show Hid _ from ?_).out)
            | (go_at_call 36; refine (show Hid _ from ?_).out)
            | (go_at_call 24; refine (show Hid _ from ?_).out)
            | (go_at_call 28; refine (show Hid _ from ?_).out)
            | (go_at_call 26; refine (show Hid _ from ?_).out)
            | (go_at_call 27; refine (show Hid _ from ?_).out)
            | (go_at_call 30; refine (show Hid _ from ?_).out)
            | (go_at_call 39; refine (show Hid _ from ?_).out)
            | (go_at_call 40; refine (show Hid _ from ?_).out)
            | (go_at_call 41; refine (show Hid _ from ?_).out)
            | (go_at_call 22; refine (show Hid _ from ?_).out)
            | (go_at_call 42; refine (show Hid _ from ?_).out)
            | (go_at_call 44; refine (show Hid _ from ?_).out)
            | (go_at_call 25; refine (show Hid _ from ?_).out)
            | (go_at_call 29; refine (show Hid _ from ?_).out)
            | (go_at_call 23; refine (show Hid _ from ?_).out))
          refine Lib.hid ?_
          refine (rvalid_yes HM1.out (HN1.out.on (by (repeat (first | with_reducible exact Ext.refl _ | with_reducible exact Ext.refl _ | with_reducible refine Ext.drew ?_ | with_reducible refine Ext.drewN ?_ _ | with_reducible refine Ext.alloc ?_ _ | with_reducible refine Ext.onto ?_ _ | (with_reducible refine Ext.setCells ?_ ?_ _ _; rotate_left; focus (first | omega | (simp; done) | (simp; omega))) | (with_reducible refine Ext.setCell ?_ ?_ _; rotate_left; focus (first | omega | (simp; done) | (simp; omega)))))))).mono ?_
          rintro e w' ⟨rfl, hxl⟩; obtain ⟨v1, rfl⟩ := hxl.asLater; clear hxl
          go_wp2_with (first
            | (go_at_call 33; refine (show Hid _ from ?_).out)
            | (go_at_call 35; refine (show Hid _ from ?_).out)
            | (go_at_call 38; refine (show Hid _ from ?_).out)
            | (go_at_call 32; refine (show Hid _ from ?_).out)
            | (go_at_call 31; refine (show Hid _ from ?_).out)
            | (go_at_call 34; refine (show Hid _ from ?_).out)
            | (go_at_call 37; refine (show Hid _ from ?_).out)
            | (go_at_call 43; refine (show Hid _ from ?_).out)
            | (go_at_call 36; refine (show Hid _ from ?_).out)
            | (go_at_call 24; refine (show Hid _ from ?_).out)
            | (go_at_call 28; refine (show Hid _ from ?_).out)
            | (go_at_call 26; refine (show Hid _ from ?_).out)
            | (go_at_call 27; refine (show Hid _ from ?_).out)
            | (go_at_call 30; refine (show Hid _ from ?_).out)
            | (go_at_call 39; refine (show Hid _ from ?_).out)
            | (go_at_call 40; refine (show Hid _ from ?_).out)
            | (go_at_call 41; refine (show Hid _ from ?_).out)
            | (go_at_call 22; refine (show Hid _ from ?_).out)
            | (go_at_call 42; refine (show Hid _ from ?_).out)
            | (go_at_call 44; refine (show Hid _ from ?_).out)
            | (go_at_call 25; refine (show Hid _ from ?_).out)
            | (go_at_call 29; refine (show Hid _ from ?_).out)
            | (go_at_call 23; refine (show Hid _ from ?_).out))
          refine Lib.hid ?_
          refine (rvalid_yes HM2.out (HN2.out.on (by (repeat (first | with_reducible exact Ext.refl _ | with_reducible exact Ext.refl _ | with_reducible refine Ext.drew ?_ | with_reducible refine Ext.drewN ?_ _ | with_reducible refine Ext.alloc ?_ _ | with_reducible refine Ext.onto ?_ _ | (with_reducible refine Ext.setCells ?_ ?_ _ _; rotate_left; focus (first | omega | (simp; done) | (simp; omega))) | (with_reducible refine Ext.setCell ?_ ?_ _; rotate_left; focus (first | omega | (simp; done) | (simp; omega)))))))).mono ?_
          rintro e w' ⟨rfl, hxl⟩; obtain ⟨v2, rfl⟩ := hxl.asLater; clear hxl
          go_wp2_with (first
            | (go_at_call 33; refine (show Hid _ from ?_).out)
            | (go_at_call 35; refine (show Hid _ from ?_).out)
            | (go_at_call 38; refine (show Hid _ from ?_).out)
            | (go_at_call 32; refine (show Hid _ from ?_).out)
            | (go_at_call 31; refine (show Hid _ from ?_).out)
            | (go_at_call 34; refine (show Hid _ from ?_).out)
            | (go_at_call 37; refine (show Hid _ from ?_).out)
            | (go_at_call 43; refine (show Hid _ from ?_).out)
            | (go_at_call 36; refine (show Hid _ from ?_).out)
            | (go_at_call 24; refine (show Hid _ from ?_).out)
            | (go_at_call 28; refine (show Hid _ from ?_).out)
            | (go_at_call 26; refine (show Hid _ from ?_).out)
            | (go_at_call 27; refine (show Hid _ from ?_).out)
            | (go_at_call 30; refine (show Hid _ from ?_).out)
            | (go_at_call 39; refine (show Hid _ from ?_).out)
            | (go_at_call 40; refine (show Hid _ from ?_).out)
            | (go_at_call 41; refine (show Hid _ from ?_).out)
            | (go_at_call 22; refine (show Hid _ from ?_).out)
            | (go_at_call 42; refine (show Hid _ from ?_).out)
            | (go_at_call 44; refine (show Hid _ from ?_).out)
            | (go_at_call 25; refine (show Hid _ from ?_).out)
            | (go_at_call 29; refine (show Hid _ from ?_).out)
            | (go_at_call 23; refine (show Hid _ from ?_).out))
          refine Lib.hid ?_
          refine (rvalid_yes HM3.out (HN3.out.on (by (repeat (first | with_reducible exact Ext.refl _ | with_reducible exact Ext.refl _ | with_reducible refine Ext.drew ?_ | with_reducible refine Ext.drewN ?_ _ | with_reducible refine Ext.alloc ?_ _ | with_reducible refine Ext.onto ?_ _ | (with_reducible refine Ext.setCells ?_ ?_ _ _; rotate_left; focus (first | omega | (simp; done) | (simp; omega))) | (with_reducible refine Ext.setCell ?_ ?_ _; rotate_left; focus (first | omega | (simp; done) | (simp; omega)))))))).mono ?_
          rintro e w' ⟨rfl, hxl⟩; obtain ⟨v3, rfl⟩ := hxl.asLater; clear hxl
          go_wp2_with (first
            | (go_at_call 33; refine (show Hid _ from ?_).out)
            | (go_at_call 35; refine (show Hid _ from ?_).out)
            | (go_at_call 38; refine (show Hid _ from ?_).out)
            | (go_at_call 32; refine (show Hid _ from ?_).out)
            | (go_at_call 31; refine (show Hid _ from ?_).out)
            | (go_at_call 34; refine (show Hid _ from ?_).out)
            | (go_at_call 37; refine (show Hid _ from ?_).out)
            | (go_at_call 43; refine (show Hid _ from ?_).out)
            | (go_at_call 36; refine (show Hid _ from ?_).out)
            | (go_at_call 24; refine (show Hid _ from ?_).out)
            | (go_at_call 28; refine (show Hid _ from ?_).out)
            | (go_at_call 26; refine (show Hid _ from ?_).out)
            | (go_at_call 27; refine (show Hid _ from ?_).out)
            | (go_at_call 30; refine (show Hid _ from ?_).out)
            | (go_at_call 39; refine (show Hid _ from ?_).out)
            | (go_at_call 40; refine (show Hid _ from ?_).out)
            | (go_at_call 41; refine (show Hid _ from ?_).out)
            | (go_at_call 22; refine (show Hid _ from ?_).out)
            | (go_at_call 42; refine (show Hid _ from ?_).out)
            | (go_at_call 44; refine (show Hid _ from ?_).out)
            | (go_at_call 25; refine (show Hid _ from ?_).out)
            | (go_at_call 29; refine (show Hid _ from ?_).out)
            | (go_at_call 23; refine (show Hid _ from ?_).out))
          refine Lib.hid ?_
          refine (HD1.out _ (H1.out.on (by (repeat (first | with_reducible exact Ext.refl _ | with_reducible exact Ext.refl _ | with_reducible refine Ext.drew ?_ | with_reducible refine Ext.drewN ?_ _ | with_reducible refine Ext.alloc ?_ _ | with_reducible refine Ext.onto ?_ _ | (with_reducible refine Ext.setCells ?_ ?_ _ _; rotate_left; focus (first | omega | (simp; done) | (simp; omega))) | (with_reducible refine Ext.setCell ?_ ?_ _; rotate_left; focus (first | omega | (simp; done) | (simp; omega))))))) (H2.out.on (by (repeat (first | with_reducible exact Ext.refl _ | with_reducible exact Ext.refl _ | with_reducible refine Ext.drew ?_ | with_reducible refine Ext.drewN ?_ _ | with_reducible refine Ext.alloc ?_ _ | with_reducible refine Ext.onto ?_ _ | (with_reducible refine Ext.setCells ?_ ?_ _ _; rotate_left; focus (first | omega | (simp; done) | (simp; omega))) | (with_reducible refine Ext.setCell ?_ ?_ _; rotate_left; focus (first | omega | (simp; done) | (simp; omega)))))))).mono ?_
          rintro e w4 ⟨A4, c4, rfl, hs, hx⟩
          have hxk := (show Ext W1 _ from (by (repeat (first | with_reducible exact Ext.refl _ | with_reducible exact Ext.refl _ | with_reducible refine Ext.drew ?_ | with_reducible refine Ext.drewN ?_ _ | with_reducible refine Ext.alloc ?_ _ | with_reducible refine Ext.onto ?_ _ | (with_reducible refine Ext.setCells ?_ ?_ _ _; rotate_left; focus (first | omega | (simp; done) | (simp; omega))) | (with_reducible refine Ext.setCell ?_ ?_ _; rotate_left; focus (first | omega | (simp; done) | (simp; omega))))))).trans hx
          have HS4 := Lib.hid hs
          replace HX := Lib.hid (HX.out.trans hxk); replace H1 := Lib.hid (H1.out.on hxk); replace H2 := Lib.hid (H2.out.on hxk); replace HN1 := Lib.hid (HN1.out.on hxk); replace HN2 := Lib.hid (HN2.out.on hxk); replace HN3 := Lib.hid (HN3.out.on hxk); replace z0 := (hxk.cell (p := ⟨w.heap.size, 0, none⟩) hlt0).trans z0; replace z1 := (hxk.cell (p := ⟨w.heap.size, 1, none⟩) hlt0).trans z1; replace hlt0 := Nat.lt_of_lt_of_le hlt0 hxk.size
          clear hs hx hxk
          go_wp2_with (first
            | (go_at_call 33; refine (show Hid _ from ?_).out)
            | (go_at_call 35; refine (show Hid _ from ?_).out)
            | (go_at_call 38; refine (show Hid _ from ?_).out)
            | (go_at_call 32; refine (show Hid _ from ?_).out)
            | (go_at_call 31; refine (show Hid _ from ?_).out)
            | (go_at_call 34; refine (show Hid _ from ?_).out)
            | (go_at_call 37; refine (show Hid _ from ?_).out)
            | (go_at_call 43; refine (show Hid _ from ?_).out)
            | (go_at_call 36; refine (show Hid _ from ?_).out)
            | (go_at_call 24; refine (show Hid _ from ?_).out)
            | (go_at_call 28; refine (show Hid _ from ?_).out)
            | (go_at_call 26; refine (show Hid _ from ?_).out)
            | (go_at_call 27; refine (show Hid _ from ?_).out)
            | (go_at_call 30; refine (show Hid _ from ?_).out)
            | (go_at_call 39; refine (show Hid _ from ?_).out)
            | (go_at_call 40; refine (show Hid _ from ?_).out)
            | (go_at_call 41; refine (show Hid _ from ?_).out)
            | (go_at_call 22; refine (show Hid _ from ?_).out)
            | (go_at_call 42; refine (show Hid _ from ?_).out)
            | (go_at_call 44; refine (show Hid _ from ?_).out)
            | (go_at_call 25; refine (show Hid _ from ?_).out)
            | (go_at_call 29; refine (show Hid _ from ?_).out)
            | (go_at_call 23; refine (show Hid _ from ?_).out))
          refine Lib.hid ?_
          refine (rsame_is (by omega) (HN1.out.on (by (repeat (first | with_reducible exact Ext.refl _ | with_reducible exact Ext.refl _ | with_reducible refine Ext.drew ?_ | with_reducible refine Ext.drewN ?_ _ | with_reducible refine Ext.alloc ?_ _ | with_reducible refine Ext.onto ?_ _ | (with_reducible refine Ext.setCells ?_ ?_ _ _; rotate_left; focus (first | omega | (simp; done) | (simp; omega))) | (with_reducible refine Ext.setCell ?_ ?_ _; rotate_left; focus (first | omega | (simp; done) | (simp; omega))))))) (HS4.out.on (by (repeat (first | with_reducible exact Ext.refl _ | with_reducible exact Ext.refl _ | with_reducible refine Ext.drew ?_ | with_reducible refine Ext.drewN ?_ _ | with_reducible refine Ext.alloc ?_ _ | with_reducible refine Ext.onto ?_ _ | (with_reducible refine Ext.setCells ?_ ?_ _ _; rotate_left; focus (first | omega | (simp; done) | (simp; omega))) | (with_reducible refine Ext.setCell ?_ ?_ _; rotate_left; focus (first | omega | (simp; done) | (simp; omega)))))))).mono ?_
          rintro e w' ⟨rfl, hxl⟩; obtain ⟨v4, rfl⟩ := hxl.asLater; clear hxl
          go_wp2_with (first
            | (go_at_call 33; refine (show Hid _ from ?_).out)
            | (go_at_call 35; refine (show Hid _ from ?_).out)
            | (go_at_call 38; refine (show Hid _ from ?_).out)
            | (go_at_call 32; refine (show Hid _ from ?_).out)
            | (go_at_call 31; refine (show Hid _ from ?_).out)
            | (go_at_call 34; refine (show Hid _ from ?_).out)
            | (go_at_call 37; refine (show Hid _ from ?_).out)
            | (go_at_call 43; refine (show Hid _ from ?_).out)
            | (go_at_call 36; refine (show Hid _ from ?_).out)
            | (go_at_call 24; refine (show Hid _ from ?_).out)
            | (go_at_call 28; refine (show Hid _ from ?_).out)
            | (go_at_call 26; refine (show Hid _ from ?_).out)
            | (go_at_call 27; refine (show Hid _ from ?_).out)
            | (go_at_call 30; refine (show Hid _ from ?_).out)
            | (go_at_call 39; refine (show Hid _ from ?_).out)
            | (go_at_call 40; refine (show Hid _ from ?_).out)
            | (go_at_call 41; refine (show Hid _ from ?_).out)
            | (go_at_call 22; refine (show Hid _ from ?_).out)
            | (go_at_call 42; refine (show Hid _ from ?_).out)
            | (go_at_call 44; refine (show Hid _ from ?_).out)
            | (go_at_call 25; refine (show Hid _ from ?_).out)
            | (go_at_call 29; refine (show Hid _ from ?_).out)
            | (go_at_call 23; refine (show Hid _ from ?_).out))
          refine Lib.hid ?_
          refine (HD2.out _ (H1.out.on (by (repeat (first | with_reducible exact Ext.refl _ | with_reducible exact Ext.refl _ | with_reducible refine Ext.drew ?_ | with_reducible refine Ext.drewN ?_ _ | with_reducible refine Ext.alloc ?_ _ | with_reducible refine Ext.onto ?_ _ | (with_reducible refine Ext.setCells ?_ ?_ _ _; rotate_left; focus (first | omega | (simp; done) | (simp; omega))) | (with_reducible refine Ext.setCell ?_ ?_ _; rotate_left; focus (first | omega | (simp; done) | (simp; omega))))))) (H2.out.on (by (repeat (first | with_reducible exact Ext.refl _ | with_reducible exact Ext.refl _ | with_reducible refine Ext.drew ?_ | with_reducible refine Ext.drewN ?_ _ | with_reducible refine Ext.alloc ?_ _ | with_reducible refine Ext.onto ?_ _ | (with_reducible refine Ext.setCells ?_ ?_ _ _; rotate_left; focus (first | omega | (simp; done) | (simp; omega))) | (with_reducible refine Ext.setCell ?_ ?_ _; rotate_left; focus (first | omega | (simp; done) | (simp; omega)))))))).mono ?_
          rintro e w5 ⟨A5, c5, rfl, hs, hx⟩
          have hxk := (show Ext w4 _ from (by (repeat (first | with_reducible exact Ext.refl _ | with_reducible exact Ext.refl _ | with_reducible refine Ext.drew ?_ | with_reducible refine Ext.drewN ?_ _ | with_reducible refine Ext.alloc ?_ _ | with_reducible refine Ext.onto ?_ _ | (with_reducible refine Ext.setCells ?_ ?_ _ _; rotate_left; focus (first | omega | (simp; done) | (simp; omega))) | (with_reducible refine Ext.setCell ?_ ?_ _; rotate_left; focus (first | omega | (simp; done) | (simp; omega))))))).trans hx
          have HS5 := Lib.hid hs
          replace HX := Lib.hid (HX.out.trans hxk); replace H1 := Lib.hid (H1.out.on hxk); replace H2 := Lib.hid (H2.out.on hxk); replace HN1 := Lib.hid (HN1.out.on hxk); replace HN2 := Lib.hid (HN2.out.on hxk); replace HN3 := Lib.hid (HN3.out.on hxk); replace z0 := (hxk.cell (p := ⟨w.heap.size, 0, none⟩) hlt0).trans z0; replace z1 := (hxk.cell (p := ⟨w.heap.size, 1, none⟩) hlt0).trans z1; replace hlt0 := Nat.lt_of_lt_of_le hlt0 hxk.size
          clear hs hx hxk
          go_wp2_with (first
            | (go_at_call 33; refine (show Hid _ from ?_).out)
            | (go_at_call 35; refine (show Hid _ from ?_).out)
            | (go_at_call 38; refine (show Hid _ from ?_).out)
            | (go_at_call 32; refine (show Hid _ from ?_).out)
            | (go_at_call 31; refine (show Hid _ from ?_).out)
            | (go_at_call 34; refine (show Hid _ from ?_).out)
            | (go_at_call 37; refine (show Hid _ from ?_).out)
            | (go_at_call 43; refine (show Hid _ from ?_).out)
            | (go_at_call 36; refine (show Hid _ from ?_).out)
            | (go_at_call 24; refine (show Hid _ from ?_).out)
            | (go_at_call 28; refine (show Hid _ from ?_).out)
            | (go_at_call 26; refine (show Hid _ from ?_).out)
            | (go_at_call 27; refine (show Hid _ from ?_).out)
            | (go_at_call 30; refine (show Hid _ from ?_).out)
            | (go_at_call 39; refine (show Hid _ from ?_).out)
            | (go_at_call 40; refine (show Hid _ from ?_).out)
            | (go_at_call 41; refine (show Hid _ from ?_).out)
            | (go_at_call 22; refine (show Hid _ from ?_).out)
            | (go_at_call 42; refine (show Hid _ from ?_).out)
            | (go_at_call 44; refine (show Hid _ from ?_).out)
            | (go_at_call 25; refine (show Hid _ from ?_).out)
            | (go_at_call 29; refine (show Hid _ from ?_).out)
            | (go_at_call 23; refine (show Hid _ from ?_).out))
          refine Lib.hid ?_
          refine (rsame_is (by omega) (HN2.out.on (by (repeat (first | with_reducible exact Ext.refl _ | with_reducible exact Ext.refl _ | with_reducible refine Ext.drew ?_ | with_reducible refine Ext.drewN ?_ _ | with_reducible refine Ext.alloc ?_ _ | with_reducible refine Ext.onto ?_ _ | (with_reducible refine Ext.setCells ?_ ?_ _ _; rotate_left; focus (first | omega | (simp; done) | (simp; omega))) | (with_reducible refine Ext.setCell ?_ ?_ _; rotate_left; focus (first | omega | (simp; done) | (simp; omega))))))) (HS5.out.on (by (repeat (first | with_reducible exact Ext.refl _ | with_reducible exact Ext.refl _ | with_reducible refine Ext.drew ?_ | with_reducible refine Ext.drewN ?_ _ | with_reducible refine Ext.alloc ?_ _ | with_reducible refine Ext.onto ?_ _ | (with_reducible refine Ext.setCells ?_ ?_ _ _; rotate_left; focus (first | omega | (simp; done) | (simp; omega))) | (with_reducible refine Ext.setCell ?_ ?_ _; rotate_left; focus (first | omega | (simp; done) | (simp; omega)))))))).mono ?_
          rintro e w' ⟨rfl, hxl⟩; obtain ⟨v5, rfl⟩ := hxl.asLater; clear hxl
          go_wp2_with (first
            | (go_at_call 33; refine (show Hid _ from ?_).out)
            | (go_at_call 35; refine (show Hid _ from ?_).out)
            | (go_at_call 38; refine (show Hid _ from ?_).out)
            | (go_at_call 32; refine (show Hid _ from ?_).out)
            | (go_at_call 31; refine (show Hid _ from ?_).out)
            | (go_at_call 34; refine (show Hid _ from ?_).out)
            | (go_at_call 37; refine (show Hid _ from ?_).out)
            | (go_at_call 43; refine (show Hid _ from ?_).out)
            | (go_at_call 36; refine (show Hid _ from ?_).out)
            | (go_at_call 24; refine (show Hid _ from ?_).out)
            | (go_at_call 28; refine (show Hid _ from ?_).out)
            | (go_at_call 26; refine (show Hid _ from ?_).out)
            | (go_at_call 27; refine (show Hid _ from ?_).out)
            | (go_at_call 30; refine (show Hid _ from ?_).out)
            | (go_at_call 39; refine (show Hid _ from ?_).out)
            | (go_at_call 40; refine (show Hid _ from ?_).out)
            | (go_at_call 41; refine (show Hid _ from ?_).out)
            | (go_at_call 22; refine (show Hid _ from ?_).out)
            | (go_at_call 42; refine (show Hid _ from ?_).out)
            | (go_at_call 44; refine (show Hid _ from ?_).out)
            | (go_at_call 25; refine (show Hid _ from ?_).out)
            | (go_at_call 29; refine (show Hid _ from ?_).out)
            | (go_at_call 23; refine (show Hid _ from ?_).out))
          refine Lib.hid ?_
          refine (HD3.out _ (H1.out.on (by (repeat (first | with_reducible exact Ext.refl _ | with_reducible exact Ext.refl _ | with_reducible refine Ext.drew ?_ | with_reducible refine Ext.drewN ?_ _ | with_reducible refine Ext.alloc ?_ _ | with_reducible refine Ext.onto ?_ _ | (with_reducible refine Ext.setCells ?_ ?_ _ _; rotate_left; focus (first | omega | (simp; done) | (simp; omega))) | (with_reducible refine Ext.setCell ?_ ?_ _; rotate_left; focus (first | omega | (simp; done) | (simp; omega)))))))).mono ?_
          rintro e w6 ⟨A6, c6, rfl, hs, hx⟩
          have hxk := (show Ext w5 _ from (by (repeat (first | with_reducible exact Ext.refl _ | with_reducible exact Ext.refl _ | with_reducible refine Ext.drew ?_ | with_reducible refine Ext.drewN ?_ _ | with_reducible refine Ext.alloc ?_ _ | with_reducible refine Ext.onto ?_ _ | (with_reducible refine Ext.setCells ?_ ?_ _ _; rotate_left; focus (first | omega | (simp; done) | (simp; omega))) | (with_reducible refine Ext.setCell ?_ ?_ _; rotate_left; focus (first | omega | (simp; done) | (simp; omega))))))).trans hx
          have HS6 := Lib.hid hs
          replace HX := Lib.hid (HX.out.trans hxk); replace H1 := Lib.hid (H1.out.on hxk); replace H2 := Lib.hid (H2.out.on hxk); replace HN1 := Lib.hid (HN1.out.on hxk); replace HN2 := Lib.hid (HN2.out.on hxk); replace HN3 := Lib.hid (HN3.out.on hxk); replace z0 := (hxk.cell (p := ⟨w.heap.size, 0, none⟩) hlt0).trans z0; replace z1 := (hxk.cell (p := ⟨w.heap.size, 1, none⟩) hlt0).trans z1; replace hlt0 := Nat.lt_of_lt_of_le hlt0 hxk.size
          clear hs hx hxk
          go_wp2_with (first
            | (go_at_call 33; refine (show Hid _ from ?_).out)
            | (go_at_call 35; refine (show Hid _ from ?_).out)
            | (go_at_call 38; refine (show Hid _ from ?_).out)
            | (go_at_call 32; refine (show Hid _ from ?_).out)
            | (go_at_call 31; refine (show Hid _ from ?_).out)
            | (go_at_call 34; refine (show Hid _ from ?_).out)
            | (go_at_call 37; refine (show Hid _ from ?_).out)
            | (go_at_call 43; refine (show Hid _ from ?_).out)
            | (go_at_call 36; refine (show Hid _ from ?_).out)
            | (go_at_call 24; refine (show Hid _ from ?_).out)
            | (go_at_call 28; refine (show Hid _ from ?_).out)
            | (go_at_call 26; refine (show Hid _ from ?_).out)
            | (go_at_call 27; refine (show Hid _ from ?_).out)
            | (go_at_call 30; refine (show Hid _ from ?_).out)
            | (go_at_call 39; refine (show Hid _ from ?_).out)
            | (go_at_call 40; refine (show Hid _ from ?_).out)
            | (go_at_call 41; refine (show Hid _ from ?_).out)
            | (go_at_call 22; refine (show Hid _ from ?_).out)
            | (go_at_call 42; refine (show Hid _ from ?_).out)
            | (go_at_call 44; refine (show Hid _ from ?_).out)
            | (go_at_call 25; refine (show Hid _ from ?_).out)
            | (go_at_call 29; refine (show Hid _ from ?_).out)
            | (go_at_call 23; refine (show Hid _ from ?_).out))
          refine Lib.hid ?_
          refine (rsame_is (by omega) (HN3.out.on (by (repeat (first | with_reducible exact Ext.refl _ | with_reducible exact Ext.refl _ | with_reducible refine Ext.drew ?_ | with_reducible refine Ext.drewN ?_ _ | with_reducible refine Ext.alloc ?_ _ | with_reducible refine Ext.onto ?_ _ | (with_reducible refine Ext.setCells ?_ ?_ _ _; rotate_left; focus (first | omega | (simp; done) | (simp; omega))) | (with_reducible refine Ext.setCell ?_ ?_ _; rotate_left; focus (first | omega | (simp; done) | (simp; omega))))))) (HS6.out.on (by (repeat (first | with_reducible exact Ext.refl _ | with_reducible exact Ext.refl _ | with_reducible refine Ext.drew ?_ | with_reducible refine Ext.drewN ?_ _ | with_reducible refine Ext.alloc ?_ _ | with_reducible refine Ext.onto ?_ _ | (with_reducible refine Ext.setCells ?_ ?_ _ _; rotate_left; focus (first | omega | (simp; done) | (simp; omega))) | (with_reducible refine Ext.setCell ?_ ?_ _; rotate_left; focus (first | omega | (simp; done) | (simp; omega)))))))).mono ?_
          rintro e w' ⟨rfl, hxl⟩; obtain ⟨v6, rfl⟩ := hxl.asLater; clear hxl
          go_wp2
          refine wp_world (fun W => Ext w6 W) (by (repeat (first | with_reducible exact Ext.refl _ | with_reducible exact Ext.refl _ | with_reducible refine Ext.drew ?_ | with_reducible refine Ext.drewN ?_ _ | with_reducible refine Ext.alloc ?_ _ | with_reducible refine Ext.onto ?_ _ | (with_reducible refine Ext.setCells ?_ ?_ _ _; rotate_left; focus (first | omega | (simp; done) | (simp; omega))) | (with_reducible refine Ext.setCell ?_ ?_ _; rotate_left; focus (first | omega | (simp; done) | (simp; omega)))))) ?_
          rintro W7 hxk
          replace HX := Lib.hid (HX.out.trans hxk); replace H1 := Lib.hid (H1.out.on hxk); replace H2 := Lib.hid (H2.out.on hxk); replace HN1 := Lib.hid (HN1.out.on hxk); replace HN2 := Lib.hid (HN2.out.on hxk); replace HN3 := Lib.hid (HN3.out.on hxk); replace z0 := (hxk.cell (p := ⟨w.heap.size, 0, none⟩) hlt0).trans z0; replace z1 := (hxk.cell (p := ⟨w.heap.size, 1, none⟩) hlt0).trans z1; replace hlt0 := Nat.lt_of_lt_of_le hlt0 hxk.size
          clear hxk
          refine wp_region_later (by kernel_rfl) (by kernel_rfl) ?_
          repeat (first | go_big_quiet_step ((first
                      | (go_at_call 23; exact quietE (HSan.out _ (by (repeat (first | with_reducible exact HX.out | with_reducible exact Ext.refl _ | with_reducible refine Ext.drew ?_ | with_reducible refine Ext.drewN ?_ _ | with_reducible refine Ext.alloc ?_ _ | with_reducible refine Ext.onto ?_ _ | (with_reducible refine Ext.setCells ?_ ?_ _ _; rotate_left; focus (first | omega | (simp; done) | (simp; omega))) | (with_reducible refine Ext.setCell ?_ ?_ _; rotate_left; focus (first | omega | (simp; done) | (simp; omega))))))))
                      | (go_at_call 34; exact quietE (pcovers_is HA.out HOk.out (H1.out.on (by (repeat (first | with_reducible exact Ext.refl _ | with_reducible exact Ext.refl _ | with_reducible refine Ext.drew ?_ | with_reducible refine Ext.drewN ?_ _ | with_reducible refine Ext.alloc ?_ _ | with_reducible refine Ext.onto ?_ _ | (with_reducible refine Ext.setCells ?_ ?_ _ _; rotate_left; focus (first | omega | (simp; done) | (simp; omega))) | (with_reducible refine Ext.setCell ?_ ?_ _; rotate_left; focus (first | omega | (simp; done) | (simp; omega)))))))))
                      | (go_at_call 22; exact quietE (rcovers_is HA.out HOk.out (H1.out.on (by (repeat (first | with_reducible exact Ext.refl _ | with_reducible exact Ext.refl _ | with_reducible refine Ext.drew ?_ | with_reducible refine Ext.drewN ?_ _ | with_reducible refine Ext.alloc ?_ _ | with_reducible refine Ext.onto ?_ _ | (with_reducible refine Ext.setCells ?_ ?_ _ _; rotate_left; focus (first | omega | (simp; done) | (simp; omega))) | (with_reducible refine Ext.setCell ?_ ?_ _; rotate_left; focus (first | omega | (simp; done) | (simp; omega)))))))))
                      | (go_at_call 37; exact quietE (ptotal_is HA.out (H1.out.on (by (repeat (first | with_reducible exact Ext.refl _ | with_reducible exact Ext.refl _ | with_reducible refine Ext.drew ?_ | with_reducible refine Ext.drewN ?_ _ | with_reducible refine Ext.alloc ?_ _ | with_reducible refine Ext.onto ?_ _ | (with_reducible refine Ext.setCells ?_ ?_ _ _; rotate_left; focus (first | omega | (simp; done) | (simp; omega))) | (with_reducible refine Ext.setCell ?_ ?_ _; rotate_left; focus (first | omega | (simp; done) | (simp; omega)))))))))
                      | (go_at_call 42; exact quietE (rtotal_is HA.out (H1.out.on (by (repeat (first | with_reducible exact Ext.refl _ | with_reducible exact Ext.refl _ | with_reducible refine Ext.drew ?_ | with_reducible refine Ext.drewN ?_ _ | with_reducible refine Ext.alloc ?_ _ | with_reducible refine Ext.onto ?_ _ | (with_reducible refine Ext.setCells ?_ ?_ _ _; rotate_left; focus (first | omega | (simp; done) | (simp; omega))) | (with_reducible refine Ext.setCell ?_ ?_ _; rotate_left; focus (first | omega | (simp; done) | (simp; omega)))))))))
                      | (go_at_call 43; exact quietE (phas_is x HA.out (H1.out.on (by (repeat (first | with_reducible exact Ext.refl _ | with_reducible exact Ext.refl _ | with_reducible refine Ext.drew ?_ | with_reducible refine Ext.drewN ?_ _ | with_reducible refine Ext.alloc ?_ _ | with_reducible refine Ext.onto ?_ _ | (with_reducible refine Ext.setCells ?_ ?_ _ _; rotate_left; focus (first | omega | (simp; done) | (simp; omega))) | (with_reducible refine Ext.setCell ?_ ?_ _; rotate_left; focus (first | omega | (simp; done) | (simp; omega)))))))))
                      | (go_at_call 44; exact quietE (rhas_is x HA.out (H1.out.on (by (repeat (first | with_reducible exact Ext.refl _ | with_reducible exact Ext.refl _ | with_reducible refine Ext.drew ?_ | with_reducible refine Ext.drewN ?_ _ | with_reducible refine Ext.alloc ?_ _ | with_reducible refine Ext.onto ?_ _ | (with_reducible refine Ext.setCells ?_ ?_ _ _; rotate_left; focus (first | omega | (simp; done) | (simp; omega))) | (with_reducible refine Ext.setCell ?_ ?_ _; rotate_left; focus (first | omega | (simp; done) | (simp; omega))))))))))) | quiet_step ((first
                      | (go_at_call 23; exact quietE (HSan.out _ (by (repeat (first | with_reducible exact HX.out | with_reducible exact Ext.refl _ | with_reducible refine Ext.drew ?_ | with_reducible refine Ext.drewN ?_ _ | with_reducible refine Ext.alloc ?_ _ | with_reducible refine Ext.onto ?_ _ | (with_reducible refine Ext.setCells ?_ ?_ _ _; rotate_left; focus (first | omega | (simp; done) | (simp; omega))) | (with_reducible refine Ext.setCell ?_ ?_ _; rotate_left; focus (first | omega | (simp; done) | (simp; omega))))))))
                      | (go_at_call 34; exact quietE (pcovers_is HA.out HOk.out (H1.out.on (by (repeat (first | with_reducible exact Ext.refl _ | with_reducible exact Ext.refl _ | with_reducible refine Ext.drew ?_ | with_reducible refine Ext.drewN ?_ _ | with_reducible refine Ext.alloc ?_ _ | with_reducible refine Ext.onto ?_ _ | (with_reducible refine Ext.setCells ?_ ?_ _ _; rotate_left; focus (first | omega | (simp; done) | (simp; omega))) | (with_reducible refine Ext.setCell ?_ ?_ _; rotate_left; focus (first | omega | (simp; done) | (simp; omega)))))))))
                      | (go_at_call 22; exact quietE (rcovers_is HA.out HOk.out (H1.out.on (by (repeat (first | with_reducible exact Ext.refl _ | with_reducible exact Ext.refl _ | with_reducible refine Ext.drew ?_ | with_reducible refine Ext.drewN ?_ _ | with_reducible refine Ext.alloc ?_ _ | with_reducible refine Ext.onto ?_ _ | (with_reducible refine Ext.setCells ?_ ?_ _ _; rotate_left; focus (first | omega | (simp; done) | (simp; omega))) | (with_reducible refine Ext.setCell ?_ ?_ _; rotate_left; focus (first | omega | (simp; done) | (simp; omega)))))))))
                      | (go_at_call 37; exact quietE (ptotal_is HA.out (H1.out.on (by (repeat (first | with_reducible exact Ext.refl _ | with_reducible exact Ext.refl _ | with_reducible refine Ext.drew ?_ | with_reducible refine Ext.drewN ?_ _ | with_reducible refine Ext.alloc ?_ _ | with_reducible refine Ext.onto ?_ _ | (with_reducible refine Ext.setCells ?_ ?_ _ _; rotate_left; focus (first | omega | (simp; done) | (simp; omega))) | (with_reducible refine Ext.setCell ?_ ?_ _; rotate_left; focus (first | omega | (simp; done) | (simp; omega)))))))))
                      | (go_at_call 42; exact quietE (rtotal_is HA.out (H1.out.on (by (repeat (first | with_reducible exact Ext.refl _ | with_reducible exact Ext.refl _ | with_reducible refine Ext.drew ?_ | with_reducible refine Ext.drewN ?_ _ | with_reducible refine Ext.alloc ?_ _ | with_reducible refine Ext.onto ?_ _ | (with_reducible refine Ext.setCells ?_ ?_ _ _; rotate_left; focus (first | omega | (simp; done) | (simp; omega))) | (with_reducible refine Ext.setCell ?_ ?_ _; rotate_left; focus (first | omega | (simp; done) | (simp; omega)))))))))
                      | (go_at_call 43; exact quietE (phas_is x HA.out (H1.out.on (by (repeat (first | with_reducible exact Ext.refl _ | with_reducible exact Ext.refl _ | with_reducible refine Ext.drew ?_ | with_reducible refine Ext.drewN ?_ _ | with_reducible refine Ext.alloc ?_ _ | with_reducible refine Ext.onto ?_ _ | (with_reducible refine Ext.setCells ?_ ?_ _ _; rotate_left; focus (first | omega | (simp; done) | (simp; omega))) | (with_reducible refine Ext.setCell ?_ ?_ _; rotate_left; focus (first | omega | (simp; done) | (simp; omega)))))))))
                      | (go_at_call 44; exact quietE (rhas_is x HA.out (H1.out.on (by (repeat (first | with_reducible exact Ext.refl _ | with_reducible exact Ext.refl _ | with_reducible refine Ext.drew ?_ | with_reducible refine Ext.drewN ?_ _ | with_reducible refine Ext.alloc ?_ _ | with_reducible refine Ext.onto ?_ _ | (with_reducible refine Ext.setCells ?_ ?_ _ _; rotate_left; focus (first | omega | (simp; done) | (simp; omega))) | (with_reducible refine Ext.setCell ?_ ?_ _; rotate_left; focus (first | omega | (simp; done) | (simp; omega))))))))))))
          refine wpQuiet_nil ?_
          rintro _ ⟨xq, rfl⟩
          go_wp2
          go_ret
          exact ⟨by simp, (by (repeat (first | with_reducible exact HX.out | with_reducible exact Ext.refl _ | with_reducible refine Ext.drew ?_ | with_reducible refine Ext.drewN ?_ _ | with_reducible refine Ext.alloc ?_ _ | with_reducible refine Ext.onto ?_ _ | (with_reducible refine Ext.setCells ?_ ?_ _ _; rotate_left; focus (first | omega | (simp; done) | (simp; omega))) | (with_reducible refine Ext.setCell ?_ ?_ _; rotate_left; focus (first | omega | (simp; done) | (simp; omega))))))⟩
end Go.Proofs.YthhblgjbgjceiaaGreatDoor
