/- Walk of law 07: RangesCount. -/
import Derived.Test.YthhblgjbgjceiaaGreatDoorProg
import Derived.Test.YthhblgjbgjceiaaGreatDoorExt
import Derived.WalkKit
import Derived.WalkSpells
import Derived.WalkLawsBesides
import Derived.Deep.QuietTactic
import Derived.BigQuiet
import Derived.Test.YthhblgjbgjceiaaGreatDoorSc
set_option linter.unusedVariables false
set_option linter.unusedSimpArgs false
namespace Go.Proofs.YthhblgjbgjceiaaGreatDoor
open Go.RowKit Go.Shelf
open Go.Proofs
open Go.Proofs.Sp (Sp)

theorem adds_have {a b : List Sp} (ha : Sp.IsSet a) (hb : Sp.IsSet b) : Sp.rMinus (addsN a b) b = Sp.rMinus a b := by
  have h1 := adds_spec b a ha
  have h2 := Sp.rMinus_spec b h1.1
  have h3 := Sp.rMinus_spec b ha
  refine Sp.IsSet.ext h2.1 h3.1 (fun x => ?_)
  rw [h2.2, h3.2, h1.2]
  unfold orMem
  constructor
  · rintro ⟨k | k, n⟩
    · exact ⟨k, n⟩
    · exact absurd k n
  · rintro ⟨k, n⟩
    exact ⟨.inl k, n⟩
theorem meet_comm {a b : List Sp} (ha : Sp.IsSet a) (hb : Sp.IsSet b) : rMeet a b = rMeet b a := by
  have h1 := rMeet_spec (b := b) ha
  have h2 := rMeet_spec (b := a) hb
  exact Sp.IsSet.ext h1.1 h2.1 (fun x => ((h1.2 x).trans And.comm).trans (h2.2 x).symm)
def CntRel (w : World) (a b : List Sp) (i v : Value) (wr : World) : Prop := ∃ (k : Nat) (A' : Option Addr) (c' : Nat) (out : List Sp), k ≤ b.length ∧ i = .int .i64 k ∧ v = .slice A' out.length c' ∧ Hid (out = addsN a (b.take k)) ∧ Hid (SlIn A' c' out wr) ∧ Hid (Ext w wr)
theorem adds_take {a b : List Sp} (ha : SetIn a 1099511627776) (hb : SetIn b 1099511627776) (k : Nat) : SetIn (addsN a (b.take k)) 1099511627776 :=
  adds_in ha (fun s hs _ => hb.2 s (List.mem_of_mem_take hs))
set_option maxRecDepth 100000 in
set_option maxHeartbeats 1000000 in
theorem count_ok (A : Option Addr) (c : Nat) (a : List Sp) (B : Option Addr) (d : Nat) (b : List Sp) (w : World) (hL : Lib7 w) (h1 : SlIn A c a w) (h2 : SlIn B d b w) :
    Calls Tryz.prog 7 #[.slice A a.length c, .slice B b.length d] w fun e w' => e = .returned (.bool true) ∧ Ext w w' := by
  have HSan := san7 hL
  have H1 := Lib.hid h1
  have H2 := Lib.hid h2
  have HG : Hid True := Lib.hid trivial
  clear hL h1 h2
  by_cases hl1 : 40 < a.length
  · have HVA : Hid True := Lib.hid trivial
    have HVB : Hid True := Lib.hid trivial
    go_enter Tryz.func7, Tryz.ntmps7
    go_wp2_with (first
      | (go_at_call 27; first | (with_reducible refine (HVA.out _ (by (repeat (first | with_reducible exact Ext.refl _ | with_reducible exact Ext.refl _ | with_reducible refine Ext.drew ?_ | with_reducible refine Ext.drewN ?_ _ | with_reducible refine Ext.alloc ?_ _ | with_reducible refine Ext.onto ?_ _ | (with_reducible refine Ext.setCells ?_ ?_ _ _; rotate_left; focus (first | omega | (simp; done) | (simp; omega))) | (with_reducible refine Ext.setCell ?_ ?_ _; rotate_left; focus (first | omega | (simp; done) | (simp; omega))))))).mono ?_; rintro e w' ⟨rfl, hxl⟩; obtain ⟨xl, rfl⟩ := hxl.asLater; clear hxl) | (with_reducible refine (HVB.out _ (by (repeat (first | with_reducible exact Ext.refl _ | with_reducible exact Ext.refl _ | with_reducible refine Ext.drew ?_ | with_reducible refine Ext.drewN ?_ _ | with_reducible refine Ext.alloc ?_ _ | with_reducible refine Ext.onto ?_ _ | (with_reducible refine Ext.setCells ?_ ?_ _ _; rotate_left; focus (first | omega | (simp; done) | (simp; omega))) | (with_reducible refine Ext.setCell ?_ ?_ _; rotate_left; focus (first | omega | (simp; done) | (simp; omega))))))).mono ?_; rintro e w' ⟨rfl, hxl⟩; obtain ⟨xl, rfl⟩ := hxl.asLater; clear hxl))
      | (go_at_call 30; refine (HG.out _).mono ?_; rintro e w' ⟨rfl, hxl⟩; obtain ⟨xl, rfl⟩ := hxl.asLater; clear hxl)
      | (go_at_call 23; refine (HSan.out _ (by (repeat (first | with_reducible exact Ext.refl _ | with_reducible exact Ext.refl _ | with_reducible refine Ext.drew ?_ | with_reducible refine Ext.drewN ?_ _ | with_reducible refine Ext.alloc ?_ _ | with_reducible refine Ext.onto ?_ _ | (with_reducible refine Ext.setCells ?_ ?_ _ _; rotate_left; focus (first | omega | (simp; done) | (simp; omega))) | (with_reducible refine Ext.setCell ?_ ?_ _; rotate_left; focus (first | omega | (simp; done) | (simp; omega))))))).mono ?_; rintro e w' ⟨rfl, hxl⟩; obtain ⟨xl, rfl⟩ := hxl.asLater; clear hxl))
    go_ret
    exact ⟨rfl, (by (repeat (first | with_reducible exact Ext.refl _ | with_reducible exact Ext.refl _ | with_reducible refine Ext.drew ?_ | with_reducible refine Ext.drewN ?_ _ | with_reducible refine Ext.alloc ?_ _ | with_reducible refine Ext.onto ?_ _ | (with_reducible refine Ext.setCells ?_ ?_ _ _; rotate_left; focus (first | omega | (simp; done) | (simp; omega))) | (with_reducible refine Ext.setCell ?_ ?_ _; rotate_left; focus (first | omega | (simp; done) | (simp; omega))))))⟩
  by_cases hl2 : 40 < b.length
  · have HVA : Hid True := Lib.hid trivial
    have HVB : Hid True := Lib.hid trivial
    go_enter Tryz.func7, Tryz.ntmps7
    go_wp2_with (first
      | (go_at_call 27; first | (with_reducible refine (HVA.out _ (by (repeat (first | with_reducible exact Ext.refl _ | with_reducible exact Ext.refl _ | with_reducible refine Ext.drew ?_ | with_reducible refine Ext.drewN ?_ _ | with_reducible refine Ext.alloc ?_ _ | with_reducible refine Ext.onto ?_ _ | (with_reducible refine Ext.setCells ?_ ?_ _ _; rotate_left; focus (first | omega | (simp; done) | (simp; omega))) | (with_reducible refine Ext.setCell ?_ ?_ _; rotate_left; focus (first | omega | (simp; done) | (simp; omega))))))).mono ?_; rintro e w' ⟨rfl, hxl⟩; obtain ⟨xl, rfl⟩ := hxl.asLater; clear hxl) | (with_reducible refine (HVB.out _ (by (repeat (first | with_reducible exact Ext.refl _ | with_reducible exact Ext.refl _ | with_reducible refine Ext.drew ?_ | with_reducible refine Ext.drewN ?_ _ | with_reducible refine Ext.alloc ?_ _ | with_reducible refine Ext.onto ?_ _ | (with_reducible refine Ext.setCells ?_ ?_ _ _; rotate_left; focus (first | omega | (simp; done) | (simp; omega))) | (with_reducible refine Ext.setCell ?_ ?_ _; rotate_left; focus (first | omega | (simp; done) | (simp; omega))))))).mono ?_; rintro e w' ⟨rfl, hxl⟩; obtain ⟨xl, rfl⟩ := hxl.asLater; clear hxl))
      | (go_at_call 30; refine (HG.out _).mono ?_; rintro e w' ⟨rfl, hxl⟩; obtain ⟨xl, rfl⟩ := hxl.asLater; clear hxl)
      | (go_at_call 23; refine (HSan.out _ (by (repeat (first | with_reducible exact Ext.refl _ | with_reducible exact Ext.refl _ | with_reducible refine Ext.drew ?_ | with_reducible refine Ext.drewN ?_ _ | with_reducible refine Ext.alloc ?_ _ | with_reducible refine Ext.onto ?_ _ | (with_reducible refine Ext.setCells ?_ ?_ _ _; rotate_left; focus (first | omega | (simp; done) | (simp; omega))) | (with_reducible refine Ext.setCell ?_ ?_ _; rotate_left; focus (first | omega | (simp; done) | (simp; omega))))))).mono ?_; rintro e w' ⟨rfl, hxl⟩; obtain ⟨xl, rfl⟩ := hxl.asLater; clear hxl))
    go_ret
    exact ⟨rfl, (by (repeat (first | with_reducible exact Ext.refl _ | with_reducible exact Ext.refl _ | with_reducible refine Ext.drew ?_ | with_reducible refine Ext.drewN ?_ _ | with_reducible refine Ext.alloc ?_ _ | with_reducible refine Ext.onto ?_ _ | (with_reducible refine Ext.setCells ?_ ?_ _ _; rotate_left; focus (first | omega | (simp; done) | (simp; omega))) | (with_reducible refine Ext.setCell ?_ ?_ _; rotate_left; focus (first | omega | (simp; done) | (simp; omega))))))⟩
  obtain ⟨va, hva⟩ : ∃ v, setB a = v := ⟨_, rfl⟩
  obtain ⟨vb, hvb⟩ : ∃ v, setB b = v := ⟨_, rfl⟩
  have HVA := Lib.hid (fun W (hx : Ext w W) => rvalid_is va hva (by omega) (H1.out.on hx))
  have HVB := Lib.hid (fun W (hx : Ext w W) => rvalid_is vb hvb (by omega) (H2.out.on hx))
  cases va with
  | false =>
    clear hva hvb
    go_enter Tryz.func7, Tryz.ntmps7
    go_wp2_with (first
      | (go_at_call 27; first | (with_reducible refine (HVA.out _ (by (repeat (first | with_reducible exact Ext.refl _ | with_reducible exact Ext.refl _ | with_reducible refine Ext.drew ?_ | with_reducible refine Ext.drewN ?_ _ | with_reducible refine Ext.alloc ?_ _ | with_reducible refine Ext.onto ?_ _ | (with_reducible refine Ext.setCells ?_ ?_ _ _; rotate_left; focus (first | omega | (simp; done) | (simp; omega))) | (with_reducible refine Ext.setCell ?_ ?_ _; rotate_left; focus (first | omega | (simp; done) | (simp; omega))))))).mono ?_; rintro e w' ⟨rfl, hxl⟩; obtain ⟨xl, rfl⟩ := hxl.asLater; clear hxl) | (with_reducible refine (HVB.out _ (by (repeat (first | with_reducible exact Ext.refl _ | with_reducible exact Ext.refl _ | with_reducible refine Ext.drew ?_ | with_reducible refine Ext.drewN ?_ _ | with_reducible refine Ext.alloc ?_ _ | with_reducible refine Ext.onto ?_ _ | (with_reducible refine Ext.setCells ?_ ?_ _ _; rotate_left; focus (first | omega | (simp; done) | (simp; omega))) | (with_reducible refine Ext.setCell ?_ ?_ _; rotate_left; focus (first | omega | (simp; done) | (simp; omega))))))).mono ?_; rintro e w' ⟨rfl, hxl⟩; obtain ⟨xl, rfl⟩ := hxl.asLater; clear hxl))
      | (go_at_call 30; refine (HG.out _).mono ?_; rintro e w' ⟨rfl, hxl⟩; obtain ⟨xl, rfl⟩ := hxl.asLater; clear hxl)
      | (go_at_call 23; refine (HSan.out _ (by (repeat (first | with_reducible exact Ext.refl _ | with_reducible exact Ext.refl _ | with_reducible refine Ext.drew ?_ | with_reducible refine Ext.drewN ?_ _ | with_reducible refine Ext.alloc ?_ _ | with_reducible refine Ext.onto ?_ _ | (with_reducible refine Ext.setCells ?_ ?_ _ _; rotate_left; focus (first | omega | (simp; done) | (simp; omega))) | (with_reducible refine Ext.setCell ?_ ?_ _; rotate_left; focus (first | omega | (simp; done) | (simp; omega))))))).mono ?_; rintro e w' ⟨rfl, hxl⟩; obtain ⟨xl, rfl⟩ := hxl.asLater; clear hxl))
    go_ret
    exact ⟨rfl, (by (repeat (first | with_reducible exact Ext.refl _ | with_reducible exact Ext.refl _ | with_reducible refine Ext.drew ?_ | with_reducible refine Ext.drewN ?_ _ | with_reducible refine Ext.alloc ?_ _ | with_reducible refine Ext.onto ?_ _ | (with_reducible refine Ext.setCells ?_ ?_ _ _; rotate_left; focus (first | omega | (simp; done) | (simp; omega))) | (with_reducible refine Ext.setCell ?_ ?_ _; rotate_left; focus (first | omega | (simp; done) | (simp; omega))))))⟩
  | true =>
    cases vb with
    | false =>
      clear hva hvb
      go_enter Tryz.func7, Tryz.ntmps7
      go_wp2_with (first
        | (go_at_call 27; first | (with_reducible refine (HVA.out _ (by (repeat (first | with_reducible exact Ext.refl _ | with_reducible exact Ext.refl _ | with_reducible refine Ext.drew ?_ | with_reducible refine Ext.drewN ?_ _ | with_reducible refine Ext.alloc ?_ _ | with_reducible refine Ext.onto ?_ _ | (with_reducible refine Ext.setCells ?_ ?_ _ _; rotate_left; focus (first | omega | (simp; done) | (simp; omega))) | (with_reducible refine Ext.setCell ?_ ?_ _; rotate_left; focus (first | omega | (simp; done) | (simp; omega))))))).mono ?_; rintro e w' ⟨rfl, hxl⟩; obtain ⟨xl, rfl⟩ := hxl.asLater; clear hxl) | (with_reducible refine (HVB.out _ (by (repeat (first | with_reducible exact Ext.refl _ | with_reducible exact Ext.refl _ | with_reducible refine Ext.drew ?_ | with_reducible refine Ext.drewN ?_ _ | with_reducible refine Ext.alloc ?_ _ | with_reducible refine Ext.onto ?_ _ | (with_reducible refine Ext.setCells ?_ ?_ _ _; rotate_left; focus (first | omega | (simp; done) | (simp; omega))) | (with_reducible refine Ext.setCell ?_ ?_ _; rotate_left; focus (first | omega | (simp; done) | (simp; omega))))))).mono ?_; rintro e w' ⟨rfl, hxl⟩; obtain ⟨xl, rfl⟩ := hxl.asLater; clear hxl))
        | (go_at_call 30; refine (HG.out _).mono ?_; rintro e w' ⟨rfl, hxl⟩; obtain ⟨xl, rfl⟩ := hxl.asLater; clear hxl)
        | (go_at_call 23; refine (HSan.out _ (by (repeat (first | with_reducible exact Ext.refl _ | with_reducible exact Ext.refl _ | with_reducible refine Ext.drew ?_ | with_reducible refine Ext.drewN ?_ _ | with_reducible refine Ext.alloc ?_ _ | with_reducible refine Ext.onto ?_ _ | (with_reducible refine Ext.setCells ?_ ?_ _ _; rotate_left; focus (first | omega | (simp; done) | (simp; omega))) | (with_reducible refine Ext.setCell ?_ ?_ _; rotate_left; focus (first | omega | (simp; done) | (simp; omega))))))).mono ?_; rintro e w' ⟨rfl, hxl⟩; obtain ⟨xl, rfl⟩ := hxl.asLater; clear hxl))
      go_ret
      exact ⟨rfl, (by (repeat (first | with_reducible exact Ext.refl _ | with_reducible exact Ext.refl _ | with_reducible refine Ext.drew ?_ | with_reducible refine Ext.drewN ?_ _ | with_reducible refine Ext.alloc ?_ _ | with_reducible refine Ext.onto ?_ _ | (with_reducible refine Ext.setCells ?_ ?_ _ _; rotate_left; focus (first | omega | (simp; done) | (simp; omega))) | (with_reducible refine Ext.setCell ?_ ?_ _; rotate_left; focus (first | omega | (simp; done) | (simp; omega))))))⟩
    | true =>
      have HA := Lib.hid (setB_set hva)
      have HB := Lib.hid (setB_set hvb)
      clear hva hvb HG
      go_enter Tryz.func7, Tryz.ntmps7
      go_wp2_with (first
        | (go_at_call 33; refine (show Hid _ from ?_).out)
        | (go_at_call 35; refine (show Hid _ from ?_).out)
        | (go_at_call 38; refine (show Hid _ from ?_).out)
        | (go_at_call 32; refine (show Hid _ from ?_).out)
        | (go_at_call 31; refine (show Hid _ from ?_).out)
        | (go_at_call 34; refine (show Hid _ from ?_).out)
        | (go_at_call 37; refine (show Hid _ from ?_).out)
        | (go_at_call 43; refine (show Hid _ from ?_).out)
        | (go_at_call 36; refine (show Hid _ from ?_).out)
        | (go_at_call 24; refine (show Hid _ from ?_).out)
        | (go_at_call 28; refine (show Hid _ from ?_).out)
        | (go_at_call 26; refine (show Hid _ from ?_).out)
        | (go_at_call 27; refine (show Hid _ from ?_).out)
        | (go_at_call 30; refine (show Hid _ from ?_).out)
        | (go_at_call 39; refine (show Hid _ from ?_).out)
        | (go_at_call 40; refine (show Hid _ from ?_).out)
        | (go_at_call 41; refine (show Hid _ from ?_).out)
        | (go_at_call 22; refine (show Hid _ from ?_).out)
        | (go_at_call 42; refine (show Hid _ from ?_).out)
        | (go_at_call 44; refine (show Hid _ from ?_).out)
        | (go_at_call 25; refine (show Hid _ from ?_).out)
        | (go_at_call 29; refine (show Hid _ from ?_).out)
        | (go_at_call 23; refine (show Hid _ from ?_).out))
      refine Lib.hid ?_
      refine (HVA.out _ (by (repeat (first | with_reducible exact Ext.refl _ | with_reducible exact Ext.refl _ | with_reducible refine Ext.drew ?_ | with_reducible refine Ext.drewN ?_ _ | with_reducible refine Ext.alloc ?_ _ | with_reducible refine Ext.onto ?_ _ | (with_reducible refine Ext.setCells ?_ ?_ _ _; rotate_left; focus (first | omega | (simp; done) | (simp; omega))) | (with_reducible refine Ext.setCell ?_ ?_ _; rotate_left; focus (first | omega | (simp; done) | (simp; omega))))))).mono ?_
      rintro e w' ⟨rfl, hxl⟩; obtain ⟨xa, rfl⟩ := hxl.asLater; clear hxl
      go_wp2_with (first
        | (go_at_call 33; refine (show Hid _ from ?_).out)
        | (go_at_call 35; refine (show Hid _ from ?_).out)
        | (go_at_call 38; refine (show Hid _ from ?_).out)
        | (go_at_call 32; refine (show Hid _ from ?_).out)
        | (go_at_call 31; refine (show Hid _ from ?_).out)
        | (go_at_call 34; refine (show Hid _ from ?_).out)
        | (go_at_call 37; refine (show Hid _ from ?_).out)
        | (go_at_call 43; refine (show Hid _ from ?_).out)
        | (go_at_call 36; refine (show Hid _ from ?_).out)
        | (go_at_call 24; refine (show Hid _ from ?_).out)
        | (go_at_call 28; refine (show Hid _ from ?_).out)
        | (go_at_call 26; refine (show Hid _ from ?_).out)
        | (go_at_call 27; refine (show Hid _ from ?_).out)
        | (go_at_call 30; refine (show Hid _ from ?_).out)
        | (go_at_call 39; refine (show Hid _ from ?_).out)
        | (go_at_call 40; refine (show Hid _ from ?_).out)
        | (go_at_call 41; refine (show Hid _ from ?_).out)
        | (go_at_call 22; refine (show Hid _ from ?_).out)
        | (go_at_call 42; refine (show Hid _ from ?_).out)
        | (go_at_call 44; refine (show Hid _ from ?_).out)
        | (go_at_call 25; refine (show Hid _ from ?_).out)
        | (go_at_call 29; refine (show Hid _ from ?_).out)
        | (go_at_call 23; refine (show Hid _ from ?_).out))
      refine Lib.hid ?_
      refine (HVB.out _ (by (repeat (first | with_reducible exact Ext.refl _ | with_reducible exact Ext.refl _ | with_reducible refine Ext.drew ?_ | with_reducible refine Ext.drewN ?_ _ | with_reducible refine Ext.alloc ?_ _ | with_reducible refine Ext.onto ?_ _ | (with_reducible refine Ext.setCells ?_ ?_ _ _; rotate_left; focus (first | omega | (simp; done) | (simp; omega))) | (with_reducible refine Ext.setCell ?_ ?_ _; rotate_left; focus (first | omega | (simp; done) | (simp; omega))))))).mono ?_
      rintro e w' ⟨rfl, hxl⟩; obtain ⟨xb, rfl⟩ := hxl.asLater; clear hxl
      clear HVA HVB
      go_wp2_with (first
        | (at_builtin; refine app_reads spT spE rfl _ _ rfl w.heap.size _ _ [] rfl (own_lit0 _ _ _ (by first | omega | (simp [later_size, setCells_size]; done) | (simp [later_size, setCells_size]; omega)) (by first | omega | (simp [later_size, setCells_size]; done) | (simp [later_size, setCells_size]; omega))) w.heap.size A c a rfl (H1.out.hr.ext (by (repeat (first | with_reducible exact Ext.refl _ | with_reducible exact Ext.refl _ | with_reducible refine Ext.drew ?_ | with_reducible refine Ext.drewN ?_ _ | with_reducible refine Ext.alloc ?_ _ | with_reducible refine Ext.onto ?_ _ | (with_reducible refine Ext.setCells ?_ ?_ _ _; rotate_left; focus (first | omega | (simp; done) | (simp; omega))) | (with_reducible refine Ext.setCell ?_ ?_ _; rotate_left; focus (first | omega | (simp; done) | (simp; omega)))))) (Nat.le_refl _)) H1.out.z (by simp; omega) (by simp; omega) (by first | omega | (simp [later_size, setCells_size]; done) | (simp [later_size, setCells_size]; omega)) ?_; intro A3 c3 l3 w3 HL3 HO3 hB hl1 hl2 _; have HX3 : Hid (Ext w w3) := Lib.hid ((show Ext w _ from (by (repeat (first | with_reducible exact Ext.refl _ | with_reducible exact Ext.refl _ | with_reducible refine Ext.drew ?_ | with_reducible refine Ext.drewN ?_ _ | with_reducible refine Ext.alloc ?_ _ | with_reducible refine Ext.onto ?_ _ | (with_reducible refine Ext.setCells ?_ ?_ _ _; rotate_left; focus (first | omega | (simp; done) | (simp; omega))) | (with_reducible refine Ext.setCell ?_ ?_ _; rotate_left; focus (first | omega | (simp; done) | (simp; omega))))))).grown hB (Nat.le_refl _)); have hsz3 := HX3.out.size; have HP := Lib.hid (slin_own HO3); clear HO3 hB hl1 hl2)
        | (at_builtin; refine app_reads spT spE rfl _ _ rfl w3.heap.size _ _ [] rfl (own_lit0 _ _ _ (by first | omega | (simp [later_size, setCells_size]; done) | (simp [later_size, setCells_size]; omega)) (by first | omega | (simp [later_size, setCells_size]; done) | (simp [later_size, setCells_size]; omega))) w.heap.size B d b rfl (H2.out.hr.ext (by (repeat (first | with_reducible exact HX3.out | with_reducible exact Ext.refl _ | with_reducible refine Ext.drew ?_ | with_reducible refine Ext.drewN ?_ _ | with_reducible refine Ext.alloc ?_ _ | with_reducible refine Ext.onto ?_ _ | (with_reducible refine Ext.setCells ?_ ?_ _ _; rotate_left; focus (first | omega | (simp; done) | (simp; omega))) | (with_reducible refine Ext.setCell ?_ ?_ _; rotate_left; focus (first | omega | (simp; done) | (simp; omega)))))) (Nat.le_refl _)) H2.out.z (by simp; omega) (by simp; omega) (by first | omega | (simp [later_size, setCells_size]; done) | (simp [later_size, setCells_size]; omega)) ?_; intro A4 c4 l4 w4 HL4 HO4 hB hl1 hl2 _; have hxk : Ext w3 w4 := (show Ext w3 _ from (by (repeat (first | with_reducible exact Ext.refl _ | with_reducible exact Ext.refl _ | with_reducible refine Ext.drew ?_ | with_reducible refine Ext.drewN ?_ _ | with_reducible refine Ext.alloc ?_ _ | with_reducible refine Ext.onto ?_ _ | (with_reducible refine Ext.setCells ?_ ?_ _ _; rotate_left; focus (first | omega | (simp; done) | (simp; omega))) | (with_reducible refine Ext.setCell ?_ ?_ _; rotate_left; focus (first | omega | (simp; done) | (simp; omega))))))).grown hB (Nat.le_refl _); have HQ := Lib.hid (slin_own HO4); clear HO4 hB hl1 hl2; have HX := Lib.hid (HX3.out.trans hxk); replace HP := Lib.hid (HP.out.on hxk); clear hxk HX3))
      replace H1 := Lib.hid (H1.out.on HX.out)
      replace H2 := Lib.hid (H2.out.on HX.out)
      rw [List.nil_append] at HL3 HL4
      obtain rfl := HL3.out.symm
      obtain rfl := HL4.out.symm
      clear HL3 HL4 hsz3
      obtain ⟨X, hX⟩ : ∃ X, addsN a b = X := ⟨_, rfl⟩
      have HXI : Hid (SetIn X 1099511627776) := Lib.hid (by rw [← hX]; have := adds_take HA.out HB.out b.length; rwa [List.take_length] at this)
      have HXX : Hid (addsN b a = X) := Lib.hid (by rw [← hX]; exact adds_comm HB.out.1 HA.out.1)
      have HXE := Lib.hid hX
      clear hX
      go_loopw [38, 5] (CntRel w4 a b) (fun i _ _ => b.length - (intOf i).toNat)
      case atStart => exact ⟨0, A3, c3, a, Nat.zero_le _, rfl, rfl, Lib.hid rfl, HP, Lib.hid (Ext.refl _)⟩
      case round =>
        obtain ⟨k, A', c', out, hk, rfl, rfl, HO, HS, hxk⟩ := hrel
        replace H1 := Lib.hid (H1.out.on hxk.out)
        replace H2 := Lib.hid (H2.out.on hxk.out)
        have HOI : Hid (SetIn out 1099511627776) := Lib.hid (by rw [HO.out]; exact adds_take HA.out HB.out k)
        by_cases hlt : k < b.length
        · obtain ⟨bb, off, rfl, hbb, y1, y2⟩ := ReadsSp.cell H2.out.hr k hlt
          have HJ := Lib.hid (adds_snoc a b k hlt)
          rw [← HO.out] at HJ
          have hin := List.getElem_mem hlt
          have i1 := HB.out.1.2 _ hin
          have i2 := HB.out.2 _ hin
          generalize b[k] = t at *
          obtain ⟨t1, t2⟩ := t
          simp only [] at y1 y2 i1 i2
          have HAd := Lib.hid (fun W (p : SlIn A' c' out W) => padd_is (s := (t1, t2)) HOI.out (fun _ => by simp only []; omega) (by simp only []; omega) p)
          rw [← HJ.out] at HAd
          clear hin
          go_wp2_with (go_at_call 35; refine (HAd.out _ (HS.out.on (by (repeat (first | with_reducible exact Ext.refl _ | with_reducible exact Ext.refl _ | with_reducible refine Ext.drew ?_ | with_reducible refine Ext.drewN ?_ _ | with_reducible refine Ext.alloc ?_ _ | with_reducible refine Ext.onto ?_ _ | (with_reducible refine Ext.setCells ?_ ?_ _ _; rotate_left; focus (first | omega | (simp; done) | (simp; omega))) | (with_reducible refine Ext.setCell ?_ ?_ _; rotate_left; focus (first | omega | (simp; done) | (simp; omega)))))))).mono ?_; rintro e w5 ⟨A5, c5, rfl, hs5, hx5⟩; have HX5 := Lib.hid ((show Ext wr _ from (by (repeat (first | with_reducible exact Ext.refl _ | with_reducible exact Ext.refl _ | with_reducible refine Ext.drew ?_ | with_reducible refine Ext.drewN ?_ _ | with_reducible refine Ext.alloc ?_ _ | with_reducible refine Ext.onto ?_ _ | (with_reducible refine Ext.setCells ?_ ?_ _ _; rotate_left; focus (first | omega | (simp; done) | (simp; omega))) | (with_reducible refine Ext.setCell ?_ ?_ _; rotate_left; focus (first | omega | (simp; done) | (simp; omega))))))).trans hx5); have HS5 := Lib.hid hs5; clear hs5 hx5)
          go_roundw
          case rel => exact ⟨k + 1, A5, c5, _, by omega, by go_num, rfl, Lib.hid rfl, HS5, Lib.hid (hxk.out.trans HX5.out)⟩
          case measure => simp [intOf]; omega
        · have e : k = b.length := by omega
          subst e
          rw [List.take_length, HXE.out] at HO
          obtain rfl := HO.out
          replace HX := Lib.hid (HX.out.trans hxk.out)
          replace HQ := Lib.hid (HQ.out.on hxk.out)
          clear hxk hk hlt HP HO
          obtain ⟨W5, rfl⟩ : ∃ W, W = wr := ⟨wr, rfl⟩
          go_wp2
          go_loopw [48, 6] (CntRel W5 b a) (fun i _ _ => a.length - (intOf i).toNat)
          case atStart => exact ⟨0, A4, c4, b, Nat.zero_le _, rfl, rfl, Lib.hid rfl, HQ, Lib.hid (Ext.refl _)⟩
          case round =>
            obtain ⟨k, A6, c6, out2, hk, rfl, rfl, HO, HT, hxk⟩ := hrel
            replace H1 := Lib.hid (H1.out.on hxk.out)
            replace H2 := Lib.hid (H2.out.on hxk.out)
            replace HS := Lib.hid (HS.out.on hxk.out)
            have HOI2 : Hid (SetIn out2 1099511627776) := Lib.hid (by rw [HO.out]; exact adds_take HB.out HA.out k)
            by_cases hlt : k < a.length
            · obtain ⟨bb, off, rfl, hbb, y1, y2⟩ := ReadsSp.cell H1.out.hr k hlt
              have HJ := Lib.hid (adds_snoc b a k hlt)
              rw [← HO.out] at HJ
              have hin := List.getElem_mem hlt
              have i1 := HA.out.1.2 _ hin
              have i2 := HA.out.2 _ hin
              generalize a[k] = t at *
              obtain ⟨t1, t2⟩ := t
              simp only [] at y1 y2 i1 i2
              have HAd := Lib.hid (fun W (p : SlIn A6 c6 out2 W) => padd_is (s := (t1, t2)) HOI2.out (fun _ => by simp only []; omega) (by simp only []; omega) p)
              rw [← HJ.out] at HAd
              clear hin
              go_wp2_with (go_at_call 35; refine (HAd.out _ (HT.out.on (by (repeat (first | with_reducible exact Ext.refl _ | with_reducible exact Ext.refl _ | with_reducible refine Ext.drew ?_ | with_reducible refine Ext.drewN ?_ _ | with_reducible refine Ext.alloc ?_ _ | with_reducible refine Ext.onto ?_ _ | (with_reducible refine Ext.setCells ?_ ?_ _ _; rotate_left; focus (first | omega | (simp; done) | (simp; omega))) | (with_reducible refine Ext.setCell ?_ ?_ _; rotate_left; focus (first | omega | (simp; done) | (simp; omega)))))))).mono ?_; rintro e w5 ⟨A5, c5, rfl, hs5, hx5⟩; have HX5 := Lib.hid ((show Ext wr _ from (by (repeat (first | with_reducible exact Ext.refl _ | with_reducible exact Ext.refl _ | with_reducible refine Ext.drew ?_ | with_reducible refine Ext.drewN ?_ _ | with_reducible refine Ext.alloc ?_ _ | with_reducible refine Ext.onto ?_ _ | (with_reducible refine Ext.setCells ?_ ?_ _ _; rotate_left; focus (first | omega | (simp; done) | (simp; omega))) | (with_reducible refine Ext.setCell ?_ ?_ _; rotate_left; focus (first | omega | (simp; done) | (simp; omega))))))).trans hx5); have HS5 := Lib.hid hs5; clear hs5 hx5)
              go_roundw
              case rel => exact ⟨k + 1, A5, c5, _, by omega, by go_num, rfl, Lib.hid rfl, HS5, Lib.hid (hxk.out.trans HX5.out)⟩
              case measure => simp [intOf]; omega
            · have e : k = a.length := by omega
              subst e
              rw [List.take_length, HXX.out] at HO
              obtain rfl := HO.out
              replace HX := Lib.hid (HX.out.trans hxk.out)
              clear hxk hk hlt HQ HO
              obtain ⟨W6, rfl⟩ : ∃ W, W = wr := ⟨wr, rfl⟩
              obtain ⟨m1, hm1⟩ : ∃ m, rMeet a b = m := ⟨_, rfl⟩
              obtain ⟨m2, hm2⟩ : ∃ m, Sp.rMinus a b = m := ⟨_, rfl⟩
              have HM1 : Hid (SetIn m1 1099511627776) := Lib.hid (by rw [← hm1]; exact rMeet_in HA.out)
              have HM2 : Hid (SetIn m2 1099511627776) := Lib.hid (by rw [← hm2]; exact rMinus_in2 HA.out)
              have HT1 : Hid (totN a + totN b = totN out2 + totN m1) := Lib.hid (by
                rw [← hm1]
                refine tot_both HA.out HB.out HXI.out (rMeet_in HA.out) (fun k => ?_) (fun k => (rMeet_spec HA.out.1).2 k)
                have := (adds_spec b a HA.out.1).2 k
                rw [HXE.out] at this
                exact this)
              have HC1 := Lib.hid (fun (W : World) (p1 : SlIn A c a W) (p2 : SlIn B d b W) => pmeet_is HA.out HB.out p1 p2)
              have HC2 := Lib.hid (fun (W : World) (p1 : SlIn A c a W) (p2 : SlIn B d b W) => pminus_is HA.out HB.out p1 p2)
              have HC3 := Lib.hid (fun (W : World) (p1 : SlIn A' c' out2 W) (p2 : SlIn B d b W) => pminus_is HXI.out HB.out p1 p2)
              have HC4 := Lib.hid (fun (W : World) (p1 : SlIn A c a W) (p2 : SlIn B d b W) => pmeet_is HB.out HA.out p2 p1)
              have e3 : Sp.rMinus out2 b = m2 := by rw [← hm2, ← HXE.out]; exact adds_have HA.out.1 HB.out.1
              have e4 : rMeet b a = m1 := by rw [← hm1]; exact meet_comm HB.out.1 HA.out.1
              rw [hm1] at HC1
              rw [hm2] at HC2
              rw [e3] at HC3
              rw [e4] at HC4
              have hq1 := len40 HM1.out
              have hq2 := len40 HM2.out
              have hq3 := len40 HXI.out
              have t1 := HA.out.tot (by decide)
              have t2 := HB.out.tot (by decide)
              have t3 := HXI.out.tot (by decide)
              have t4 := HM1.out.tot (by decide)
              have K1 := Lib.hid (fun (W : World) (p1 : SlIn A c a W) => ptotal_is HA.out p1)
              have K2 := Lib.hid (fun (W : World) (p1 : SlIn B d b W) => ptotal_is HB.out p1)
              have K3 := Lib.hid (fun (W : World) (p1 : SlIn A' c' out2 W) => ptotal_is HXI.out p1)
              have K4 := Lib.hid (fun (W : World) (A1 : Option Addr) (c1 : Nat) (p1 : SlIn A1 c1 m1 W) => ptotal_is HM1.out p1)
              have ht := HT1.out
              generalize totN a = n1 at *
              generalize totN b = n2 at *
              generalize totN out2 = n3 at *
              generalize totN m1 = n4 at *
              have hb : (n1 + n2 != n3 + n4) = false := by simp [ht]
              clear hm1 hm2 e3 e4 HT1 HXX HXE
              go_wp2_with (first
                | (go_at_call 33; refine (show Hid _ from ?_).out)
                | (go_at_call 35; refine (show Hid _ from ?_).out)
                | (go_at_call 38; refine (show Hid _ from ?_).out)
                | (go_at_call 32; refine (show Hid _ from ?_).out)
                | (go_at_call 31; refine (show Hid _ from ?_).out)
                | (go_at_call 34; refine (show Hid _ from ?_).out)
                | (go_at_call 37; refine (show Hid _ from ?_).out)
                | (go_at_call 43; refine (show Hid _ from ?_).out)
                | (go_at_call 36; refine (show Hid _ from ?_).out)
                | (go_at_call 24; refine (show Hid _ from ?_).out)
                | (go_at_call 28; refine (show Hid _ from ?_).out)
                | (go_at_call 26; refine (show Hid _ from ?_).out)
                | (go_at_call 27; refine (show Hid _ from ?_).out)
                | (go_at_call 30; refine (show Hid _ from ?_).out)
                | (go_at_call 39; refine (show Hid _ from ?_).out)
                | (go_at_call 40; refine (show Hid _ from ?_).out)
                | (go_at_call 41; refine (show Hid _ from ?_).out)
                | (go_at_call 22; refine (show Hid _ from ?_).out)
                | (go_at_call 42; refine (show Hid _ from ?_).out)
                | (go_at_call 44; refine (show Hid _ from ?_).out)
                | (go_at_call 25; refine (show Hid _ from ?_).out)
                | (go_at_call 29; refine (show Hid _ from ?_).out)
                | (go_at_call 23; refine (show Hid _ from ?_).out))
              refine Lib.hid ?_
              refine (pvalid_yes HXI.out (HS.out.on (by (repeat (first | with_reducible exact Ext.refl _ | with_reducible exact Ext.refl _ | with_reducible refine Ext.drew ?_ | with_reducible refine Ext.drewN ?_ _ | with_reducible refine Ext.alloc ?_ _ | with_reducible refine Ext.onto ?_ _ | (with_reducible refine Ext.setCells ?_ ?_ _ _; rotate_left; focus (first | omega | (simp; done) | (simp; omega))) | (with_reducible refine Ext.setCell ?_ ?_ _; rotate_left; focus (first | omega | (simp; done) | (simp; omega)))))))).mono ?_
              rintro e w' ⟨rfl, hxl⟩; obtain ⟨v1, rfl⟩ := hxl.asLater; clear hxl
              go_wp2_with (first
                | (go_at_call 33; refine (show Hid _ from ?_).out)
                | (go_at_call 35; refine (show Hid _ from ?_).out)
                | (go_at_call 38; refine (show Hid _ from ?_).out)
                | (go_at_call 32; refine (show Hid _ from ?_).out)
                | (go_at_call 31; refine (show Hid _ from ?_).out)
                | (go_at_call 34; refine (show Hid _ from ?_).out)
                | (go_at_call 37; refine (show Hid _ from ?_).out)
                | (go_at_call 43; refine (show Hid _ from ?_).out)
                | (go_at_call 36; refine (show Hid _ from ?_).out)
                | (go_at_call 24; refine (show Hid _ from ?_).out)
                | (go_at_call 28; refine (show Hid _ from ?_).out)
                | (go_at_call 26; refine (show Hid _ from ?_).out)
                | (go_at_call 27; refine (show Hid _ from ?_).out)
                | (go_at_call 30; refine (show Hid _ from ?_).out)
                | (go_at_call 39; refine (show Hid _ from ?_).out)
                | (go_at_call 40; refine (show Hid _ from ?_).out)
                | (go_at_call 41; refine (show Hid _ from ?_).out)
                | (go_at_call 22; refine (show Hid _ from ?_).out)
                | (go_at_call 42; refine (show Hid _ from ?_).out)
                | (go_at_call 44; refine (show Hid _ from ?_).out)
                | (go_at_call 25; refine (show Hid _ from ?_).out)
                | (go_at_call 29; refine (show Hid _ from ?_).out)
                | (go_at_call 23; refine (show Hid _ from ?_).out))
              refine Lib.hid ?_
              refine (rsame_is (by omega) (HS.out.on (by (repeat (first | with_reducible exact Ext.refl _ | with_reducible exact Ext.refl _ | with_reducible refine Ext.drew ?_ | with_reducible refine Ext.drewN ?_ _ | with_reducible refine Ext.alloc ?_ _ | with_reducible refine Ext.onto ?_ _ | (with_reducible refine Ext.setCells ?_ ?_ _ _; rotate_left; focus (first | omega | (simp; done) | (simp; omega))) | (with_reducible refine Ext.setCell ?_ ?_ _; rotate_left; focus (first | omega | (simp; done) | (simp; omega))))))) (HT.out.on (by (repeat (first | with_reducible exact Ext.refl _ | with_reducible exact Ext.refl _ | with_reducible refine Ext.drew ?_ | with_reducible refine Ext.drewN ?_ _ | with_reducible refine Ext.alloc ?_ _ | with_reducible refine Ext.onto ?_ _ | (with_reducible refine Ext.setCells ?_ ?_ _ _; rotate_left; focus (first | omega | (simp; done) | (simp; omega))) | (with_reducible refine Ext.setCell ?_ ?_ _; rotate_left; focus (first | omega | (simp; done) | (simp; omega)))))))).mono ?_
              rintro e w' ⟨rfl, hxl⟩; obtain ⟨v2, rfl⟩ := hxl.asLater; clear hxl
              go_wp2_with (first
                | (go_at_call 33; refine (show Hid _ from ?_).out)
                | (go_at_call 35; refine (show Hid _ from ?_).out)
                | (go_at_call 38; refine (show Hid _ from ?_).out)
                | (go_at_call 32; refine (show Hid _ from ?_).out)
                | (go_at_call 31; refine (show Hid _ from ?_).out)
                | (go_at_call 34; refine (show Hid _ from ?_).out)
                | (go_at_call 37; refine (show Hid _ from ?_).out)
                | (go_at_call 43; refine (show Hid _ from ?_).out)
                | (go_at_call 36; refine (show Hid _ from ?_).out)
                | (go_at_call 24; refine (show Hid _ from ?_).out)
                | (go_at_call 28; refine (show Hid _ from ?_).out)
                | (go_at_call 26; refine (show Hid _ from ?_).out)
                | (go_at_call 27; refine (show Hid _ from ?_).out)
                | (go_at_call 30; refine (show Hid _ from ?_).out)
                | (go_at_call 39; refine (show Hid _ from ?_).out)
                | (go_at_call 40; refine (show Hid _ from ?_).out)
                | (go_at_call 41; refine (show Hid _ from ?_).out)
                | (go_at_call 22; refine (show Hid _ from ?_).out)
                | (go_at_call 42; refine (show Hid _ from ?_).out)
                | (go_at_call 44; refine (show Hid _ from ?_).out)
                | (go_at_call 25; refine (show Hid _ from ?_).out)
                | (go_at_call 29; refine (show Hid _ from ?_).out)
                | (go_at_call 23; refine (show Hid _ from ?_).out))
              refine Lib.hid ?_
              refine (K1.out _ (H1.out.on (by (repeat (first | with_reducible exact Ext.refl _ | with_reducible exact Ext.refl _ | with_reducible refine Ext.drew ?_ | with_reducible refine Ext.drewN ?_ _ | with_reducible refine Ext.alloc ?_ _ | with_reducible refine Ext.onto ?_ _ | (with_reducible refine Ext.setCells ?_ ?_ _ _; rotate_left; focus (first | omega | (simp; done) | (simp; omega))) | (with_reducible refine Ext.setCell ?_ ?_ _; rotate_left; focus (first | omega | (simp; done) | (simp; omega)))))))).mono ?_
              rintro e w' ⟨rfl, hxl⟩; obtain ⟨v3, rfl⟩ := hxl.asLater; clear hxl
              go_wp2_with (first
                | (go_at_call 33; refine (show Hid _ from ?_).out)
                | (go_at_call 35; refine (show Hid _ from ?_).out)
                | (go_at_call 38; refine (show Hid _ from ?_).out)
                | (go_at_call 32; refine (show Hid _ from ?_).out)
                | (go_at_call 31; refine (show Hid _ from ?_).out)
                | (go_at_call 34; refine (show Hid _ from ?_).out)
                | (go_at_call 37; refine (show Hid _ from ?_).out)
                | (go_at_call 43; refine (show Hid _ from ?_).out)
                | (go_at_call 36; refine (show Hid _ from ?_).out)
                | (go_at_call 24; refine (show Hid _ from ?_).out)
                | (go_at_call 28; refine (show Hid _ from ?_).out)
                | (go_at_call 26; refine (show Hid _ from ?_).out)
                | (go_at_call 27; refine (show Hid _ from ?_).out)
                | (go_at_call 30; refine (show Hid _ from ?_).out)
                | (go_at_call 39; refine (show Hid _ from ?_).out)
                | (go_at_call 40; refine (show Hid _ from ?_).out)
                | (go_at_call 41; refine (show Hid _ from ?_).out)
                | (go_at_call 22; refine (show Hid _ from ?_).out)
                | (go_at_call 42; refine (show Hid _ from ?_).out)
                | (go_at_call 44; refine (show Hid _ from ?_).out)
                | (go_at_call 25; refine (show Hid _ from ?_).out)
                | (go_at_call 29; refine (show Hid _ from ?_).out)
                | (go_at_call 23; refine (show Hid _ from ?_).out))
              refine Lib.hid ?_
              refine (K2.out _ (H2.out.on (by (repeat (first | with_reducible exact Ext.refl _ | with_reducible exact Ext.refl _ | with_reducible refine Ext.drew ?_ | with_reducible refine Ext.drewN ?_ _ | with_reducible refine Ext.alloc ?_ _ | with_reducible refine Ext.onto ?_ _ | (with_reducible refine Ext.setCells ?_ ?_ _ _; rotate_left; focus (first | omega | (simp; done) | (simp; omega))) | (with_reducible refine Ext.setCell ?_ ?_ _; rotate_left; focus (first | omega | (simp; done) | (simp; omega)))))))).mono ?_
              rintro e w' ⟨rfl, hxl⟩; obtain ⟨v4, rfl⟩ := hxl.asLater; clear hxl
              go_wp2_with (first
                | (go_at_call 33; refine (show Hid _ from ?_).out)
                | (go_at_call 35; refine (show Hid _ from ?_).out)
                | (go_at_call 38; refine (show Hid _ from ?_).out)
                | (go_at_call 32; refine (show Hid _ from ?_).out)
                | (go_at_call 31; refine (show Hid _ from ?_).out)
                | (go_at_call 34; refine (show Hid _ from ?_).out)
                | (go_at_call 37; refine (show Hid _ from ?_).out)
                | (go_at_call 43; refine (show Hid _ from ?_).out)
                | (go_at_call 36; refine (show Hid _ from ?_).out)
                | (go_at_call 24; refine (show Hid _ from ?_).out)
                | (go_at_call 28; refine (show Hid _ from ?_).out)
                | (go_at_call 26; refine (show Hid _ from ?_).out)
                | (go_at_call 27; refine (show Hid _ from ?_).out)
                | (go_at_call 30; refine (show Hid _ from ?_).out)
                | (go_at_call 39; refine (show Hid _ from ?_).out)
                | (go_at_call 40; refine (show Hid _ from ?_).out)
                | (go_at_call 41; refine (show Hid _ from ?_).out)
                | (go_at_call 22; refine (show Hid _ from ?_).out)
                | (go_at_call 42; refine (show Hid _ from ?_).out)
                | (go_at_call 44; refine (show Hid _ from ?_).out)
                | (go_at_call 25; refine (show Hid _ from ?_).out)
                | (go_at_call 29; refine (show Hid _ from ?_).out)
                | (go_at_call 23; refine (show Hid _ from ?_).out))
              refine Lib.hid ?_
              refine (K3.out _ (HS.out.on (by (repeat (first | with_reducible exact Ext.refl _ | with_reducible exact Ext.refl _ | with_reducible refine Ext.drew ?_ | with_reducible refine Ext.drewN ?_ _ | with_reducible refine Ext.alloc ?_ _ | with_reducible refine Ext.onto ?_ _ | (with_reducible refine Ext.setCells ?_ ?_ _ _; rotate_left; focus (first | omega | (simp; done) | (simp; omega))) | (with_reducible refine Ext.setCell ?_ ?_ _; rotate_left; focus (first | omega | (simp; done) | (simp; omega)))))))).mono ?_
              rintro e w' ⟨rfl, hxl⟩; obtain ⟨v5, rfl⟩ := hxl.asLater; clear hxl
              go_wp2_with (first
                | (go_at_call 33; refine (show Hid _ from ?_).out)
                | (go_at_call 35; refine (show Hid _ from ?_).out)
                | (go_at_call 38; refine (show Hid _ from ?_).out)
                | (go_at_call 32; refine (show Hid _ from ?_).out)
                | (go_at_call 31; refine (show Hid _ from ?_).out)
                | (go_at_call 34; refine (show Hid _ from ?_).out)
                | (go_at_call 37; refine (show Hid _ from ?_).out)
                | (go_at_call 43; refine (show Hid _ from ?_).out)
                | (go_at_call 36; refine (show Hid _ from ?_).out)
                | (go_at_call 24; refine (show Hid _ from ?_).out)
                | (go_at_call 28; refine (show Hid _ from ?_).out)
                | (go_at_call 26; refine (show Hid _ from ?_).out)
                | (go_at_call 27; refine (show Hid _ from ?_).out)
                | (go_at_call 30; refine (show Hid _ from ?_).out)
                | (go_at_call 39; refine (show Hid _ from ?_).out)
                | (go_at_call 40; refine (show Hid _ from ?_).out)
                | (go_at_call 41; refine (show Hid _ from ?_).out)
                | (go_at_call 22; refine (show Hid _ from ?_).out)
                | (go_at_call 42; refine (show Hid _ from ?_).out)
                | (go_at_call 44; refine (show Hid _ from ?_).out)
                | (go_at_call 25; refine (show Hid _ from ?_).out)
                | (go_at_call 29; refine (show Hid _ from ?_).out)
                | (go_at_call 23; refine (show Hid _ from ?_).out))
              refine Lib.hid ?_
              refine (HC1.out _ (H1.out.on (by (repeat (first | with_reducible exact Ext.refl _ | with_reducible exact Ext.refl _ | with_reducible refine Ext.drew ?_ | with_reducible refine Ext.drewN ?_ _ | with_reducible refine Ext.alloc ?_ _ | with_reducible refine Ext.onto ?_ _ | (with_reducible refine Ext.setCells ?_ ?_ _ _; rotate_left; focus (first | omega | (simp; done) | (simp; omega))) | (with_reducible refine Ext.setCell ?_ ?_ _; rotate_left; focus (first | omega | (simp; done) | (simp; omega))))))) (H2.out.on (by (repeat (first | with_reducible exact Ext.refl _ | with_reducible exact Ext.refl _ | with_reducible refine Ext.drew ?_ | with_reducible refine Ext.drewN ?_ _ | with_reducible refine Ext.alloc ?_ _ | with_reducible refine Ext.onto ?_ _ | (with_reducible refine Ext.setCells ?_ ?_ _ _; rotate_left; focus (first | omega | (simp; done) | (simp; omega))) | (with_reducible refine Ext.setCell ?_ ?_ _; rotate_left; focus (first | omega | (simp; done) | (simp; omega)))))))).mono ?_
              rintro e w7 ⟨A7, c7, rfl, hs, hx⟩
              have hxk := (show Ext W6 _ from (by (repeat (first | with_reducible exact Ext.refl _ | with_reducible exact Ext.refl _ | with_reducible refine Ext.drew ?_ | with_reducible refine Ext.drewN ?_ _ | with_reducible refine Ext.alloc ?_ _ | with_reducible refine Ext.onto ?_ _ | (with_reducible refine Ext.setCells ?_ ?_ _ _; rotate_left; focus (first | omega | (simp; done) | (simp; omega))) | (with_reducible refine Ext.setCell ?_ ?_ _; rotate_left; focus (first | omega | (simp; done) | (simp; omega))))))).trans hx
              have HS7 := Lib.hid hs
              replace HX := Lib.hid (HX.out.trans hxk); replace H1 := Lib.hid (H1.out.on hxk); replace H2 := Lib.hid (H2.out.on hxk); replace HS := Lib.hid (HS.out.on hxk); replace HT := Lib.hid (HT.out.on hxk)
              clear hs hx hxk
              go_wp2_with (first
                | (go_at_call 33; refine (show Hid _ from ?_).out)
                | (go_at_call 35; refine (show Hid _ from ?_).out)
                | (go_at_call 38; refine (show Hid _ from ?_).out)
                | (go_at_call 32; refine (show Hid _ from ?_).out)
                | (go_at_call 31; refine (show Hid _ from ?_).out)
                | (go_at_call 34; refine (show Hid _ from ?_).out)
                | (go_at_call 37; refine (show Hid _ from ?_).out)
                | (go_at_call 43; refine (show Hid _ from ?_).out)
                | (go_at_call 36; refine (show Hid _ from ?_).out)
                | (go_at_call 24; refine (show Hid _ from ?_).out)
                | (go_at_call 28; refine (show Hid _ from ?_).out)
                | (go_at_call 26; refine (show Hid _ from ?_).out)
                | (go_at_call 27; refine (show Hid _ from ?_).out)
                | (go_at_call 30; refine (show Hid _ from ?_).out)
                | (go_at_call 39; refine (show Hid _ from ?_).out)
                | (go_at_call 40; refine (show Hid _ from ?_).out)
                | (go_at_call 41; refine (show Hid _ from ?_).out)
                | (go_at_call 22; refine (show Hid _ from ?_).out)
                | (go_at_call 42; refine (show Hid _ from ?_).out)
                | (go_at_call 44; refine (show Hid _ from ?_).out)
                | (go_at_call 25; refine (show Hid _ from ?_).out)
                | (go_at_call 29; refine (show Hid _ from ?_).out)
                | (go_at_call 23; refine (show Hid _ from ?_).out))
              refine Lib.hid ?_
              refine (K4.out _ _ _ (HS7.out.on (by (repeat (first | with_reducible exact Ext.refl _ | with_reducible exact Ext.refl _ | with_reducible refine Ext.drew ?_ | with_reducible refine Ext.drewN ?_ _ | with_reducible refine Ext.alloc ?_ _ | with_reducible refine Ext.onto ?_ _ | (with_reducible refine Ext.setCells ?_ ?_ _ _; rotate_left; focus (first | omega | (simp; done) | (simp; omega))) | (with_reducible refine Ext.setCell ?_ ?_ _; rotate_left; focus (first | omega | (simp; done) | (simp; omega)))))))).mono ?_
              rintro e w' ⟨rfl, hxl⟩; obtain ⟨v6, rfl⟩ := hxl.asLater; clear hxl
              go_wp2_with (first
                | (go_at_call 33; refine (show Hid _ from ?_).out)
                | (go_at_call 35; refine (show Hid _ from ?_).out)
                | (go_at_call 38; refine (show Hid _ from ?_).out)
                | (go_at_call 32; refine (show Hid _ from ?_).out)
                | (go_at_call 31; refine (show Hid _ from ?_).out)
                | (go_at_call 34; refine (show Hid _ from ?_).out)
                | (go_at_call 37; refine (show Hid _ from ?_).out)
                | (go_at_call 43; refine (show Hid _ from ?_).out)
                | (go_at_call 36; refine (show Hid _ from ?_).out)
                | (go_at_call 24; refine (show Hid _ from ?_).out)
                | (go_at_call 28; refine (show Hid _ from ?_).out)
                | (go_at_call 26; refine (show Hid _ from ?_).out)
                | (go_at_call 27; refine (show Hid _ from ?_).out)
                | (go_at_call 30; refine (show Hid _ from ?_).out)
                | (go_at_call 39; refine (show Hid _ from ?_).out)
                | (go_at_call 40; refine (show Hid _ from ?_).out)
                | (go_at_call 41; refine (show Hid _ from ?_).out)
                | (go_at_call 22; refine (show Hid _ from ?_).out)
                | (go_at_call 42; refine (show Hid _ from ?_).out)
                | (go_at_call 44; refine (show Hid _ from ?_).out)
                | (go_at_call 25; refine (show Hid _ from ?_).out)
                | (go_at_call 29; refine (show Hid _ from ?_).out)
                | (go_at_call 23; refine (show Hid _ from ?_).out))
              refine Lib.hid ?_
              refine (HSan.out _ (by (repeat (first | with_reducible exact HX.out | with_reducible exact Ext.refl _ | with_reducible refine Ext.drew ?_ | with_reducible refine Ext.drewN ?_ _ | with_reducible refine Ext.alloc ?_ _ | with_reducible refine Ext.onto ?_ _ | (with_reducible refine Ext.setCells ?_ ?_ _ _; rotate_left; focus (first | omega | (simp; done) | (simp; omega))) | (with_reducible refine Ext.setCell ?_ ?_ _; rotate_left; focus (first | omega | (simp; done) | (simp; omega))))))).mono ?_
              rintro e w' ⟨rfl, hxl⟩; obtain ⟨v7, rfl⟩ := hxl.asLater; clear hxl
              go_wp2_with (first
                | (go_at_call 33; refine (show Hid _ from ?_).out)
                | (go_at_call 35; refine (show Hid _ from ?_).out)
                | (go_at_call 38; refine (show Hid _ from ?_).out)
                | (go_at_call 32; refine (show Hid _ from ?_).out)
                | (go_at_call 31; refine (show Hid _ from ?_).out)
                | (go_at_call 34; refine (show Hid _ from ?_).out)
                | (go_at_call 37; refine (show Hid _ from ?_).out)
                | (go_at_call 43; refine (show Hid _ from ?_).out)
                | (go_at_call 36; refine (show Hid _ from ?_).out)
                | (go_at_call 24; refine (show Hid _ from ?_).out)
                | (go_at_call 28; refine (show Hid _ from ?_).out)
                | (go_at_call 26; refine (show Hid _ from ?_).out)
                | (go_at_call 27; refine (show Hid _ from ?_).out)
                | (go_at_call 30; refine (show Hid _ from ?_).out)
                | (go_at_call 39; refine (show Hid _ from ?_).out)
                | (go_at_call 40; refine (show Hid _ from ?_).out)
                | (go_at_call 41; refine (show Hid _ from ?_).out)
                | (go_at_call 22; refine (show Hid _ from ?_).out)
                | (go_at_call 42; refine (show Hid _ from ?_).out)
                | (go_at_call 44; refine (show Hid _ from ?_).out)
                | (go_at_call 25; refine (show Hid _ from ?_).out)
                | (go_at_call 29; refine (show Hid _ from ?_).out)
                | (go_at_call 23; refine (show Hid _ from ?_).out))
              refine Lib.hid ?_
              refine (HC3.out _ (HS.out.on (by (repeat (first | with_reducible exact Ext.refl _ | with_reducible exact Ext.refl _ | with_reducible refine Ext.drew ?_ | with_reducible refine Ext.drewN ?_ _ | with_reducible refine Ext.alloc ?_ _ | with_reducible refine Ext.onto ?_ _ | (with_reducible refine Ext.setCells ?_ ?_ _ _; rotate_left; focus (first | omega | (simp; done) | (simp; omega))) | (with_reducible refine Ext.setCell ?_ ?_ _; rotate_left; focus (first | omega | (simp; done) | (simp; omega))))))) (H2.out.on (by (repeat (first | with_reducible exact Ext.refl _ | with_reducible exact Ext.refl _ | with_reducible refine Ext.drew ?_ | with_reducible refine Ext.drewN ?_ _ | with_reducible refine Ext.alloc ?_ _ | with_reducible refine Ext.onto ?_ _ | (with_reducible refine Ext.setCells ?_ ?_ _ _; rotate_left; focus (first | omega | (simp; done) | (simp; omega))) | (with_reducible refine Ext.setCell ?_ ?_ _; rotate_left; focus (first | omega | (simp; done) | (simp; omega)))))))).mono ?_
              rintro e w8 ⟨A8, c8, rfl, hs, hx⟩
              have hxk := (show Ext w7 _ from (by (repeat (first | with_reducible exact Ext.refl _ | with_reducible exact Ext.refl _ | with_reducible refine Ext.drew ?_ | with_reducible refine Ext.drewN ?_ _ | with_reducible refine Ext.alloc ?_ _ | with_reducible refine Ext.onto ?_ _ | (with_reducible refine Ext.setCells ?_ ?_ _ _; rotate_left; focus (first | omega | (simp; done) | (simp; omega))) | (with_reducible refine Ext.setCell ?_ ?_ _; rotate_left; focus (first | omega | (simp; done) | (simp; omega))))))).trans hx
              have HS8 := Lib.hid hs
              replace HX := Lib.hid (HX.out.trans hxk); replace H1 := Lib.hid (H1.out.on hxk); replace H2 := Lib.hid (H2.out.on hxk); replace HS := Lib.hid (HS.out.on hxk); replace HT := Lib.hid (HT.out.on hxk)
              clear hs hx hxk
              go_wp2_with (first
                | (go_at_call 33; refine (show Hid _ from ?_).out)
                | (go_at_call 35; refine (show Hid _ from ?_).out)
                | (go_at_call 38; refine (show Hid _ from ?_).out)
                | (go_at_call 32; refine (show Hid _ from ?_).out)
                | (go_at_call 31; refine (show Hid _ from ?_).out)
                | (go_at_call 34; refine (show Hid _ from ?_).out)
                | (go_at_call 37; refine (show Hid _ from ?_).out)
                | (go_at_call 43; refine (show Hid _ from ?_).out)
                | (go_at_call 36; refine (show Hid _ from ?_).out)
                | (go_at_call 24; refine (show Hid _ from ?_).out)
                | (go_at_call 28; refine (show Hid _ from ?_).out)
                | (go_at_call 26; refine (show Hid _ from ?_).out)
                | (go_at_call 27; refine (show Hid _ from ?_).out)
                | (go_at_call 30; refine (show Hid _ from ?_).out)
                | (go_at_call 39; refine (show Hid _ from ?_).out)
                | (go_at_call 40; refine (show Hid _ from ?_).out)
                | (go_at_call 41; refine (show Hid _ from ?_).out)
                | (go_at_call 22; refine (show Hid _ from ?_).out)
                | (go_at_call 42; refine (show Hid _ from ?_).out)
                | (go_at_call 44; refine (show Hid _ from ?_).out)
                | (go_at_call 25; refine (show Hid _ from ?_).out)
                | (go_at_call 29; refine (show Hid _ from ?_).out)
                | (go_at_call 23; refine (show Hid _ from ?_).out))
              refine Lib.hid ?_
              refine (HC2.out _ (H1.out.on (by (repeat (first | with_reducible exact Ext.refl _ | with_reducible exact Ext.refl _ | with_reducible refine Ext.drew ?_ | with_reducible refine Ext.drewN ?_ _ | with_reducible refine Ext.alloc ?_ _ | with_reducible refine Ext.onto ?_ _ | (with_reducible refine Ext.setCells ?_ ?_ _ _; rotate_left; focus (first | omega | (simp; done) | (simp; omega))) | (with_reducible refine Ext.setCell ?_ ?_ _; rotate_left; focus (first | omega | (simp; done) | (simp; omega))))))) (H2.out.on (by (repeat (first | with_reducible exact Ext.refl _ | with_reducible exact Ext.refl _ | with_reducible refine Ext.drew ?_ | with_reducible refine Ext.drewN ?_ _ | with_reducible refine Ext.alloc ?_ _ | with_reducible refine Ext.onto ?_ _ | (with_reducible refine Ext.setCells ?_ ?_ _ _; rotate_left; focus (first | omega | (simp; done) | (simp; omega))) | (with_reducible refine Ext.setCell ?_ ?_ _; rotate_left; focus (first | omega | (simp; done) | (simp; omega)))))))).mono ?_
              rintro e w9 ⟨A9, c9, rfl, hs, hx⟩
              have hxk := (show Ext w8 _ from (by (repeat (first | with_reducible exact Ext.refl _ | with_reducible exact Ext.refl _ | with_reducible refine Ext.drew ?_ | with_reducible refine Ext.drewN ?_ _ | with_reducible refine Ext.alloc ?_ _ | with_reducible refine Ext.onto ?_ _ | (with_reducible refine Ext.setCells ?_ ?_ _ _; rotate_left; focus (first | omega | (simp; done) | (simp; omega))) | (with_reducible refine Ext.setCell ?_ ?_ _; rotate_left; focus (first | omega | (simp; done) | (simp; omega))))))).trans hx
              have HS9 := Lib.hid hs
              replace HX := Lib.hid (HX.out.trans hxk); replace H1 := Lib.hid (H1.out.on hxk); replace H2 := Lib.hid (H2.out.on hxk); replace HS := Lib.hid (HS.out.on hxk); replace HT := Lib.hid (HT.out.on hxk); replace HS8 := Lib.hid (HS8.out.on hxk)
              clear hs hx hxk
              go_wp2_with (first
                | (go_at_call 33; refine (show Hid _ from ?_).out)
                | (go_at_call 35; refine (show Hid _ from ?_).out)
                | (go_at_call 38; refine (show Hid _ from ?_).out)
                | (go_at_call 32; refine (show Hid _ from ?_).out)
                | (go_at_call 31; refine (show Hid _ from ?_).out)
                | (go_at_call 34; refine (show Hid _ from ?_).out)
                | (go_at_call 37; refine (show Hid _ from ?_).out)
                | (go_at_call 43; refine (show Hid _ from ?_).out)
                | (go_at_call 36; refine (show Hid _ from ?_).out)
                | (go_at_call 24; refine (show Hid _ from ?_).out)
                | (go_at_call 28; refine (show Hid _ from ?_).out)
                | (go_at_call 26; refine (show Hid _ from ?_).out)
                | (go_at_call 27; refine (show Hid _ from ?_).out)
                | (go_at_call 30; refine (show Hid _ from ?_).out)
                | (go_at_call 39; refine (show Hid _ from ?_).out)
                | (go_at_call 40; refine (show Hid _ from ?_).out)
                | (go_at_call 41; refine (show Hid _ from ?_).out)
                | (go_at_call 22; refine (show Hid _ from ?_).out)
                | (go_at_call 42; refine (show Hid _ from ?_).out)
                | (go_at_call 44; refine (show Hid _ from ?_).out)
                | (go_at_call 25; refine (show Hid _ from ?_).out)
                | (go_at_call 29; refine (show Hid _ from ?_).out)
                | (go_at_call 23; refine (show Hid _ from ?_).out))
              refine Lib.hid ?_
              refine (rsame_is (by omega) (HS8.out.on (by (repeat (first | with_reducible exact Ext.refl _ | with_reducible exact Ext.refl _ | with_reducible refine Ext.drew ?_ | with_reducible refine Ext.drewN ?_ _ | with_reducible refine Ext.alloc ?_ _ | with_reducible refine Ext.onto ?_ _ | (with_reducible refine Ext.setCells ?_ ?_ _ _; rotate_left; focus (first | omega | (simp; done) | (simp; omega))) | (with_reducible refine Ext.setCell ?_ ?_ _; rotate_left; focus (first | omega | (simp; done) | (simp; omega))))))) (HS9.out.on (by (repeat (first | with_reducible exact Ext.refl _ | with_reducible exact Ext.refl _ | with_reducible refine Ext.drew ?_ | with_reducible refine Ext.drewN ?_ _ | with_reducible refine Ext.alloc ?_ _ | with_reducible refine Ext.onto ?_ _ | (with_reducible refine Ext.setCells ?_ ?_ _ _; rotate_left; focus (first | omega | (simp; done) | (simp; omega))) | (with_reducible refine Ext.setCell ?_ ?_ _; rotate_left; focus (first | omega | (simp; done) | (simp; omega)))))))).mono ?_
              rintro e w' ⟨rfl, hxl⟩; obtain ⟨v8, rfl⟩ := hxl.asLater; clear hxl
              go_wp2_with (first
                | (go_at_call 33; refine (show Hid _ from ?_).out)
                | (go_at_call 35; refine (show Hid _ from ?_).out)
                | (go_at_call 38; refine (show Hid _ from ?_).out)
                | (go_at_call 32; refine (show Hid _ from ?_).out)
                | (go_at_call 31; refine (show Hid _ from ?_).out)
                | (go_at_call 34; refine (show Hid _ from ?_).out)
                | (go_at_call 37; refine (show Hid _ from ?_).out)
                | (go_at_call 43; refine (show Hid _ from ?_).out)
                | (go_at_call 36; refine (show Hid _ from ?_).out)
                | (go_at_call 24; refine (show Hid _ from ?_).out)
                | (go_at_call 28; refine (show Hid _ from ?_).out)
                | (go_at_call 26; refine (show Hid _ from ?_).out)
                | (go_at_call 27; refine (show Hid _ from ?_).out)
                | (go_at_call 30; refine (show Hid _ from ?_).out)
                | (go_at_call 39; refine (show Hid _ from ?_).out)
                | (go_at_call 40; refine (show Hid _ from ?_).out)
                | (go_at_call 41; refine (show Hid _ from ?_).out)
                | (go_at_call 22; refine (show Hid _ from ?_).out)
                | (go_at_call 42; refine (show Hid _ from ?_).out)
                | (go_at_call 44; refine (show Hid _ from ?_).out)
                | (go_at_call 25; refine (show Hid _ from ?_).out)
                | (go_at_call 29; refine (show Hid _ from ?_).out)
                | (go_at_call 23; refine (show Hid _ from ?_).out))
              refine Lib.hid ?_
              refine (HC1.out _ (H1.out.on (by (repeat (first | with_reducible exact Ext.refl _ | with_reducible exact Ext.refl _ | with_reducible refine Ext.drew ?_ | with_reducible refine Ext.drewN ?_ _ | with_reducible refine Ext.alloc ?_ _ | with_reducible refine Ext.onto ?_ _ | (with_reducible refine Ext.setCells ?_ ?_ _ _; rotate_left; focus (first | omega | (simp; done) | (simp; omega))) | (with_reducible refine Ext.setCell ?_ ?_ _; rotate_left; focus (first | omega | (simp; done) | (simp; omega))))))) (H2.out.on (by (repeat (first | with_reducible exact Ext.refl _ | with_reducible exact Ext.refl _ | with_reducible refine Ext.drew ?_ | with_reducible refine Ext.drewN ?_ _ | with_reducible refine Ext.alloc ?_ _ | with_reducible refine Ext.onto ?_ _ | (with_reducible refine Ext.setCells ?_ ?_ _ _; rotate_left; focus (first | omega | (simp; done) | (simp; omega))) | (with_reducible refine Ext.setCell ?_ ?_ _; rotate_left; focus (first | omega | (simp; done) | (simp; omega)))))))).mono ?_
              rintro e w10 ⟨A10, c10, rfl, hs, hx⟩
              have hxk := (show Ext w9 _ from (by (repeat (first | with_reducible exact Ext.refl _ | with_reducible exact Ext.refl _ | with_reducible refine Ext.drew ?_ | with_reducible refine Ext.drewN ?_ _ | with_reducible refine Ext.alloc ?_ _ | with_reducible refine Ext.onto ?_ _ | (with_reducible refine Ext.setCells ?_ ?_ _ _; rotate_left; focus (first | omega | (simp; done) | (simp; omega))) | (with_reducible refine Ext.setCell ?_ ?_ _; rotate_left; focus (first | omega | (simp; done) | (simp; omega))))))).trans hx
              have HS10 := Lib.hid hs
              replace HX := Lib.hid (HX.out.trans hxk); replace H1 := Lib.hid (H1.out.on hxk); replace H2 := Lib.hid (H2.out.on hxk); replace HS := Lib.hid (HS.out.on hxk); replace HT := Lib.hid (HT.out.on hxk)
              clear hs hx hxk
              go_wp2_with (first
                | (go_at_call 33; refine (show Hid _ from ?_).out)
                | (go_at_call 35; refine (show Hid _ from ?_).out)
                | (go_at_call 38; refine (show Hid _ from ?_).out)
                | (go_at_call 32; refine (show Hid _ from ?_).out)
                | (go_at_call 31; refine (show Hid _ from ?_).out)
                | (go_at_call 34; refine (show Hid _ from ?_).out)
                | (go_at_call 37; refine (show Hid _ from ?_).out)
                | (go_at_call 43; refine (show Hid _ from ?_).out)
                | (go_at_call 36; refine (show Hid _ from ?_).out)
                | (go_at_call 24; refine (show Hid _ from ?_).out)
                | (go_at_call 28; refine (show Hid _ from ?_).out)
                | (go_at_call 26; refine (show Hid _ from ?_).out)
                | (go_at_call 27; refine (show Hid _ from ?_).out)
                | (go_at_call 30; refine (show Hid _ from ?_).out)
                | (go_at_call 39; refine (show Hid _ from ?_).out)
                | (go_at_call 40; refine (show Hid _ from ?_).out)
                | (go_at_call 41; refine (show Hid _ from ?_).out)
                | (go_at_call 22; refine (show Hid _ from ?_).out)
                | (go_at_call 42; refine (show Hid _ from ?_).out)
                | (go_at_call 44; refine (show Hid _ from ?_).out)
                | (go_at_call 25; refine (show Hid _ from ?_).out)
                | (go_at_call 29; refine (show Hid _ from ?_).out)
                | (go_at_call 23; refine (show Hid _ from ?_).out))
              refine Lib.hid ?_
              refine (HC4.out _ (H1.out.on (by (repeat (first | with_reducible exact Ext.refl _ | with_reducible exact Ext.refl _ | with_reducible refine Ext.drew ?_ | with_reducible refine Ext.drewN ?_ _ | with_reducible refine Ext.alloc ?_ _ | with_reducible refine Ext.onto ?_ _ | (with_reducible refine Ext.setCells ?_ ?_ _ _; rotate_left; focus (first | omega | (simp; done) | (simp; omega))) | (with_reducible refine Ext.setCell ?_ ?_ _; rotate_left; focus (first | omega | (simp; done) | (simp; omega))))))) (H2.out.on (by (repeat (first | with_reducible exact Ext.refl _ | with_reducible exact Ext.refl _ | with_reducible refine Ext.drew ?_ | with_reducible refine Ext.drewN ?_ _ | with_reducible refine Ext.alloc ?_ _ | with_reducible refine Ext.onto ?_ _ | (with_reducible refine Ext.setCells ?_ ?_ _ _; rotate_left; focus (first | omega | (simp; done) | (simp; omega))) | (with_reducible refine Ext.setCell ?_ ?_ _; rotate_left; focus (first | omega | (simp; done) | (simp; omega)))))))).mono ?_
              rintro e w11 ⟨A11, c11, rfl, hs, hx⟩
              have hxk := (show Ext w10 _ from (by (repeat (first | with_reducible exact Ext.refl _ | with_reducible exact Ext.refl _ | with_reducible refine Ext.drew ?_ | with_reducible refine Ext.drewN ?_ _ | with_reducible refine Ext.alloc ?_ _ | with_reducible refine Ext.onto ?_ _ | (with_reducible refine Ext.setCells ?_ ?_ _ _; rotate_left; focus (first | omega | (simp; done) | (simp; omega))) | (with_reducible refine Ext.setCell ?_ ?_ _; rotate_left; focus (first | omega | (simp; done) | (simp; omega))))))).trans hx
              have HS11 := Lib.hid hs
              replace HX := Lib.hid (HX.out.trans hxk); replace H1 := Lib.hid (H1.out.on hxk); replace H2 := Lib.hid (H2.out.on hxk); replace HS := Lib.hid (HS.out.on hxk); replace HT := Lib.hid (HT.out.on hxk); replace HS10 := Lib.hid (HS10.out.on hxk)
              clear hs hx hxk
              go_wp2_with (first
                | (go_at_call 33; refine (show Hid _ from ?_).out)
                | (go_at_call 35; refine (show Hid _ from ?_).out)
                | (go_at_call 38; refine (show Hid _ from ?_).out)
                | (go_at_call 32; refine (show Hid _ from ?_).out)
                | (go_at_call 31; refine (show Hid _ from ?_).out)
                | (go_at_call 34; refine (show Hid _ from ?_).out)
                | (go_at_call 37; refine (show Hid _ from ?_).out)
                | (go_at_call 43; refine (show Hid _ from ?_).out)
                | (go_at_call 36; refine (show Hid _ from ?_).out)
                | (go_at_call 24; refine (show Hid _ from ?_).out)
                | (go_at_call 28; refine (show Hid _ from ?_).out)
                | (go_at_call 26; refine (show Hid _ from ?_).out)
                | (go_at_call 27; refine (show Hid _ from ?_).out)
                | (go_at_call 30; refine (show Hid _ from ?_).out)
                | (go_at_call 39; refine (show Hid _ from ?_).out)
                | (go_at_call 40; refine (show Hid _ from ?_).out)
                | (go_at_call 41; refine (show Hid _ from ?_).out)
                | (go_at_call 22; refine (show Hid _ from ?_).out)
                | (go_at_call 42; refine (show Hid _ from ?_).out)
                | (go_at_call 44; refine (show Hid _ from ?_).out)
                | (go_at_call 25; refine (show Hid _ from ?_).out)
                | (go_at_call 29; refine (show Hid _ from ?_).out)
                | (go_at_call 23; refine (show Hid _ from ?_).out))
              refine Lib.hid ?_
              refine (rsame_is (by omega) (HS10.out.on (by (repeat (first | with_reducible exact Ext.refl _ | with_reducible exact Ext.refl _ | with_reducible refine Ext.drew ?_ | with_reducible refine Ext.drewN ?_ _ | with_reducible refine Ext.alloc ?_ _ | with_reducible refine Ext.onto ?_ _ | (with_reducible refine Ext.setCells ?_ ?_ _ _; rotate_left; focus (first | omega | (simp; done) | (simp; omega))) | (with_reducible refine Ext.setCell ?_ ?_ _; rotate_left; focus (first | omega | (simp; done) | (simp; omega))))))) (HS11.out.on (by (repeat (first | with_reducible exact Ext.refl _ | with_reducible exact Ext.refl _ | with_reducible refine Ext.drew ?_ | with_reducible refine Ext.drewN ?_ _ | with_reducible refine Ext.alloc ?_ _ | with_reducible refine Ext.onto ?_ _ | (with_reducible refine Ext.setCells ?_ ?_ _ _; rotate_left; focus (first | omega | (simp; done) | (simp; omega))) | (with_reducible refine Ext.setCell ?_ ?_ _; rotate_left; focus (first | omega | (simp; done) | (simp; omega)))))))).mono ?_
              rintro e w' ⟨rfl, hxl⟩; obtain ⟨v9, rfl⟩ := hxl.asLater; clear hxl
              go_wp2
              go_ret
              exact ⟨by simp, (by (repeat (first | with_reducible exact HX.out | with_reducible exact Ext.refl _ | with_reducible refine Ext.drew ?_ | with_reducible refine Ext.drewN ?_ _ | with_reducible refine Ext.alloc ?_ _ | with_reducible refine Ext.onto ?_ _ | (with_reducible refine Ext.setCells ?_ ?_ _ _; rotate_left; focus (first | omega | (simp; done) | (simp; omega))) | (with_reducible refine Ext.setCell ?_ ?_ _; rotate_left; focus (first | omega | (simp; done) | (simp; omega))))))⟩
end Go.Proofs.YthhblgjbgjceiaaGreatDoor
