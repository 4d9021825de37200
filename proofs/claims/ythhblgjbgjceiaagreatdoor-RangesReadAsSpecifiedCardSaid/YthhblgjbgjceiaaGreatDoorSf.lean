/- Walk of law 07: RangesReadAsSpecified. -/
import Derived.Test.YthhblgjbgjceiaaGreatDoorProg
import Derived.Test.YthhblgjbgjceiaaGreatDoorExt
import Derived.WalkKit
import Derived.WalkSpells
import Derived.WalkLawsBesides
import Derived.Deep.QuietTactic
import Derived.BigQuiet
import Derived.Test.YthhblgjbgjceiaaGreatDoorSc
import Derived.Test.YthhblgjbgjceiaaGreatDoorRr
set_option linter.unusedVariables false
set_option linter.unusedSimpArgs false
namespace Go.Proofs.YthhblgjbgjceiaaGreatDoor
open Go.RowKit Go.Shelf
open Go.Proofs
open Go.Proofs.Sp (Sp)

theorem parse_in {size : Int} {t : List UInt8} {u : List Sp} {n : Int} (h : Rp.parseN size t = (u, n)) : SetIn u 1099511627776 := by
  unfold Rp.parseN at h
  split at h
  · obtain ⟨rfl, _⟩ := Prod.mk.inj h; exact SetIn.nil _
  rename_i hsz
  split at h
  · obtain ⟨rfl, _⟩ := Prod.mk.inj h; exact SetIn.nil _
  split at h
  · obtain ⟨rfl, _⟩ := Prod.mk.inj h; exact SetIn.nil _
  cases hr : Rp.readAll size (Rp.piecesOf (t.drop 6)) with
  | none => rw [hr] at h; obtain ⟨rfl, _⟩ := Prod.mk.inj h; exact SetIn.nil _
  | some out =>
    rw [hr] at h
    simp only [Option.map_some, Rp.endN] at h
    split at h
    · obtain ⟨rfl, _⟩ := Prod.mk.inj h; exact SetIn.nil _
    · obtain ⟨rfl, _⟩ := Prod.mk.inj h
      obtain ⟨h1, h2⟩ := Rp.foldl_spec out [] Sp.IsSet.nil
      refine SetIn.of_mem h1 (fun x hx => ?_)
      rcases (h2 x).1 hx with k | ⟨s, hs, k1, k2⟩
      · exact (Sp.mem_nil x k).elim
      · have := readAll_bd size _ out hr s hs (by omega) (by omega)
        omega
theorem pparse_is (text : ByteArray) (size : Int) (w : World) (hL : Lib7 w) (u : List Sp) (n : Int) (hu : Rp.parseN size text.data.toList = (u, n)) :
    Calls Tryz.prog 24 #[.string text, .int .i64 size] w fun e w' => ∃ A' c', e = .returned (.tuple #[.slice A' u.length c', .int .i64 n]) ∧ SlIn A' c' u w' ∧ Ext w w' := by
  obtain ⟨m, hm⟩ := hL.m
  refine (parse_any text size m w hm u n hu).mono ?_
  rintro e w1 ⟨A1, c1, rfl, ho, hx⟩
  exact ⟨A1, c1, rfl, slin_own ho, hx⟩
theorem rparse_is (text : ByteArray) (size : Int) (w : World) (u : List Sp) (n : Int) (hu : Rp.parseN size text.data.toList = (u, n)) :
    Calls Tryz.prog 25 #[.string text, .int .i64 size] w fun e w' => ∃ A' c', e = .returned (.agg #[.slice A' u.length c', .int .i64 n]) ∧ SlIn A' c' u w' ∧ Ext w w' := by
  refine (rparse_any text size w u n hu).mono ?_
  rintro e w1 ⟨A1, c1, rfl, ho, hx⟩
  exact ⟨A1, c1, rfl, slin_own ho, hx⟩
set_option maxRecDepth 100000 in
set_option maxHeartbeats 1000000 in
theorem read_ok7 (text : ByteArray) (size : Int) (A : Option Addr) (c : Nat) (a : List Sp) (w : World) (hL : Lib7 w) (h1 : SlIn A c a w) (ht : text.size ≤ 9223372036854775807) :
    Calls Tryz.prog 5 #[.string text, .int .i64 size, .slice A a.length c] w fun e w' => e = .returned (.bool true) ∧ Ext w w' := by
  have HSan := san7 hL
  have H1 := Lib.hid h1
  have HL := Lib.hid hL
  have HVA : Hid True := Lib.hid trivial
  have HVB : Hid True := Lib.hid trivial
  have HG : Hid True := Lib.hid trivial
  clear hL h1
  by_cases hc1 : 600 < text.size ∧ text.size ≤ 10000
  · obtain ⟨e1, e2⟩ := hc1
    go_enter Tryz.func5, Tryz.ntmps5
    go_wp2_with (first
      | (go_at_call 27; first | (with_reducible refine (HVA.out _ (by (repeat (first | with_reducible exact Ext.refl _ | with_reducible exact Ext.refl _ | with_reducible refine Ext.drew ?_ | with_reducible refine Ext.drewN ?_ _ | with_reducible refine Ext.alloc ?_ _ | with_reducible refine Ext.onto ?_ _ | (with_reducible refine Ext.setCells ?_ ?_ _ _; rotate_left; focus (first | omega | (simp; done) | (simp; omega))) | (with_reducible refine Ext.setCell ?_ ?_ _; rotate_left; focus (first | omega | (simp; done) | (simp; omega))))))).mono ?_; rintro e w' ⟨rfl, hxl⟩; obtain ⟨xl, rfl⟩ := hxl.asLater; clear hxl) | (with_reducible refine (HVB.out _ (by (repeat (first | with_reducible exact Ext.refl _ | with_reducible exact Ext.refl _ | with_reducible refine Ext.drew ?_ | with_reducible refine Ext.drewN ?_ _ | with_reducible refine Ext.alloc ?_ _ | with_reducible refine Ext.onto ?_ _ | (with_reducible refine Ext.setCells ?_ ?_ _ _; rotate_left; focus (first | omega | (simp; done) | (simp; omega))) | (with_reducible refine Ext.setCell ?_ ?_ _; rotate_left; focus (first | omega | (simp; done) | (simp; omega))))))).mono ?_; rintro e w' ⟨rfl, hxl⟩; obtain ⟨xl, rfl⟩ := hxl.asLater; clear hxl))
      | (go_at_call 30; refine (HG.out _).mono ?_; rintro e w' ⟨rfl, hxl⟩; obtain ⟨xl, rfl⟩ := hxl.asLater; clear hxl)
      | (go_at_call 23; refine (HSan.out _ (by (repeat (first | with_reducible exact Ext.refl _ | with_reducible exact Ext.refl _ | with_reducible refine Ext.drew ?_ | with_reducible refine Ext.drewN ?_ _ | with_reducible refine Ext.alloc ?_ _ | with_reducible refine Ext.onto ?_ _ | (with_reducible refine Ext.setCells ?_ ?_ _ _; rotate_left; focus (first | omega | (simp; done) | (simp; omega))) | (with_reducible refine Ext.setCell ?_ ?_ _; rotate_left; focus (first | omega | (simp; done) | (simp; omega))))))).mono ?_; rintro e w' ⟨rfl, hxl⟩; obtain ⟨xl, rfl⟩ := hxl.asLater; clear hxl))
    go_ret
    exact ⟨rfl, (by (repeat (first | with_reducible exact Ext.refl _ | with_reducible exact Ext.refl _ | with_reducible refine Ext.drew ?_ | with_reducible refine Ext.drewN ?_ _ | with_reducible refine Ext.alloc ?_ _ | with_reducible refine Ext.onto ?_ _ | (with_reducible refine Ext.setCells ?_ ?_ _ _; rotate_left; focus (first | omega | (simp; done) | (simp; omega))) | (with_reducible refine Ext.setCell ?_ ?_ _; rotate_left; focus (first | omega | (simp; done) | (simp; omega))))))⟩
  by_cases hc2 : 20000 < text.size
  · clear hc1
    go_enter Tryz.func5, Tryz.ntmps5
    go_wp2_with (first
      | (go_at_call 27; first | (with_reducible refine (HVA.out _ (by (repeat (first | with_reducible exact Ext.refl _ | with_reducible exact Ext.refl _ | with_reducible refine Ext.drew ?_ | with_reducible refine Ext.drewN ?_ _ | with_reducible refine Ext.alloc ?_ _ | with_reducible refine Ext.onto ?_ _ | (with_reducible refine Ext.setCells ?_ ?_ _ _; rotate_left; focus (first | omega | (simp; done) | (simp; omega))) | (with_reducible refine Ext.setCell ?_ ?_ _; rotate_left; focus (first | omega | (simp; done) | (simp; omega))))))).mono ?_; rintro e w' ⟨rfl, hxl⟩; obtain ⟨xl, rfl⟩ := hxl.asLater; clear hxl) | (with_reducible refine (HVB.out _ (by (repeat (first | with_reducible exact Ext.refl _ | with_reducible exact Ext.refl _ | with_reducible refine Ext.drew ?_ | with_reducible refine Ext.drewN ?_ _ | with_reducible refine Ext.alloc ?_ _ | with_reducible refine Ext.onto ?_ _ | (with_reducible refine Ext.setCells ?_ ?_ _ _; rotate_left; focus (first | omega | (simp; done) | (simp; omega))) | (with_reducible refine Ext.setCell ?_ ?_ _; rotate_left; focus (first | omega | (simp; done) | (simp; omega))))))).mono ?_; rintro e w' ⟨rfl, hxl⟩; obtain ⟨xl, rfl⟩ := hxl.asLater; clear hxl))
      | (go_at_call 30; refine (HG.out _).mono ?_; rintro e w' ⟨rfl, hxl⟩; obtain ⟨xl, rfl⟩ := hxl.asLater; clear hxl)
      | (go_at_call 23; refine (HSan.out _ (by (repeat (first | with_reducible exact Ext.refl _ | with_reducible exact Ext.refl _ | with_reducible refine Ext.drew ?_ | with_reducible refine Ext.drewN ?_ _ | with_reducible refine Ext.alloc ?_ _ | with_reducible refine Ext.onto ?_ _ | (with_reducible refine Ext.setCells ?_ ?_ _ _; rotate_left; focus (first | omega | (simp; done) | (simp; omega))) | (with_reducible refine Ext.setCell ?_ ?_ _; rotate_left; focus (first | omega | (simp; done) | (simp; omega))))))).mono ?_; rintro e w' ⟨rfl, hxl⟩; obtain ⟨xl, rfl⟩ := hxl.asLater; clear hxl))
    go_ret
    exact ⟨rfl, (by (repeat (first | with_reducible exact Ext.refl _ | with_reducible exact Ext.refl _ | with_reducible refine Ext.drew ?_ | with_reducible refine Ext.drewN ?_ _ | with_reducible refine Ext.alloc ?_ _ | with_reducible refine Ext.onto ?_ _ | (with_reducible refine Ext.setCells ?_ ?_ _ _; rotate_left; focus (first | omega | (simp; done) | (simp; omega))) | (with_reducible refine Ext.setCell ?_ ?_ _; rotate_left; focus (first | omega | (simp; done) | (simp; omega))))))⟩
  by_cases hc3 : 40 < a.length
  · have d1 : (decide (600 < (text.size : Int)) && decide ((text.size : Int) ≤ 10000)) = false := by simp; omega
    by_cases hc4 : 600 < text.size
    · have hc5 : 10000 < text.size := by omega
      clear hc1
      go_enter Tryz.func5, Tryz.ntmps5
      go_wp2_with (first
        | (go_at_call 27; first | (with_reducible refine (HVA.out _ (by (repeat (first | with_reducible exact Ext.refl _ | with_reducible exact Ext.refl _ | with_reducible refine Ext.drew ?_ | with_reducible refine Ext.drewN ?_ _ | with_reducible refine Ext.alloc ?_ _ | with_reducible refine Ext.onto ?_ _ | (with_reducible refine Ext.setCells ?_ ?_ _ _; rotate_left; focus (first | omega | (simp; done) | (simp; omega))) | (with_reducible refine Ext.setCell ?_ ?_ _; rotate_left; focus (first | omega | (simp; done) | (simp; omega))))))).mono ?_; rintro e w' ⟨rfl, hxl⟩; obtain ⟨xl, rfl⟩ := hxl.asLater; clear hxl) | (with_reducible refine (HVB.out _ (by (repeat (first | with_reducible exact Ext.refl _ | with_reducible exact Ext.refl _ | with_reducible refine Ext.drew ?_ | with_reducible refine Ext.drewN ?_ _ | with_reducible refine Ext.alloc ?_ _ | with_reducible refine Ext.onto ?_ _ | (with_reducible refine Ext.setCells ?_ ?_ _ _; rotate_left; focus (first | omega | (simp; done) | (simp; omega))) | (with_reducible refine Ext.setCell ?_ ?_ _; rotate_left; focus (first | omega | (simp; done) | (simp; omega))))))).mono ?_; rintro e w' ⟨rfl, hxl⟩; obtain ⟨xl, rfl⟩ := hxl.asLater; clear hxl))
        | (go_at_call 30; refine (HG.out _).mono ?_; rintro e w' ⟨rfl, hxl⟩; obtain ⟨xl, rfl⟩ := hxl.asLater; clear hxl)
        | (go_at_call 23; refine (HSan.out _ (by (repeat (first | with_reducible exact Ext.refl _ | with_reducible exact Ext.refl _ | with_reducible refine Ext.drew ?_ | with_reducible refine Ext.drewN ?_ _ | with_reducible refine Ext.alloc ?_ _ | with_reducible refine Ext.onto ?_ _ | (with_reducible refine Ext.setCells ?_ ?_ _ _; rotate_left; focus (first | omega | (simp; done) | (simp; omega))) | (with_reducible refine Ext.setCell ?_ ?_ _; rotate_left; focus (first | omega | (simp; done) | (simp; omega))))))).mono ?_; rintro e w' ⟨rfl, hxl⟩; obtain ⟨xl, rfl⟩ := hxl.asLater; clear hxl))
      go_ret
      exact ⟨rfl, (by (repeat (first | with_reducible exact Ext.refl _ | with_reducible exact Ext.refl _ | with_reducible refine Ext.drew ?_ | with_reducible refine Ext.drewN ?_ _ | with_reducible refine Ext.alloc ?_ _ | with_reducible refine Ext.onto ?_ _ | (with_reducible refine Ext.setCells ?_ ?_ _ _; rotate_left; focus (first | omega | (simp; done) | (simp; omega))) | (with_reducible refine Ext.setCell ?_ ?_ _; rotate_left; focus (first | omega | (simp; done) | (simp; omega))))))⟩
    · clear hc1
      go_enter Tryz.func5, Tryz.ntmps5
      go_wp2_with (first
        | (go_at_call 27; first | (with_reducible refine (HVA.out _ (by (repeat (first | with_reducible exact Ext.refl _ | with_reducible exact Ext.refl _ | with_reducible refine Ext.drew ?_ | with_reducible refine Ext.drewN ?_ _ | with_reducible refine Ext.alloc ?_ _ | with_reducible refine Ext.onto ?_ _ | (with_reducible refine Ext.setCells ?_ ?_ _ _; rotate_left; focus (first | omega | (simp; done) | (simp; omega))) | (with_reducible refine Ext.setCell ?_ ?_ _; rotate_left; focus (first | omega | (simp; done) | (simp; omega))))))).mono ?_; rintro e w' ⟨rfl, hxl⟩; obtain ⟨xl, rfl⟩ := hxl.asLater; clear hxl) | (with_reducible refine (HVB.out _ (by (repeat (first | with_reducible exact Ext.refl _ | with_reducible exact Ext.refl _ | with_reducible refine Ext.drew ?_ | with_reducible refine Ext.drewN ?_ _ | with_reducible refine Ext.alloc ?_ _ | with_reducible refine Ext.onto ?_ _ | (with_reducible refine Ext.setCells ?_ ?_ _ _; rotate_left; focus (first | omega | (simp; done) | (simp; omega))) | (with_reducible refine Ext.setCell ?_ ?_ _; rotate_left; focus (first | omega | (simp; done) | (simp; omega))))))).mono ?_; rintro e w' ⟨rfl, hxl⟩; obtain ⟨xl, rfl⟩ := hxl.asLater; clear hxl))
        | (go_at_call 30; refine (HG.out _).mono ?_; rintro e w' ⟨rfl, hxl⟩; obtain ⟨xl, rfl⟩ := hxl.asLater; clear hxl)
        | (go_at_call 23; refine (HSan.out _ (by (repeat (first | with_reducible exact Ext.refl _ | with_reducible exact Ext.refl _ | with_reducible refine Ext.drew ?_ | with_reducible refine Ext.drewN ?_ _ | with_reducible refine Ext.alloc ?_ _ | with_reducible refine Ext.onto ?_ _ | (with_reducible refine Ext.setCells ?_ ?_ _ _; rotate_left; focus (first | omega | (simp; done) | (simp; omega))) | (with_reducible refine Ext.setCell ?_ ?_ _; rotate_left; focus (first | omega | (simp; done) | (simp; omega))))))).mono ?_; rintro e w' ⟨rfl, hxl⟩; obtain ⟨xl, rfl⟩ := hxl.asLater; clear hxl))
      go_ret
      exact ⟨rfl, (by (repeat (first | with_reducible exact Ext.refl _ | with_reducible exact Ext.refl _ | with_reducible refine Ext.drew ?_ | with_reducible refine Ext.drewN ?_ _ | with_reducible refine Ext.alloc ?_ _ | with_reducible refine Ext.onto ?_ _ | (with_reducible refine Ext.setCells ?_ ?_ _ _; rotate_left; focus (first | omega | (simp; done) | (simp; omega))) | (with_reducible refine Ext.setCell ?_ ?_ _; rotate_left; focus (first | omega | (simp; done) | (simp; omega))))))⟩
  obtain ⟨⟨u, n⟩, hu⟩ : ∃ p, Rp.parseN size text.data.toList = p := ⟨_, rfl⟩
  have HP := Lib.hid (fun W (hx : Ext w W) => pparse_is text size W (HL.out.on hx) u n hu)
  have HR := Lib.hid (fun W => rparse_is text size W u n hu)
  have hul := len40 (parse_in hu)
  obtain ⟨va, hva⟩ : ∃ v, setB a = v := ⟨_, rfl⟩
  replace HVA := Lib.hid (fun W (hx : Ext w W) => rvalid_is va hva (by omega) (H1.out.on hx))
  obtain ⟨pb, hpb⟩ : ∃ p, printB a = p := ⟨_, rfl⟩
  have HPr : Hid (va = true → ∀ W, Ext w W → Calls Tryz.prog 28 #[.slice A a.length c] W fun e w' => e = .returned (.string pb) ∧ Ext W w') := Lib.hid (fun hv W hx => by
    rw [← hpb]
    exact print_any A c a W (setB_set (hva.trans hv)) (by omega) (H1.out.on hx).hr (HL.out.on hx).p)
  have HRr : Hid (va = true → ∀ W, Ext w W → Calls Tryz.prog 29 #[.slice A a.length c] W fun e w' => e = .returned (.string pb) ∧ Ext W w') := Lib.hid (fun hv W hx => by
    rw [← hpb]
    exact rprint_any A c a W (setB_set (hva.trans hv)) (by omega) (H1.out.on hx).hr)
  clear hu hva hpb HVB HG
  cases va with
  | false =>
    by_cases hc4 : 600 < text.size
    · have hc5 : 10000 < text.size := by omega
      clear hc1
      go_enter Tryz.func5, Tryz.ntmps5
      go_wp2_with (first
        | (go_at_call 33; refine (show Hid _ from ?_).out)
        | (go_at_call 35; refine (show Hid _ from ?_).out)
        | (go_at_call 38; refine (show Hid _ from ?_).out)
        | (go_at_call 32; refine (show Hid _ from ?_).out)
        | (go_at_call 31; refine (show Hid _ from ?_).out)
        | (go_at_call 34; refine (show Hid _ from ?_).out)
        | (go_at_call 37; refine (show Hid _ from ?_).out)
        | (go_at_call 43; refine (show Hid _ from ?_).out)
        | (go_at_call 36; refine (show Hid _ from ?_).out)
        | (go_at_call 24; refine (show Hid _ from ?_).out)
        | (go_at_call 28; refine (show Hid _ from ?_).out)
        | (go_at_call 26; refine (show Hid _ from ?_).out)
        | (go_at_call 27; refine (show Hid _ from ?_).out)
        | (go_at_call 30; refine (show Hid _ from ?_).out)
        | (go_at_call 39; refine (show Hid _ from ?_).out)
        | (go_at_call 40; refine (show Hid _ from ?_).out)
        | (go_at_call 41; refine (show Hid _ from ?_).out)
        | (go_at_call 22; refine (show Hid _ from ?_).out)
        | (go_at_call 42; refine (show Hid _ from ?_).out)
        | (go_at_call 44; refine (show Hid _ from ?_).out)
        | (go_at_call 25; refine (show Hid _ from ?_).out)
        | (go_at_call 29; refine (show Hid _ from ?_).out)
        | (go_at_call 23; refine (show Hid _ from ?_).out))
      refine Lib.hid ?_
      refine (HP.out _ (by (repeat (first | with_reducible exact Ext.refl _ | with_reducible exact Ext.refl _ | with_reducible refine Ext.drew ?_ | with_reducible refine Ext.drewN ?_ _ | with_reducible refine Ext.alloc ?_ _ | with_reducible refine Ext.onto ?_ _ | (with_reducible refine Ext.setCells ?_ ?_ _ _; rotate_left; focus (first | omega | (simp; done) | (simp; omega))) | (with_reducible refine Ext.setCell ?_ ?_ _; rotate_left; focus (first | omega | (simp; done) | (simp; omega))))))).mono ?_
      rintro e w1 ⟨A1, c1, rfl, hs, hx⟩
      have HX := Lib.hid ((show Ext w _ from (by (repeat (first | with_reducible exact Ext.refl _ | with_reducible exact Ext.refl _ | with_reducible refine Ext.drew ?_ | with_reducible refine Ext.drewN ?_ _ | with_reducible refine Ext.alloc ?_ _ | with_reducible refine Ext.onto ?_ _ | (with_reducible refine Ext.setCells ?_ ?_ _ _; rotate_left; focus (first | omega | (simp; done) | (simp; omega))) | (with_reducible refine Ext.setCell ?_ ?_ _; rotate_left; focus (first | omega | (simp; done) | (simp; omega))))))).trans hx)
      have HS1 := Lib.hid hs
      clear hs hx
      go_wp2_with (first
        | (go_at_call 33; refine (show Hid _ from ?_).out)
        | (go_at_call 35; refine (show Hid _ from ?_).out)
        | (go_at_call 38; refine (show Hid _ from ?_).out)
        | (go_at_call 32; refine (show Hid _ from ?_).out)
        | (go_at_call 31; refine (show Hid _ from ?_).out)
        | (go_at_call 34; refine (show Hid _ from ?_).out)
        | (go_at_call 37; refine (show Hid _ from ?_).out)
        | (go_at_call 43; refine (show Hid _ from ?_).out)
        | (go_at_call 36; refine (show Hid _ from ?_).out)
        | (go_at_call 24; refine (show Hid _ from ?_).out)
        | (go_at_call 28; refine (show Hid _ from ?_).out)
        | (go_at_call 26; refine (show Hid _ from ?_).out)
        | (go_at_call 27; refine (show Hid _ from ?_).out)
        | (go_at_call 30; refine (show Hid _ from ?_).out)
        | (go_at_call 39; refine (show Hid _ from ?_).out)
        | (go_at_call 40; refine (show Hid _ from ?_).out)
        | (go_at_call 41; refine (show Hid _ from ?_).out)
        | (go_at_call 22; refine (show Hid _ from ?_).out)
        | (go_at_call 42; refine (show Hid _ from ?_).out)
        | (go_at_call 44; refine (show Hid _ from ?_).out)
        | (go_at_call 25; refine (show Hid _ from ?_).out)
        | (go_at_call 29; refine (show Hid _ from ?_).out)
        | (go_at_call 23; refine (show Hid _ from ?_).out))
      refine Lib.hid ?_
      refine (HR.out _).mono ?_
      rintro e w2 ⟨A2, c2, rfl, hs, hx⟩
      have hxk := (show Ext w1 _ from (by (repeat (first | with_reducible exact Ext.refl _ | with_reducible exact Ext.refl _ | with_reducible refine Ext.drew ?_ | with_reducible refine Ext.drewN ?_ _ | with_reducible refine Ext.alloc ?_ _ | with_reducible refine Ext.onto ?_ _ | (with_reducible refine Ext.setCells ?_ ?_ _ _; rotate_left; focus (first | omega | (simp; done) | (simp; omega))) | (with_reducible refine Ext.setCell ?_ ?_ _; rotate_left; focus (first | omega | (simp; done) | (simp; omega))))))).trans hx
      replace HX := Lib.hid (HX.out.trans hxk)
      replace HS1 := Lib.hid (HS1.out.on hxk)
      have HS2 := Lib.hid hs
      clear hs hx hxk
      go_wp2_with (first
        | (go_at_call 33; refine (show Hid _ from ?_).out)
        | (go_at_call 35; refine (show Hid _ from ?_).out)
        | (go_at_call 38; refine (show Hid _ from ?_).out)
        | (go_at_call 32; refine (show Hid _ from ?_).out)
        | (go_at_call 31; refine (show Hid _ from ?_).out)
        | (go_at_call 34; refine (show Hid _ from ?_).out)
        | (go_at_call 37; refine (show Hid _ from ?_).out)
        | (go_at_call 43; refine (show Hid _ from ?_).out)
        | (go_at_call 36; refine (show Hid _ from ?_).out)
        | (go_at_call 24; refine (show Hid _ from ?_).out)
        | (go_at_call 28; refine (show Hid _ from ?_).out)
        | (go_at_call 26; refine (show Hid _ from ?_).out)
        | (go_at_call 27; refine (show Hid _ from ?_).out)
        | (go_at_call 30; refine (show Hid _ from ?_).out)
        | (go_at_call 39; refine (show Hid _ from ?_).out)
        | (go_at_call 40; refine (show Hid _ from ?_).out)
        | (go_at_call 41; refine (show Hid _ from ?_).out)
        | (go_at_call 22; refine (show Hid _ from ?_).out)
        | (go_at_call 42; refine (show Hid _ from ?_).out)
        | (go_at_call 44; refine (show Hid _ from ?_).out)
        | (go_at_call 25; refine (show Hid _ from ?_).out)
        | (go_at_call 29; refine (show Hid _ from ?_).out)
        | (go_at_call 23; refine (show Hid _ from ?_).out))
      refine Lib.hid ?_
      refine (HSan.out _ (by (repeat (first | with_reducible exact HX.out | with_reducible exact Ext.refl _ | with_reducible refine Ext.drew ?_ | with_reducible refine Ext.drewN ?_ _ | with_reducible refine Ext.alloc ?_ _ | with_reducible refine Ext.onto ?_ _ | (with_reducible refine Ext.setCells ?_ ?_ _ _; rotate_left; focus (first | omega | (simp; done) | (simp; omega))) | (with_reducible refine Ext.setCell ?_ ?_ _; rotate_left; focus (first | omega | (simp; done) | (simp; omega))))))).mono ?_
      rintro e w' ⟨rfl, hxl⟩; obtain ⟨v1, rfl⟩ := hxl.asLater; clear hxl
      go_wp2_with (first
        | (go_at_call 33; refine (show Hid _ from ?_).out)
        | (go_at_call 35; refine (show Hid _ from ?_).out)
        | (go_at_call 38; refine (show Hid _ from ?_).out)
        | (go_at_call 32; refine (show Hid _ from ?_).out)
        | (go_at_call 31; refine (show Hid _ from ?_).out)
        | (go_at_call 34; refine (show Hid _ from ?_).out)
        | (go_at_call 37; refine (show Hid _ from ?_).out)
        | (go_at_call 43; refine (show Hid _ from ?_).out)
        | (go_at_call 36; refine (show Hid _ from ?_).out)
        | (go_at_call 24; refine (show Hid _ from ?_).out)
        | (go_at_call 28; refine (show Hid _ from ?_).out)
        | (go_at_call 26; refine (show Hid _ from ?_).out)
        | (go_at_call 27; refine (show Hid _ from ?_).out)
        | (go_at_call 30; refine (show Hid _ from ?_).out)
        | (go_at_call 39; refine (show Hid _ from ?_).out)
        | (go_at_call 40; refine (show Hid _ from ?_).out)
        | (go_at_call 41; refine (show Hid _ from ?_).out)
        | (go_at_call 22; refine (show Hid _ from ?_).out)
        | (go_at_call 42; refine (show Hid _ from ?_).out)
        | (go_at_call 44; refine (show Hid _ from ?_).out)
        | (go_at_call 25; refine (show Hid _ from ?_).out)
        | (go_at_call 29; refine (show Hid _ from ?_).out)
        | (go_at_call 23; refine (show Hid _ from ?_).out))
      refine Lib.hid ?_
      refine (rsame_is (by omega) (HS1.out.on (by (repeat (first | with_reducible exact Ext.refl _ | with_reducible exact Ext.refl _ | with_reducible refine Ext.drew ?_ | with_reducible refine Ext.drewN ?_ _ | with_reducible refine Ext.alloc ?_ _ | with_reducible refine Ext.onto ?_ _ | (with_reducible refine Ext.setCells ?_ ?_ _ _; rotate_left; focus (first | omega | (simp; done) | (simp; omega))) | (with_reducible refine Ext.setCell ?_ ?_ _; rotate_left; focus (first | omega | (simp; done) | (simp; omega))))))) (HS2.out.on (by (repeat (first | with_reducible exact Ext.refl _ | with_reducible exact Ext.refl _ | with_reducible refine Ext.drew ?_ | with_reducible refine Ext.drewN ?_ _ | with_reducible refine Ext.alloc ?_ _ | with_reducible refine Ext.onto ?_ _ | (with_reducible refine Ext.setCells ?_ ?_ _ _; rotate_left; focus (first | omega | (simp; done) | (simp; omega))) | (with_reducible refine Ext.setCell ?_ ?_ _; rotate_left; focus (first | omega | (simp; done) | (simp; omega)))))))).mono ?_
      rintro e w' ⟨rfl, hxl⟩; obtain ⟨v2, rfl⟩ := hxl.asLater; clear hxl
      go_wp2_with (first
        | (go_at_call 33; refine (show Hid _ from ?_).out)
        | (go_at_call 35; refine (show Hid _ from ?_).out)
        | (go_at_call 38; refine (show Hid _ from ?_).out)
        | (go_at_call 32; refine (show Hid _ from ?_).out)
        | (go_at_call 31; refine (show Hid _ from ?_).out)
        | (go_at_call 34; refine (show Hid _ from ?_).out)
        | (go_at_call 37; refine (show Hid _ from ?_).out)
        | (go_at_call 43; refine (show Hid _ from ?_).out)
        | (go_at_call 36; refine (show Hid _ from ?_).out)
        | (go_at_call 24; refine (show Hid _ from ?_).out)
        | (go_at_call 28; refine (show Hid _ from ?_).out)
        | (go_at_call 26; refine (show Hid _ from ?_).out)
        | (go_at_call 27; refine (show Hid _ from ?_).out)
        | (go_at_call 30; refine (show Hid _ from ?_).out)
        | (go_at_call 39; refine (show Hid _ from ?_).out)
        | (go_at_call 40; refine (show Hid _ from ?_).out)
        | (go_at_call 41; refine (show Hid _ from ?_).out)
        | (go_at_call 22; refine (show Hid _ from ?_).out)
        | (go_at_call 42; refine (show Hid _ from ?_).out)
        | (go_at_call 44; refine (show Hid _ from ?_).out)
        | (go_at_call 25; refine (show Hid _ from ?_).out)
        | (go_at_call 29; refine (show Hid _ from ?_).out)
        | (go_at_call 23; refine (show Hid _ from ?_).out))
      refine Lib.hid ?_
      refine (HVA.out _ (by (repeat (first | with_reducible exact HX.out | with_reducible exact Ext.refl _ | with_reducible refine Ext.drew ?_ | with_reducible refine Ext.drewN ?_ _ | with_reducible refine Ext.alloc ?_ _ | with_reducible refine Ext.onto ?_ _ | (with_reducible refine Ext.setCells ?_ ?_ _ _; rotate_left; focus (first | omega | (simp; done) | (simp; omega))) | (with_reducible refine Ext.setCell ?_ ?_ _; rotate_left; focus (first | omega | (simp; done) | (simp; omega))))))).mono ?_
      rintro e w' ⟨rfl, hxl⟩; obtain ⟨v3, rfl⟩ := hxl.asLater; clear hxl
      go_wp2
      go_ret
      exact ⟨by simp, (by (repeat (first | with_reducible exact HX.out | with_reducible exact Ext.refl _ | with_reducible refine Ext.drew ?_ | with_reducible refine Ext.drewN ?_ _ | with_reducible refine Ext.alloc ?_ _ | with_reducible refine Ext.onto ?_ _ | (with_reducible refine Ext.setCells ?_ ?_ _ _; rotate_left; focus (first | omega | (simp; done) | (simp; omega))) | (with_reducible refine Ext.setCell ?_ ?_ _; rotate_left; focus (first | omega | (simp; done) | (simp; omega))))))⟩
    · clear hc1
      go_enter Tryz.func5, Tryz.ntmps5
      go_wp2_with (first
        | (go_at_call 33; refine (show Hid _ from ?_).out)
        | (go_at_call 35; refine (show Hid _ from ?_).out)
        | (go_at_call 38; refine (show Hid _ from ?_).out)
        | (go_at_call 32; refine (show Hid _ from ?_).out)
        | (go_at_call 31; refine (show Hid _ from ?_).out)
        | (go_at_call 34; refine (show Hid _ from ?_).out)
        | (go_at_call 37; refine (show Hid _ from ?_).out)
        | (go_at_call 43; refine (show Hid _ from ?_).out)
        | (go_at_call 36; refine (show Hid _ from ?_).out)
        | (go_at_call 24; refine (show Hid _ from ?_).out)
        | (go_at_call 28; refine (show Hid _ from ?_).out)
        | (go_at_call 26; refine (show Hid _ from ?_).out)
        | (go_at_call 27; refine (show Hid _ from ?_).out)
        | (go_at_call 30; refine (show Hid _ from ?_).out)
        | (go_at_call 39; refine (show Hid _ from ?_).out)
        | (go_at_call 40; refine (show Hid _ from ?_).out)
        | (go_at_call 41; refine (show Hid _ from ?_).out)
        | (go_at_call 22; refine (show Hid _ from ?_).out)
        | (go_at_call 42; refine (show Hid _ from ?_).out)
        | (go_at_call 44; refine (show Hid _ from ?_).out)
        | (go_at_call 25; refine (show Hid _ from ?_).out)
        | (go_at_call 29; refine (show Hid _ from ?_).out)
        | (go_at_call 23; refine (show Hid _ from ?_).out))
      refine Lib.hid ?_
      refine (HP.out _ (by (repeat (first | with_reducible exact Ext.refl _ | with_reducible exact Ext.refl _ | with_reducible refine Ext.drew ?_ | with_reducible refine Ext.drewN ?_ _ | with_reducible refine Ext.alloc ?_ _ | with_reducible refine Ext.onto ?_ _ | (with_reducible refine Ext.setCells ?_ ?_ _ _; rotate_left; focus (first | omega | (simp; done) | (simp; omega))) | (with_reducible refine Ext.setCell ?_ ?_ _; rotate_left; focus (first | omega | (simp; done) | (simp; omega))))))).mono ?_
      rintro e w1 ⟨A1, c1, rfl, hs, hx⟩
      have HX := Lib.hid ((show Ext w _ from (by (repeat (first | with_reducible exact Ext.refl _ | with_reducible exact Ext.refl _ | with_reducible refine Ext.drew ?_ | with_reducible refine Ext.drewN ?_ _ | with_reducible refine Ext.alloc ?_ _ | with_reducible refine Ext.onto ?_ _ | (with_reducible refine Ext.setCells ?_ ?_ _ _; rotate_left; focus (first | omega | (simp; done) | (simp; omega))) | (with_reducible refine Ext.setCell ?_ ?_ _; rotate_left; focus (first | omega | (simp; done) | (simp; omega))))))).trans hx)
      have HS1 := Lib.hid hs
      clear hs hx
      go_wp2_with (first
        | (go_at_call 33; refine (show Hid _ from ?_).out)
        | (go_at_call 35; refine (show Hid _ from ?_).out)
        | (go_at_call 38; refine (show Hid _ from ?_).out)
        | (go_at_call 32; refine (show Hid _ from ?_).out)
        | (go_at_call 31; refine (show Hid _ from ?_).out)
        | (go_at_call 34; refine (show Hid _ from ?_).out)
        | (go_at_call 37; refine (show Hid _ from ?_).out)
        | (go_at_call 43; refine (show Hid _ from ?_).out)
        | (go_at_call 36; refine (show Hid _ from ?_).out)
        | (go_at_call 24; refine (show Hid _ from ?_).out)
        | (go_at_call 28; refine (show Hid _ from ?_).out)
        | (go_at_call 26; refine (show Hid _ from ?_).out)
        | (go_at_call 27; refine (show Hid _ from ?_).out)
        | (go_at_call 30; refine (show Hid _ from ?_).out)
        | (go_at_call 39; refine (show Hid _ from ?_).out)
        | (go_at_call 40; refine (show Hid _ from ?_).out)
        | (go_at_call 41; refine (show Hid _ from ?_).out)
        | (go_at_call 22; refine (show Hid _ from ?_).out)
        | (go_at_call 42; refine (show Hid _ from ?_).out)
        | (go_at_call 44; refine (show Hid _ from ?_).out)
        | (go_at_call 25; refine (show Hid _ from ?_).out)
        | (go_at_call 29; refine (show Hid _ from ?_).out)
        | (go_at_call 23; refine (show Hid _ from ?_).out))
      refine Lib.hid ?_
      refine (HR.out _).mono ?_
      rintro e w2 ⟨A2, c2, rfl, hs, hx⟩
      have hxk := (show Ext w1 _ from (by (repeat (first | with_reducible exact Ext.refl _ | with_reducible exact Ext.refl _ | with_reducible refine Ext.drew ?_ | with_reducible refine Ext.drewN ?_ _ | with_reducible refine Ext.alloc ?_ _ | with_reducible refine Ext.onto ?_ _ | (with_reducible refine Ext.setCells ?_ ?_ _ _; rotate_left; focus (first | omega | (simp; done) | (simp; omega))) | (with_reducible refine Ext.setCell ?_ ?_ _; rotate_left; focus (first | omega | (simp; done) | (simp; omega))))))).trans hx
      replace HX := Lib.hid (HX.out.trans hxk)
      replace HS1 := Lib.hid (HS1.out.on hxk)
      have HS2 := Lib.hid hs
      clear hs hx hxk
      go_wp2_with (first
        | (go_at_call 33; refine (show Hid _ from ?_).out)
        | (go_at_call 35; refine (show Hid _ from ?_).out)
        | (go_at_call 38; refine (show Hid _ from ?_).out)
        | (go_at_call 32; refine (show Hid _ from ?_).out)
        | (go_at_call 31; refine (show Hid _ from ?_).out)
        | (go_at_call 34; refine (show Hid _ from ?_).out)
        | (go_at_call 37; refine (show Hid _ from ?_).out)
        | (go_at_call 43; refine (show Hid _ from ?_).out)
        | (go_at_call 36; refine (show Hid _ from ?_).out)
        | (go_at_call 24; refine (show Hid _ from ?_).out)
        | (go_at_call 28; refine (show Hid _ from ?_).out)
        | (go_at_call 26; refine (show Hid _ from ?_).out)
        | (go_at_call 27; refine (show Hid _ from ?_).out)
        | (go_at_call 30; refine (show Hid _ from ?_).out)
        | (go_at_call 39; refine (show Hid _ from ?_).out)
        | (go_at_call 40; refine (show Hid _ from ?_).out)
        | (go_at_call 41; refine (show Hid _ from ?_).out)
        | (go_at_call 22; refine (show Hid _ from ?_).out)
        | (go_at_call 42; refine (show Hid _ from ?_).out)
        | (go_at_call 44; refine (show Hid _ from ?_).out)
        | (go_at_call 25; refine (show Hid _ from ?_).out)
        | (go_at_call 29; refine (show Hid _ from ?_).out)
        | (go_at_call 23; refine (show Hid _ from ?_).out))
      refine Lib.hid ?_
      refine (HSan.out _ (by (repeat (first | with_reducible exact HX.out | with_reducible exact Ext.refl _ | with_reducible refine Ext.drew ?_ | with_reducible refine Ext.drewN ?_ _ | with_reducible refine Ext.alloc ?_ _ | with_reducible refine Ext.onto ?_ _ | (with_reducible refine Ext.setCells ?_ ?_ _ _; rotate_left; focus (first | omega | (simp; done) | (simp; omega))) | (with_reducible refine Ext.setCell ?_ ?_ _; rotate_left; focus (first | omega | (simp; done) | (simp; omega))))))).mono ?_
      rintro e w' ⟨rfl, hxl⟩; obtain ⟨v1, rfl⟩ := hxl.asLater; clear hxl
      go_wp2_with (first
        | (go_at_call 33; refine (show Hid _ from ?_).out)
        | (go_at_call 35; refine (show Hid _ from ?_).out)
        | (go_at_call 38; refine (show Hid _ from ?_).out)
        | (go_at_call 32; refine (show Hid _ from ?_).out)
        | (go_at_call 31; refine (show Hid _ from ?_).out)
        | (go_at_call 34; refine (show Hid _ from ?_).out)
        | (go_at_call 37; refine (show Hid _ from ?_).out)
        | (go_at_call 43; refine (show Hid _ from ?_).out)
        | (go_at_call 36; refine (show Hid _ from ?_).out)
        | (go_at_call 24; refine (show Hid _ from ?_).out)
        | (go_at_call 28; refine (show Hid _ from ?_).out)
        | (go_at_call 26; refine (show Hid _ from ?_).out)
        | (go_at_call 27; refine (show Hid _ from ?_).out)
        | (go_at_call 30; refine (show Hid _ from ?_).out)
        | (go_at_call 39; refine (show Hid _ from ?_).out)
        | (go_at_call 40; refine (show Hid _ from ?_).out)
        | (go_at_call 41; refine (show Hid _ from ?_).out)
        | (go_at_call 22; refine (show Hid _ from ?_).out)
        | (go_at_call 42; refine (show Hid _ from ?_).out)
        | (go_at_call 44; refine (show Hid _ from ?_).out)
        | (go_at_call 25; refine (show Hid _ from ?_).out)
        | (go_at_call 29; refine (show Hid _ from ?_).out)
        | (go_at_call 23; refine (show Hid _ from ?_).out))
      refine Lib.hid ?_
      refine (rsame_is (by omega) (HS1.out.on (by (repeat (first | with_reducible exact Ext.refl _ | with_reducible exact Ext.refl _ | with_reducible refine Ext.drew ?_ | with_reducible refine Ext.drewN ?_ _ | with_reducible refine Ext.alloc ?_ _ | with_reducible refine Ext.onto ?_ _ | (with_reducible refine Ext.setCells ?_ ?_ _ _; rotate_left; focus (first | omega | (simp; done) | (simp; omega))) | (with_reducible refine Ext.setCell ?_ ?_ _; rotate_left; focus (first | omega | (simp; done) | (simp; omega))))))) (HS2.out.on (by (repeat (first | with_reducible exact Ext.refl _ | with_reducible exact Ext.refl _ | with_reducible refine Ext.drew ?_ | with_reducible refine Ext.drewN ?_ _ | with_reducible refine Ext.alloc ?_ _ | with_reducible refine Ext.onto ?_ _ | (with_reducible refine Ext.setCells ?_ ?_ _ _; rotate_left; focus (first | omega | (simp; done) | (simp; omega))) | (with_reducible refine Ext.setCell ?_ ?_ _; rotate_left; focus (first | omega | (simp; done) | (simp; omega)))))))).mono ?_
      rintro e w' ⟨rfl, hxl⟩; obtain ⟨v2, rfl⟩ := hxl.asLater; clear hxl
      go_wp2_with (first
        | (go_at_call 33; refine (show Hid _ from ?_).out)
        | (go_at_call 35; refine (show Hid _ from ?_).out)
        | (go_at_call 38; refine (show Hid _ from ?_).out)
        | (go_at_call 32; refine (show Hid _ from ?_).out)
        | (go_at_call 31; refine (show Hid _ from ?_).out)
        | (go_at_call 34; refine (show Hid _ from ?_).out)
        | (go_at_call 37; refine (show Hid _ from ?_).out)
        | (go_at_call 43; refine (show Hid _ from ?_).out)
        | (go_at_call 36; refine (show Hid _ from ?_).out)
        | (go_at_call 24; refine (show Hid _ from ?_).out)
        | (go_at_call 28; refine (show Hid _ from ?_).out)
        | (go_at_call 26; refine (show Hid _ from ?_).out)
        | (go_at_call 27; refine (show Hid _ from ?_).out)
        | (go_at_call 30; refine (show Hid _ from ?_).out)
        | (go_at_call 39; refine (show Hid _ from ?_).out)
        | (go_at_call 40; refine (show Hid _ from ?_).out)
        | (go_at_call 41; refine (show Hid _ from ?_).out)
        | (go_at_call 22; refine (show Hid _ from ?_).out)
        | (go_at_call 42; refine (show Hid _ from ?_).out)
        | (go_at_call 44; refine (show Hid _ from ?_).out)
        | (go_at_call 25; refine (show Hid _ from ?_).out)
        | (go_at_call 29; refine (show Hid _ from ?_).out)
        | (go_at_call 23; refine (show Hid _ from ?_).out))
      refine Lib.hid ?_
      refine (HVA.out _ (by (repeat (first | with_reducible exact HX.out | with_reducible exact Ext.refl _ | with_reducible refine Ext.drew ?_ | with_reducible refine Ext.drewN ?_ _ | with_reducible refine Ext.alloc ?_ _ | with_reducible refine Ext.onto ?_ _ | (with_reducible refine Ext.setCells ?_ ?_ _ _; rotate_left; focus (first | omega | (simp; done) | (simp; omega))) | (with_reducible refine Ext.setCell ?_ ?_ _; rotate_left; focus (first | omega | (simp; done) | (simp; omega))))))).mono ?_
      rintro e w' ⟨rfl, hxl⟩; obtain ⟨v3, rfl⟩ := hxl.asLater; clear hxl
      go_wp2
      go_ret
      exact ⟨by simp, (by (repeat (first | with_reducible exact HX.out | with_reducible exact Ext.refl _ | with_reducible refine Ext.drew ?_ | with_reducible refine Ext.drewN ?_ _ | with_reducible refine Ext.alloc ?_ _ | with_reducible refine Ext.onto ?_ _ | (with_reducible refine Ext.setCells ?_ ?_ _ _; rotate_left; focus (first | omega | (simp; done) | (simp; omega))) | (with_reducible refine Ext.setCell ?_ ?_ _; rotate_left; focus (first | omega | (simp; done) | (simp; omega))))))⟩
  | true =>
    have HPr' := Lib.hid (HPr.out rfl)
    have HRr' := Lib.hid (HRr.out rfl)
    by_cases hc4 : 600 < text.size
    · have hc5 : 10000 < text.size := by omega
      clear hc1
      go_enter Tryz.func5, Tryz.ntmps5
      go_wp2_with (first
        | (go_at_call 33; refine (show Hid _ from ?_).out)
        | (go_at_call 35; refine (show Hid _ from ?_).out)
        | (go_at_call 38; refine (show Hid _ from ?_).out)
        | (go_at_call 32; refine (show Hid _ from ?_).out)
        | (go_at_call 31; refine (show Hid _ from ?_).out)
        | (go_at_call 34; refine (show Hid _ from ?_).out)
        | (go_at_call 37; refine (show Hid _ from ?_).out)
        | (go_at_call 43; refine (show Hid _ from ?_).out)
        | (go_at_call 36; refine (show Hid _ from ?_).out)
        | (go_at_call 24; refine (show Hid _ from ?_).out)
        | (go_at_call 28; refine (show Hid _ from ?_).out)
        | (go_at_call 26; refine (show Hid _ from ?_).out)
        | (go_at_call 27; refine (show Hid _ from ?_).out)
        | (go_at_call 30; refine (show Hid _ from ?_).out)
        | (go_at_call 39; refine (show Hid _ from ?_).out)
        | (go_at_call 40; refine (show Hid _ from ?_).out)
        | (go_at_call 41; refine (show Hid _ from ?_).out)
        | (go_at_call 22; refine (show Hid _ from ?_).out)
        | (go_at_call 42; refine (show Hid _ from ?_).out)
        | (go_at_call 44; refine (show Hid _ from ?_).out)
        | (go_at_call 25; refine (show Hid _ from ?_).out)
        | (go_at_call 29; refine (show Hid _ from ?_).out)
        | (go_at_call 23; refine (show Hid _ from ?_).out))
      refine Lib.hid ?_
      refine (HP.out _ (by (repeat (first | with_reducible exact Ext.refl _ | with_reducible exact Ext.refl _ | with_reducible refine Ext.drew ?_ | with_reducible refine Ext.drewN ?_ _ | with_reducible refine Ext.alloc ?_ _ | with_reducible refine Ext.onto ?_ _ | (with_reducible refine Ext.setCells ?_ ?_ _ _; rotate_left; focus (first | omega | (simp; done) | (simp; omega))) | (with_reducible refine Ext.setCell ?_ ?_ _; rotate_left; focus (first | omega | (simp; done) | (simp; omega))))))).mono ?_
      rintro e w1 ⟨A1, c1, rfl, hs, hx⟩
      have HX := Lib.hid ((show Ext w _ from (by (repeat (first | with_reducible exact Ext.refl _ | with_reducible exact Ext.refl _ | with_reducible refine Ext.drew ?_ | with_reducible refine Ext.drewN ?_ _ | with_reducible refine Ext.alloc ?_ _ | with_reducible refine Ext.onto ?_ _ | (with_reducible refine Ext.setCells ?_ ?_ _ _; rotate_left; focus (first | omega | (simp; done) | (simp; omega))) | (with_reducible refine Ext.setCell ?_ ?_ _; rotate_left; focus (first | omega | (simp; done) | (simp; omega))))))).trans hx)
      have HS1 := Lib.hid hs
      clear hs hx
      go_wp2_with (first
        | (go_at_call 33; refine (show Hid _ from ?_).out)
        | (go_at_call 35; refine (show Hid _ from ?_).out)
        | (go_at_call 38; refine (show Hid _ from ?_).out)
        | (go_at_call 32; refine (show Hid _ from ?_).out)
        | (go_at_call 31; refine (show Hid _ from ?_).out)
        | (go_at_call 34; refine (show Hid _ from ?_).out)
        | (go_at_call 37; refine (show Hid _ from ?_).out)
        | (go_at_call 43; refine (show Hid _ from ?_).out)
        | (go_at_call 36; refine (show Hid _ from ?_).out)
        | (go_at_call 24; refine (show Hid _ from ?_).out)
        | (go_at_call 28; refine (show Hid _ from ?_).out)
        | (go_at_call 26; refine (show Hid _ from ?_).out)
        | (go_at_call 27; refine (show Hid _ from ?_).out)
        | (go_at_call 30; refine (show Hid _ from ?_).out)
        | (go_at_call 39; refine (show Hid _ from ?_).out)
        | (go_at_call 40; refine (show Hid _ from ?_).out)
        | (go_at_call 41; refine (show Hid _ from ?_).out)
        | (go_at_call 22; refine (show Hid _ from ?_).out)
        | (go_at_call 42; refine (show Hid _ from ?_).out)
        | (go_at_call 44; refine (show Hid _ from ?_).out)
        | (go_at_call 25; refine (show Hid _ from ?_).out)
        | (go_at_call 29; refine (show Hid _ from ?_).out)
        | (go_at_call 23; refine (show Hid _ from ?_).out))
      refine Lib.hid ?_
      refine (HR.out _).mono ?_
      rintro e w2 ⟨A2, c2, rfl, hs, hx⟩
      have hxk := (show Ext w1 _ from (by (repeat (first | with_reducible exact Ext.refl _ | with_reducible exact Ext.refl _ | with_reducible refine Ext.drew ?_ | with_reducible refine Ext.drewN ?_ _ | with_reducible refine Ext.alloc ?_ _ | with_reducible refine Ext.onto ?_ _ | (with_reducible refine Ext.setCells ?_ ?_ _ _; rotate_left; focus (first | omega | (simp; done) | (simp; omega))) | (with_reducible refine Ext.setCell ?_ ?_ _; rotate_left; focus (first | omega | (simp; done) | (simp; omega))))))).trans hx
      replace HX := Lib.hid (HX.out.trans hxk)
      replace HS1 := Lib.hid (HS1.out.on hxk)
      have HS2 := Lib.hid hs
      clear hs hx hxk
      go_wp2_with (first
        | (go_at_call 33; refine (show Hid _ from ?_).out)
        | (go_at_call 35; refine (show Hid _ from ?_).out)
        | (go_at_call 38; refine (show Hid _ from ?_).out)
        | (go_at_call 32; refine (show Hid _ from ?_).out)
        | (go_at_call 31; refine (show Hid _ from ?_).out)
        | (go_at_call 34; refine (show Hid _ from ?_).out)
        | (go_at_call 37; refine (show Hid _ from ?_).out)
        | (go_at_call 43; refine (show Hid _ from ?_).out)
        | (go_at_call 36; refine (show Hid _ from ?_).out)
        | (go_at_call 24; refine (show Hid _ from ?_).out)
        | (go_at_call 28; refine (show Hid _ from ?_).out)
        | (go_at_call 26; refine (show Hid _ from ?_).out)
        | (go_at_call 27; refine (show Hid _ from ?_).out)
        | (go_at_call 30; refine (show Hid _ from ?_).out)
        | (go_at_call 39; refine (show Hid _ from ?_).out)
        | (go_at_call 40; refine (show Hid _ from ?_).out)
        | (go_at_call 41; refine (show Hid _ from ?_).out)
        | (go_at_call 22; refine (show Hid _ from ?_).out)
        | (go_at_call 42; refine (show Hid _ from ?_).out)
        | (go_at_call 44; refine (show Hid _ from ?_).out)
        | (go_at_call 25; refine (show Hid _ from ?_).out)
        | (go_at_call 29; refine (show Hid _ from ?_).out)
        | (go_at_call 23; refine (show Hid _ from ?_).out))
      refine Lib.hid ?_
      refine (HSan.out _ (by (repeat (first | with_reducible exact HX.out | with_reducible exact Ext.refl _ | with_reducible refine Ext.drew ?_ | with_reducible refine Ext.drewN ?_ _ | with_reducible refine Ext.alloc ?_ _ | with_reducible refine Ext.onto ?_ _ | (with_reducible refine Ext.setCells ?_ ?_ _ _; rotate_left; focus (first | omega | (simp; done) | (simp; omega))) | (with_reducible refine Ext.setCell ?_ ?_ _; rotate_left; focus (first | omega | (simp; done) | (simp; omega))))))).mono ?_
      rintro e w' ⟨rfl, hxl⟩; obtain ⟨v1, rfl⟩ := hxl.asLater; clear hxl
      go_wp2_with (first
        | (go_at_call 33; refine (show Hid _ from ?_).out)
        | (go_at_call 35; refine (show Hid _ from ?_).out)
        | (go_at_call 38; refine (show Hid _ from ?_).out)
        | (go_at_call 32; refine (show Hid _ from ?_).out)
        | (go_at_call 31; refine (show Hid _ from ?_).out)
        | (go_at_call 34; refine (show Hid _ from ?_).out)
        | (go_at_call 37; refine (show Hid _ from ?_).out)
        | (go_at_call 43; refine (show Hid _ from ?_).out)
        | (go_at_call 36; refine (show Hid _ from ?_).out)
        | (go_at_call 24; refine (show Hid _ from ?_).out)
        | (go_at_call 28; refine (show Hid _ from ?_).out)
        | (go_at_call 26; refine (show Hid _ from ?_).out)
        | (go_at_call 27; refine (show Hid _ from ?_).out)
        | (go_at_call 30; refine (show Hid _ from ?_).out)
        | (go_at_call 39; refine (show Hid _ from ?_).out)
        | (go_at_call 40; refine (show Hid _ from ?_).out)
        | (go_at_call 41; refine (show Hid _ from ?_).out)
        | (go_at_call 22; refine (show Hid _ from ?_).out)
        | (go_at_call 42; refine (show Hid _ from ?_).out)
        | (go_at_call 44; refine (show Hid _ from ?_).out)
        | (go_at_call 25; refine (show Hid _ from ?_).out)
        | (go_at_call 29; refine (show Hid _ from ?_).out)
        | (go_at_call 23; refine (show Hid _ from ?_).out))
      refine Lib.hid ?_
      refine (rsame_is (by omega) (HS1.out.on (by (repeat (first | with_reducible exact Ext.refl _ | with_reducible exact Ext.refl _ | with_reducible refine Ext.drew ?_ | with_reducible refine Ext.drewN ?_ _ | with_reducible refine Ext.alloc ?_ _ | with_reducible refine Ext.onto ?_ _ | (with_reducible refine Ext.setCells ?_ ?_ _ _; rotate_left; focus (first | omega | (simp; done) | (simp; omega))) | (with_reducible refine Ext.setCell ?_ ?_ _; rotate_left; focus (first | omega | (simp; done) | (simp; omega))))))) (HS2.out.on (by (repeat (first | with_reducible exact Ext.refl _ | with_reducible exact Ext.refl _ | with_reducible refine Ext.drew ?_ | with_reducible refine Ext.drewN ?_ _ | with_reducible refine Ext.alloc ?_ _ | with_reducible refine Ext.onto ?_ _ | (with_reducible refine Ext.setCells ?_ ?_ _ _; rotate_left; focus (first | omega | (simp; done) | (simp; omega))) | (with_reducible refine Ext.setCell ?_ ?_ _; rotate_left; focus (first | omega | (simp; done) | (simp; omega)))))))).mono ?_
      rintro e w' ⟨rfl, hxl⟩; obtain ⟨v2, rfl⟩ := hxl.asLater; clear hxl
      go_wp2_with (first
        | (go_at_call 33; refine (show Hid _ from ?_).out)
        | (go_at_call 35; refine (show Hid _ from ?_).out)
        | (go_at_call 38; refine (show Hid _ from ?_).out)
        | (go_at_call 32; refine (show Hid _ from ?_).out)
        | (go_at_call 31; refine (show Hid _ from ?_).out)
        | (go_at_call 34; refine (show Hid _ from ?_).out)
        | (go_at_call 37; refine (show Hid _ from ?_).out)
        | (go_at_call 43; refine (show Hid _ from ?_).out)
        | (go_at_call 36; refine (show Hid _ from ?_).out)
        | (go_at_call 24; refine (show Hid _ from ?_).out)
        | (go_at_call 28; refine (show Hid _ from ?_).out)
        | (go_at_call 26; refine (show Hid _ from ?_).out)
        | (go_at_call 27; refine (show Hid _ from ?_).out)
        | (go_at_call 30; refine (show Hid _ from ?_).out)
        | (go_at_call 39; refine (show Hid _ from ?_).out)
        | (go_at_call 40; refine (show Hid _ from ?_).out)
        | (go_at_call 41; refine (show Hid _ from ?_).out)
        | (go_at_call 22; refine (show Hid _ from ?_).out)
        | (go_at_call 42; refine (show Hid _ from ?_).out)
        | (go_at_call 44; refine (show Hid _ from ?_).out)
        | (go_at_call 25; refine (show Hid _ from ?_).out)
        | (go_at_call 29; refine (show Hid _ from ?_).out)
        | (go_at_call 23; refine (show Hid _ from ?_).out))
      refine Lib.hid ?_
      refine (HVA.out _ (by (repeat (first | with_reducible exact HX.out | with_reducible exact Ext.refl _ | with_reducible refine Ext.drew ?_ | with_reducible refine Ext.drewN ?_ _ | with_reducible refine Ext.alloc ?_ _ | with_reducible refine Ext.onto ?_ _ | (with_reducible refine Ext.setCells ?_ ?_ _ _; rotate_left; focus (first | omega | (simp; done) | (simp; omega))) | (with_reducible refine Ext.setCell ?_ ?_ _; rotate_left; focus (first | omega | (simp; done) | (simp; omega))))))).mono ?_
      rintro e w' ⟨rfl, hxl⟩; obtain ⟨v3, rfl⟩ := hxl.asLater; clear hxl
      go_wp2_with (first
        | (go_at_call 33; refine (show Hid _ from ?_).out)
        | (go_at_call 35; refine (show Hid _ from ?_).out)
        | (go_at_call 38; refine (show Hid _ from ?_).out)
        | (go_at_call 32; refine (show Hid _ from ?_).out)
        | (go_at_call 31; refine (show Hid _ from ?_).out)
        | (go_at_call 34; refine (show Hid _ from ?_).out)
        | (go_at_call 37; refine (show Hid _ from ?_).out)
        | (go_at_call 43; refine (show Hid _ from ?_).out)
        | (go_at_call 36; refine (show Hid _ from ?_).out)
        | (go_at_call 24; refine (show Hid _ from ?_).out)
        | (go_at_call 28; refine (show Hid _ from ?_).out)
        | (go_at_call 26; refine (show Hid _ from ?_).out)
        | (go_at_call 27; refine (show Hid _ from ?_).out)
        | (go_at_call 30; refine (show Hid _ from ?_).out)
        | (go_at_call 39; refine (show Hid _ from ?_).out)
        | (go_at_call 40; refine (show Hid _ from ?_).out)
        | (go_at_call 41; refine (show Hid _ from ?_).out)
        | (go_at_call 22; refine (show Hid _ from ?_).out)
        | (go_at_call 42; refine (show Hid _ from ?_).out)
        | (go_at_call 44; refine (show Hid _ from ?_).out)
        | (go_at_call 25; refine (show Hid _ from ?_).out)
        | (go_at_call 29; refine (show Hid _ from ?_).out)
        | (go_at_call 23; refine (show Hid _ from ?_).out))
      refine Lib.hid ?_
      refine (HPr'.out _ (by (repeat (first | with_reducible exact HX.out | with_reducible exact Ext.refl _ | with_reducible refine Ext.drew ?_ | with_reducible refine Ext.drewN ?_ _ | with_reducible refine Ext.alloc ?_ _ | with_reducible refine Ext.onto ?_ _ | (with_reducible refine Ext.setCells ?_ ?_ _ _; rotate_left; focus (first | omega | (simp; done) | (simp; omega))) | (with_reducible refine Ext.setCell ?_ ?_ _; rotate_left; focus (first | omega | (simp; done) | (simp; omega))))))).mono ?_
      rintro e w' ⟨rfl, hxl⟩; obtain ⟨v4, rfl⟩ := hxl.asLater; clear hxl
      go_wp2_with (first
        | (go_at_call 33; refine (show Hid _ from ?_).out)
        | (go_at_call 35; refine (show Hid _ from ?_).out)
        | (go_at_call 38; refine (show Hid _ from ?_).out)
        | (go_at_call 32; refine (show Hid _ from ?_).out)
        | (go_at_call 31; refine (show Hid _ from ?_).out)
        | (go_at_call 34; refine (show Hid _ from ?_).out)
        | (go_at_call 37; refine (show Hid _ from ?_).out)
        | (go_at_call 43; refine (show Hid _ from ?_).out)
        | (go_at_call 36; refine (show Hid _ from ?_).out)
        | (go_at_call 24; refine (show Hid _ from ?_).out)
        | (go_at_call 28; refine (show Hid _ from ?_).out)
        | (go_at_call 26; refine (show Hid _ from ?_).out)
        | (go_at_call 27; refine (show Hid _ from ?_).out)
        | (go_at_call 30; refine (show Hid _ from ?_).out)
        | (go_at_call 39; refine (show Hid _ from ?_).out)
        | (go_at_call 40; refine (show Hid _ from ?_).out)
        | (go_at_call 41; refine (show Hid _ from ?_).out)
        | (go_at_call 22; refine (show Hid _ from ?_).out)
        | (go_at_call 42; refine (show Hid _ from ?_).out)
        | (go_at_call 44; refine (show Hid _ from ?_).out)
        | (go_at_call 25; refine (show Hid _ from ?_).out)
        | (go_at_call 29; refine (show Hid _ from ?_).out)
        | (go_at_call 23; refine (show Hid _ from ?_).out))
      refine Lib.hid ?_
      refine (HRr'.out _ (by (repeat (first | with_reducible exact HX.out | with_reducible exact Ext.refl _ | with_reducible refine Ext.drew ?_ | with_reducible refine Ext.drewN ?_ _ | with_reducible refine Ext.alloc ?_ _ | with_reducible refine Ext.onto ?_ _ | (with_reducible refine Ext.setCells ?_ ?_ _ _; rotate_left; focus (first | omega | (simp; done) | (simp; omega))) | (with_reducible refine Ext.setCell ?_ ?_ _; rotate_left; focus (first | omega | (simp; done) | (simp; omega))))))).mono ?_
      rintro e w' ⟨rfl, hxl⟩; obtain ⟨v5, rfl⟩ := hxl.asLater; clear hxl
      go_wp2
      go_ret
      exact ⟨by simp, (by (repeat (first | with_reducible exact HX.out | with_reducible exact Ext.refl _ | with_reducible refine Ext.drew ?_ | with_reducible refine Ext.drewN ?_ _ | with_reducible refine Ext.alloc ?_ _ | with_reducible refine Ext.onto ?_ _ | (with_reducible refine Ext.setCells ?_ ?_ _ _; rotate_left; focus (first | omega | (simp; done) | (simp; omega))) | (with_reducible refine Ext.setCell ?_ ?_ _; rotate_left; focus (first | omega | (simp; done) | (simp; omega))))))⟩
    · clear hc1
      go_enter Tryz.func5, Tryz.ntmps5
      go_wp2_with (first
        | (go_at_call 33; refine (show Hid _ from ?_).out)
        | (go_at_call 35; refine (show Hid _ from ?_).out)
        | (go_at_call 38; refine (show Hid _ from ?_).out)
        | (go_at_call 32; refine (show Hid _ from ?_).out)
        | (go_at_call 31; refine (show Hid _ from ?_).out)
        | (go_at_call 34; refine (show Hid _ from ?_).out)
        | (go_at_call 37; refine (show Hid _ from ?_).out)
        | (go_at_call 43; refine (show Hid _ from ?_).out)
        | (go_at_call 36; refine (show Hid _ from ?_).out)
        | (go_at_call 24; refine (show Hid _ from ?_).out)
        | (go_at_call 28; refine (show Hid _ from ?_).out)
        | (go_at_call 26; refine (show Hid _ from ?_).out)
        | (go_at_call 27; refine (show Hid _ from ?_).out)
        | (go_at_call 30; refine (show Hid _ from ?_).out)
        | (go_at_call 39; refine (show Hid _ from ?_).out)
        | (go_at_call 40; refine (show Hid _ from ?_).out)
        | (go_at_call 41; refine (show Hid _ from ?_).out)
        | (go_at_call 22; refine (show Hid _ from ?_).out)
        | (go_at_call 42; refine (show Hid _ from ?_).out)
        | (go_at_call 44; refine (show Hid _ from ?_).out)
        | (go_at_call 25; refine (show Hid _ from ?_).out)
        | (go_at_call 29; refine (show Hid _ from ?_).out)
        | (go_at_call 23; refine (show Hid _ from ?_).out))
      refine Lib.hid ?_
      refine (HP.out _ (by (repeat (first | with_reducible exact Ext.refl _ | with_reducible exact Ext.refl _ | with_reducible refine Ext.drew ?_ | with_reducible refine Ext.drewN ?_ _ | with_reducible refine Ext.alloc ?_ _ | with_reducible refine Ext.onto ?_ _ | (with_reducible refine Ext.setCells ?_ ?_ _ _; rotate_left; focus (first | omega | (simp; done) | (simp; omega))) | (with_reducible refine Ext.setCell ?_ ?_ _; rotate_left; focus (first | omega | (simp; done) | (simp; omega))))))).mono ?_
      rintro e w1 ⟨A1, c1, rfl, hs, hx⟩
      have HX := Lib.hid ((show Ext w _ from (by (repeat (first | with_reducible exact Ext.refl _ | with_reducible exact Ext.refl _ | with_reducible refine Ext.drew ?_ | with_reducible refine Ext.drewN ?_ _ | with_reducible refine Ext.alloc ?_ _ | with_reducible refine Ext.onto ?_ _ | (with_reducible refine Ext.setCells ?_ ?_ _ _; rotate_left; focus (first | omega | (simp; done) | (simp; omega))) | (with_reducible refine Ext.setCell ?_ ?_ _; rotate_left; focus (first | omega | (simp; done) | (simp; omega))))))).trans hx)
      have HS1 := Lib.hid hs
      clear hs hx
      go_wp2_with (first
        | (go_at_call 33; refine (show Hid _ from ?_).out)
        | (go_at_call 35; refine (show Hid _ from ?_).out)
        | (go_at_call 38; refine (show Hid _ from ?_).out)
        | (go_at_call 32; refine (show Hid _ from ?_).out)
        | (go_at_call 31; refine (show Hid _ from ?_).out)
        | (go_at_call 34; refine (show Hid _ from ?_).out)
        | (go_at_call 37; refine (show Hid _ from ?_).out)
        | (go_at_call 43; refine (show Hid _ from ?_).out)
        | (go_at_call 36; refine (show Hid _ from ?_).out)
        | (go_at_call 24; refine (show Hid _ from ?_).out)
        | (go_at_call 28; refine (show Hid _ from ?_).out)
        | (go_at_call 26; refine (show Hid _ from ?_).out)
        | (go_at_call 27; refine (show Hid _ from ?_).out)
        | (go_at_call 30; refine (show Hid _ from ?_).out)
        | (go_at_call 39; refine (show Hid _ from ?_).out)
        | (go_at_call 40; refine (show Hid _ from ?_).out)
        | (go_at_call 41; refine (show Hid _ from ?_).out)
        | (go_at_call 22; refine (show Hid _ from ?_).out)
        | (go_at_call 42; refine (show Hid _ from ?_).out)
        | (go_at_call 44; refine (show Hid _ from ?_).out)
        | (go_at_call 25; refine (show Hid _ from ?_).out)
        | (go_at_call 29; refine (show Hid _ from ?_).out)
        | (go_at_call 23; refine (show Hid _ from ?_).out))
      refine Lib.hid ?_
      refine (HR.out _).mono ?_
      rintro e w2 ⟨A2, c2, rfl, hs, hx⟩
      have hxk := (show Ext w1 _ from (by (repeat (first | with_reducible exact Ext.refl _ | with_reducible exact Ext.refl _ | with_reducible refine Ext.drew ?_ | with_reducible refine Ext.drewN ?_ _ | with_reducible refine Ext.alloc ?_ _ | with_reducible refine Ext.onto ?_ _ | (with_reducible refine Ext.setCells ?_ ?_ _ _; rotate_left; focus (first | omega | (simp; done) | (simp; omega))) | (with_reducible refine Ext.setCell ?_ ?_ _; rotate_left; focus (first | omega | (simp; done) | (simp; omega))))))).trans hx
      replace HX := Lib.hid (HX.out.trans hxk)
      replace HS1 := Lib.hid (HS1.out.on hxk)
      have HS2 := Lib.hid hs
      clear hs hx hxk
      go_wp2_with (first
        | (go_at_call 33; refine (show Hid _ from ?_).out)
        | (go_at_call 35; refine (show Hid _ from ?_).out)
        | (go_at_call 38; refine (show Hid _ from ?_).out)
        | (go_at_call 32; refine (show Hid _ from ?_).out)
        | (go_at_call 31; refine (show Hid _ from ?_).out)
        | (go_at_call 34; refine (show Hid _ from ?_).out)
        | (go_at_call 37; refine (show Hid _ from ?_).out)
        | (go_at_call 43; refine (show Hid _ from ?_).out)
        | (go_at_call 36; refine (show Hid _ from ?_).out)
        | (go_at_call 24; refine (show Hid _ from ?_).out)
        | (go_at_call 28; refine (show Hid _ from ?_).out)
        | (go_at_call 26; refine (show Hid _ from ?_).out)
        | (go_at_call 27; refine (show Hid _ from ?_).out)
        | (go_at_call 30; refine (show Hid _ from ?_).out)
        | (go_at_call 39; refine (show Hid _ from ?_).out)
        | (go_at_call 40; refine (show Hid _ from ?_).out)
        | (go_at_call 41; refine (show Hid _ from ?_).out)
        | (go_at_call 22; refine (show Hid _ from ?_).out)
        | (go_at_call 42; refine (show Hid _ from ?_).out)
        | (go_at_call 44; refine (show Hid _ from ?_).out)
        | (go_at_call 25; refine (show Hid _ from ?_).out)
        | (go_at_call 29; refine (show Hid _ from ?_).out)
        | (go_at_call 23; refine (show Hid _ from ?_).out))
      refine Lib.hid ?_
      refine (HSan.out _ (by (repeat (first | with_reducible exact HX.out | with_reducible exact Ext.refl _ | with_reducible refine Ext.drew ?_ | with_reducible refine Ext.drewN ?_ _ | with_reducible refine Ext.alloc ?_ _ | with_reducible refine Ext.onto ?_ _ | (with_reducible refine Ext.setCells ?_ ?_ _ _; rotate_left; focus (first | omega | (simp; done) | (simp; omega))) | (with_reducible refine Ext.setCell ?_ ?_ _; rotate_left; focus (first | omega | (simp; done) | (simp; omega))))))).mono ?_
      rintro e w' ⟨rfl, hxl⟩; obtain ⟨v1, rfl⟩ := hxl.asLater; clear hxl
      go_wp2_with (first
        | (go_at_call 33; refine (show Hid _ from ?_).out)
        | (go_at_call 35; refine (show Hid _ from ?_).out)
        | (go_at_call 38; refine (show Hid _ from ?_).out)
        | (go_at_call 32; refine (show Hid _ from ?_).out)
        | (go_at_call 31; refine (show Hid _ from ?_).out)
        | (go_at_call 34; refine (show Hid _ from ?_).out)
        | (go_at_call 37; refine (show Hid _ from ?_).out)
        | (go_at_call 43; refine (show Hid _ from ?_).out)
        | (go_at_call 36; refine (show Hid _ from ?_).out)
        | (go_at_call 24; refine (show Hid _ from ?_).out)
        | (go_at_call 28; refine (show Hid _ from ?_).out)
        | (go_at_call 26; refine (show Hid _ from ?_).out)
        | (go_at_call 27; refine (show Hid _ from ?_).out)
        | (go_at_call 30; refine (show Hid _ from ?_).out)
        | (go_at_call 39; refine (show Hid _ from ?_).out)
        | (go_at_call 40; refine (show Hid _ from ?_).out)
        | (go_at_call 41; refine (show Hid _ from ?_).out)
        | (go_at_call 22; refine (show Hid _ from ?_).out)
        | (go_at_call 42; refine (show Hid _ from ?_).out)
        | (go_at_call 44; refine (show Hid _ from ?_).out)
        | (go_at_call 25; refine (show Hid _ from ?_).out)
        | (go_at_call 29; refine (show Hid _ from ?_).out)
        | (go_at_call 23; refine (show Hid _ from ?_).out))
      refine Lib.hid ?_
      refine (rsame_is (by omega) (HS1.out.on (by (repeat (first | with_reducible exact Ext.refl _ | with_reducible exact Ext.refl _ | with_reducible refine Ext.drew ?_ | with_reducible refine Ext.drewN ?_ _ | with_reducible refine Ext.alloc ?_ _ | with_reducible refine Ext.onto ?_ _ | (with_reducible refine Ext.setCells ?_ ?_ _ _; rotate_left; focus (first | omega | (simp; done) | (simp; omega))) | (with_reducible refine Ext.setCell ?_ ?_ _; rotate_left; focus (first | omega | (simp; done) | (simp; omega))))))) (HS2.out.on (by (repeat (first | with_reducible exact Ext.refl _ | with_reducible exact Ext.refl _ | with_reducible refine Ext.drew ?_ | with_reducible refine Ext.drewN ?_ _ | with_reducible refine Ext.alloc ?_ _ | with_reducible refine Ext.onto ?_ _ | (with_reducible refine Ext.setCells ?_ ?_ _ _; rotate_left; focus (first | omega | (simp; done) | (simp; omega))) | (with_reducible refine Ext.setCell ?_ ?_ _; rotate_left; focus (first | omega | (simp; done) | (simp; omega)))))))).mono ?_
      rintro e w' ⟨rfl, hxl⟩; obtain ⟨v2, rfl⟩ := hxl.asLater; clear hxl
      go_wp2_with (first
        | (go_at_call 33; refine (show Hid _ from ?_).out)
        | (go_at_call 35; refine (show Hid _ from ?_).out)
        | (go_at_call 38; refine (show Hid _ from ?_).out)
        | (go_at_call 32; refine (show Hid _ from ?_).out)
        | (go_at_call 31; refine (show Hid _ from ?_).out)
        | (go_at_call 34; refine (show Hid _ from ?_).out)
        | (go_at_call 37; refine (show Hid _ from ?_).out)
        | (go_at_call 43; refine (show Hid _ from ?_).out)
        | (go_at_call 36; refine (show Hid _ from ?_).out)
        | (go_at_call 24; refine (show Hid _ from ?_).out)
        | (go_at_call 28; refine (show Hid _ from ?_).out)
        | (go_at_call 26; refine (show Hid _ from ?_).out)
        | (go_at_call 27; refine (show Hid _ from ?_).out)
        | (go_at_call 30; refine (show Hid _ from ?_).out)
        | (go_at_call 39; refine (show Hid _ from ?_).out)
        | (go_at_call 40; refine (show Hid _ from ?_).out)
        | (go_at_call 41; refine (show Hid _ from ?_).out)
        | (go_at_call 22; refine (show Hid _ from ?_).out)
        | (go_at_call 42; refine (show Hid _ from ?_).out)
        | (go_at_call 44; refine (show Hid _ from ?_).out)
        | (go_at_call 25; refine (show Hid _ from ?_).out)
        | (go_at_call 29; refine (show Hid _ from ?_).out)
        | (go_at_call 23; refine (show Hid _ from ?_).out))
      refine Lib.hid ?_
      refine (HVA.out _ (by (repeat (first | with_reducible exact HX.out | with_reducible exact Ext.refl _ | with_reducible refine Ext.drew ?_ | with_reducible refine Ext.drewN ?_ _ | with_reducible refine Ext.alloc ?_ _ | with_reducible refine Ext.onto ?_ _ | (with_reducible refine Ext.setCells ?_ ?_ _ _; rotate_left; focus (first | omega | (simp; done) | (simp; omega))) | (with_reducible refine Ext.setCell ?_ ?_ _; rotate_left; focus (first | omega | (simp; done) | (simp; omega))))))).mono ?_
      rintro e w' ⟨rfl, hxl⟩; obtain ⟨v3, rfl⟩ := hxl.asLater; clear hxl
      go_wp2_with (first
        | (go_at_call 33; refine (show Hid _ from ?_).out)
        | (go_at_call 35; refine (show Hid _ from ?_).out)
        | (go_at_call 38; refine (show Hid _ from ?_).out)
        | (go_at_call 32; refine (show Hid _ from ?_).out)
        | (go_at_call 31; refine (show Hid _ from ?_).out)
        | (go_at_call 34; refine (show Hid _ from ?_).out)
        | (go_at_call 37; refine (show Hid _ from ?_).out)
        | (go_at_call 43; refine (show Hid _ from ?_).out)
        | (go_at_call 36; refine (show Hid _ from ?_).out)
        | (go_at_call 24; refine (show Hid _ from ?_).out)
        | (go_at_call 28; refine (show Hid _ from ?_).out)
        | (go_at_call 26; refine (show Hid _ from ?_).out)
        | (go_at_call 27; refine (show Hid _ from ?_).out)
        | (go_at_call 30; refine (show Hid _ from ?_).out)
        | (go_at_call 39; refine (show Hid _ from ?_).out)
        | (go_at_call 40; refine (show Hid _ from ?_).out)
        | (go_at_call 41; refine (show Hid _ from ?_).out)
        | (go_at_call 22; refine (show Hid _ from ?_).out)
        | (go_at_call 42; refine (show Hid _ from ?_).out)
        | (go_at_call 44; refine (show Hid _ from ?_).out)
        | (go_at_call 25; refine (show Hid _ from ?_).out)
        | (go_at_call 29; refine (show Hid _ from ?_).out)
        | (go_at_call 23; refine (show Hid _ from ?_).out))
      refine Lib.hid ?_
      refine (HPr'.out _ (by (repeat (first | with_reducible exact HX.out | with_reducible exact Ext.refl _ | with_reducible refine Ext.drew ?_ | with_reducible refine Ext.drewN ?_ _ | with_reducible refine Ext.alloc ?_ _ | with_reducible refine Ext.onto ?_ _ | (with_reducible refine Ext.setCells ?_ ?_ _ _; rotate_left; focus (first | omega | (simp; done) | (simp; omega))) | (with_reducible refine Ext.setCell ?_ ?_ _; rotate_left; focus (first | omega | (simp; done) | (simp; omega))))))).mono ?_
      rintro e w' ⟨rfl, hxl⟩; obtain ⟨v4, rfl⟩ := hxl.asLater; clear hxl
      go_wp2_with (first
        | (go_at_call 33; refine (show Hid _ from ?_).out)
        | (go_at_call 35; refine (show Hid _ from ?_).out)
        | (go_at_call 38; refine (show Hid _ from ?_).out)
        | (go_at_call 32; refine (show Hid _ from ?_).out)
        | (go_at_call 31; refine (show Hid _ from ?_).out)
        | (go_at_call 34; refine (show Hid _ from ?_).out)
        | (go_at_call 37; refine (show Hid _ from ?_).out)
        | (go_at_call 43; refine (show Hid _ from ?_).out)
        | (go_at_call 36; refine (show Hid _ from ?_).out)
        | (go_at_call 24; refine (show Hid _ from ?_).out)
        | (go_at_call 28; refine (show Hid _ from ?_).out)
        | (go_at_call 26; refine (show Hid _ from ?_).out)
        | (go_at_call 27; refine (show Hid _ from ?_).out)
        | (go_at_call 30; refine (show Hid _ from ?_).out)
        | (go_at_call 39; refine (show Hid _ from ?_).out)
        | (go_at_call 40; refine (show Hid _ from ?_).out)
        | (go_at_call 41; refine (show Hid _ from ?_).out)
        | (go_at_call 22; refine (show Hid _ from ?_).out)
        | (go_at_call 42; refine (show Hid _ from ?_).out)
        | (go_at_call 44; refine (show Hid _ from ?_).out)
        | (go_at_call 25; refine (show Hid _ from ?_).out)
        | (go_at_call 29; refine (show Hid _ from ?_).out)
        | (go_at_call 23; refine (show Hid _ from ?_).out))
      refine Lib.hid ?_
      refine (HRr'.out _ (by (repeat (first | with_reducible exact HX.out | with_reducible exact Ext.refl _ | with_reducible refine Ext.drew ?_ | with_reducible refine Ext.drewN ?_ _ | with_reducible refine Ext.alloc ?_ _ | with_reducible refine Ext.onto ?_ _ | (with_reducible refine Ext.setCells ?_ ?_ _ _; rotate_left; focus (first | omega | (simp; done) | (simp; omega))) | (with_reducible refine Ext.setCell ?_ ?_ _; rotate_left; focus (first | omega | (simp; done) | (simp; omega))))))).mono ?_
      rintro e w' ⟨rfl, hxl⟩; obtain ⟨v5, rfl⟩ := hxl.asLater; clear hxl
      go_wp2
      go_ret
      exact ⟨by simp, (by (repeat (first | with_reducible exact HX.out | with_reducible exact Ext.refl _ | with_reducible refine Ext.drew ?_ | with_reducible refine Ext.drewN ?_ _ | with_reducible refine Ext.alloc ?_ _ | with_reducible refine Ext.onto ?_ _ | (with_reducible refine Ext.setCells ?_ ?_ _ _; rotate_left; focus (first | omega | (simp; done) | (simp; omega))) | (with_reducible refine Ext.setCell ?_ ?_ _; rotate_left; focus (first | omega | (simp; done) | (simp; omega))))))⟩
end Go.Proofs.YthhblgjbgjceiaaGreatDoor
