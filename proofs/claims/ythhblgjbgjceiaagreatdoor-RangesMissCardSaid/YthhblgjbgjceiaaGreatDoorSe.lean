/- Walk of law 07: RangesMiss. -/
import Derived.Test.YthhblgjbgjceiaaGreatDoorProg
import Derived.Test.YthhblgjbgjceiaaGreatDoorExt
import Derived.WalkKit
import Derived.WalkSpells
import Derived.WalkLawsBesides
import Derived.Deep.QuietTactic
import Derived.BigQuiet
import Derived.Test.YthhblgjbgjceiaaGreatDoorSd
set_option linter.unusedVariables false
set_option linter.unusedSimpArgs false
namespace Go.Proofs.YthhblgjbgjceiaaGreatDoor
open Go.RowKit Go.Shelf
open Go.Proofs
open Go.Proofs.Sp (Sp)

theorem one_spec (s : Sp) : SetOf (fun x => s.1 ≤ x ∧ x < s.2) (Rp.unionN [s]) := by
  obtain ⟨h1, h2⟩ := Sp.rAdd_spec Sp.IsSet.nil s
  exact ⟨h1, fun x => (h2 x).trans ⟨fun k => k.elim (fun k => (Sp.mem_nil x k).elim) id, .inr⟩⟩
theorem one_inM {s : Sp} (h : OkSp s) : SetIn (Rp.unionN [s]) 1099511627776 :=
  SetIn.of_mem (one_spec s).1 (fun x hx => by
    have := (one_spec s).2 x |>.1 hx
    have := h (by omega)
    omega)
theorem union_spec (l : List Sp) : SetOf (Sp.mem l) (Rp.unionN l) := by
  obtain ⟨h1, h2⟩ := Rp.foldl_spec l [] Sp.IsSet.nil
  exact ⟨h1, fun x => (h2 x).trans ⟨fun k => k.elim (fun k => (Sp.mem_nil x k).elim) id, .inr⟩⟩
theorem gone_there {l : List Sp} {s : Sp} (hl : Sp.IsSet l) : Rp.unionN (rMissing l s ++ rMeet l (Rp.unionN [s])) = Rp.unionN [s] := by
  have h1 := union_spec (rMissing l s ++ rMeet l (Rp.unionN [s]))
  have h2 := one_spec s
  have h3 := rMissing_spec l s
  have h4 := rMeet_spec (b := Rp.unionN [s]) hl
  refine Sp.IsSet.ext h1.1 h2.1 (fun x => ?_)
  have k2 : Sp.mem (Rp.unionN [s]) x ↔ s.1 ≤ x ∧ x < s.2 := h2.2 x
  have k3 : Sp.mem (rMissing l s) x ↔ (s.1 ≤ x ∧ x < s.2) ∧ ¬ Sp.mem l x := h3.2 x
  have k4 : Sp.mem (rMeet l (Rp.unionN [s])) x ↔ Sp.mem l x ∧ Sp.mem (Rp.unionN [s]) x := h4.2 x
  rw [h1.2, Sp.mem_append, k3, k4, k2]
  constructor
  · rintro (⟨k, _⟩ | ⟨_, k⟩)
    · exact k
    · exact k
  · intro k
    by_cases hm : Sp.mem l x
    · exact .inr ⟨hm, k⟩
    · exact .inl ⟨k, hm⟩
theorem gone_apart {l : List Sp} {s : Sp} (hl : Sp.IsSet l) : rMeet (rMissing l s) (rMeet l (Rp.unionN [s])) = [] := by
  have h3 := rMissing_spec l s
  have h4 := rMeet_spec (b := Rp.unionN [s]) hl
  have h5 := rMeet_spec (b := rMeet l (Rp.unionN [s])) h3.1
  refine Sp.IsSet.ext h5.1 Sp.IsSet.nil (fun x => (h5.2 x).trans ⟨fun k => ?_, fun k => (Sp.mem_nil x k).elim⟩)
  exact absurd ((h4.2 x).1 k.2).1 ((h3.2 x).1 k.1).2
theorem then_covers {l : List Sp} {s : Sp} (hl : Sp.IsSet l) : rCoversB (addsN l (rMissing l s)) s = true := by
  have h := rCovers_spec (addsN l (rMissing l s)) s
  have h3 := rMissing_spec l s
  have h1 := adds_spec (rMissing l s) l hl
  refine h.2 (fun x k1 k2 => (h1.2 x).2 ?_)
  by_cases hm : Sp.mem l x
  · exact .inl hm
  · exact .inr ((h3.2 x).2 ⟨⟨k1, k2⟩, hm⟩)
theorem slin_one (W : World) (s : Sp) : SlIn (some ⟨W.heap.size, 0, none⟩) 1 [s] (W.alloc (.cells #[.int .i64 s.1, .int .i64 s.2] 52)) := slin_own (own_lit1 W W.heap.size W.heap.size s (Nat.le_refl _) rfl)
set_option maxRecDepth 100000 in
set_option maxHeartbeats 1000000 in
theorem miss_ok (A : Option Addr) (c : Nat) (a : List Sp) (s : Sp) (w : World) (hL : Lib7 w) (h1 : SlIn A c a w) :
    Calls Tryz.prog 6 #[.slice A a.length c, .agg #[.int .i64 s.1, .int .i64 s.2]] w fun e w' => e = .returned (.bool true) ∧ Ext w w' := by
  have HSan := san7 hL
  have H1 := Lib.hid h1
  have HVB : Hid True := Lib.hid trivial
  clear hL h1
  by_cases hl1 : 40 < a.length
  · have HVA : Hid True := Lib.hid trivial
    have HG : Hid True := Lib.hid trivial
    go_enter Tryz.func6, Tryz.ntmps6
    go_wp2_with (first
      | (go_at_call 27; first | (with_reducible refine (HVA.out _ (by (repeat (first | with_reducible exact Ext.refl _ | with_reducible exact Ext.refl _ | with_reducible refine Ext.drew ?_ | with_reducible refine Ext.drewN ?_ _ | with_reducible refine Ext.alloc ?_ _ | with_reducible refine Ext.onto ?_ _ | (with_reducible refine Ext.setCells ?_ ?_ _ _; rotate_left; focus (first | omega | (simp; done) | (simp; omega))) | (with_reducible refine Ext.setCell ?_ ?_ _; rotate_left; focus (first | omega | (simp; done) | (simp; omega))))))).mono ?_; rintro e w' ⟨rfl, hxl⟩; obtain ⟨xl, rfl⟩ := hxl.asLater; clear hxl) | (with_reducible refine (HVB.out _ (by (repeat (first | with_reducible exact Ext.refl _ | with_reducible exact Ext.refl _ | with_reducible refine Ext.drew ?_ | with_reducible refine Ext.drewN ?_ _ | with_reducible refine Ext.alloc ?_ _ | with_reducible refine Ext.onto ?_ _ | (with_reducible refine Ext.setCells ?_ ?_ _ _; rotate_left; focus (first | omega | (simp; done) | (simp; omega))) | (with_reducible refine Ext.setCell ?_ ?_ _; rotate_left; focus (first | omega | (simp; done) | (simp; omega))))))).mono ?_; rintro e w' ⟨rfl, hxl⟩; obtain ⟨xl, rfl⟩ := hxl.asLater; clear hxl))
      | (go_at_call 30; refine (HG.out _).mono ?_; rintro e w' ⟨rfl, hxl⟩; obtain ⟨xl, rfl⟩ := hxl.asLater; clear hxl)
      | (go_at_call 23; refine (HSan.out _ (by (repeat (first | with_reducible exact Ext.refl _ | with_reducible exact Ext.refl _ | with_reducible refine Ext.drew ?_ | with_reducible refine Ext.drewN ?_ _ | with_reducible refine Ext.alloc ?_ _ | with_reducible refine Ext.onto ?_ _ | (with_reducible refine Ext.setCells ?_ ?_ _ _; rotate_left; focus (first | omega | (simp; done) | (simp; omega))) | (with_reducible refine Ext.setCell ?_ ?_ _; rotate_left; focus (first | omega | (simp; done) | (simp; omega))))))).mono ?_; rintro e w' ⟨rfl, hxl⟩; obtain ⟨xl, rfl⟩ := hxl.asLater; clear hxl))
    go_ret
    exact ⟨rfl, (by (repeat (first | with_reducible exact Ext.refl _ | with_reducible exact Ext.refl _ | with_reducible refine Ext.drew ?_ | with_reducible refine Ext.drewN ?_ _ | with_reducible refine Ext.alloc ?_ _ | with_reducible refine Ext.onto ?_ _ | (with_reducible refine Ext.setCells ?_ ?_ _ _; rotate_left; focus (first | omega | (simp; done) | (simp; omega))) | (with_reducible refine Ext.setCell ?_ ?_ _; rotate_left; focus (first | omega | (simp; done) | (simp; omega))))))⟩
  obtain ⟨va, hva⟩ : ∃ v, setB a = v := ⟨_, rfl⟩
  obtain ⟨g, hg⟩ : ∃ v, goodB s = v := ⟨_, rfl⟩
  have HVA := Lib.hid (fun W (hx : Ext w W) => rvalid_is va hva (by omega) (H1.out.on hx))
  have HG := Lib.hid (fun W => rgood_is s g W hg)
  cases va with
  | false =>
    clear hva hg
    go_enter Tryz.func6, Tryz.ntmps6
    go_wp2_with (first
      | (go_at_call 27; first | (with_reducible refine (HVA.out _ (by (repeat (first | with_reducible exact Ext.refl _ | with_reducible exact Ext.refl _ | with_reducible refine Ext.drew ?_ | with_reducible refine Ext.drewN ?_ _ | with_reducible refine Ext.alloc ?_ _ | with_reducible refine Ext.onto ?_ _ | (with_reducible refine Ext.setCells ?_ ?_ _ _; rotate_left; focus (first | omega | (simp; done) | (simp; omega))) | (with_reducible refine Ext.setCell ?_ ?_ _; rotate_left; focus (first | omega | (simp; done) | (simp; omega))))))).mono ?_; rintro e w' ⟨rfl, hxl⟩; obtain ⟨xl, rfl⟩ := hxl.asLater; clear hxl) | (with_reducible refine (HVB.out _ (by (repeat (first | with_reducible exact Ext.refl _ | with_reducible exact Ext.refl _ | with_reducible refine Ext.drew ?_ | with_reducible refine Ext.drewN ?_ _ | with_reducible refine Ext.alloc ?_ _ | with_reducible refine Ext.onto ?_ _ | (with_reducible refine Ext.setCells ?_ ?_ _ _; rotate_left; focus (first | omega | (simp; done) | (simp; omega))) | (with_reducible refine Ext.setCell ?_ ?_ _; rotate_left; focus (first | omega | (simp; done) | (simp; omega))))))).mono ?_; rintro e w' ⟨rfl, hxl⟩; obtain ⟨xl, rfl⟩ := hxl.asLater; clear hxl))
      | (go_at_call 30; refine (HG.out _).mono ?_; rintro e w' ⟨rfl, hxl⟩; obtain ⟨xl, rfl⟩ := hxl.asLater; clear hxl)
      | (go_at_call 23; refine (HSan.out _ (by (repeat (first | with_reducible exact Ext.refl _ | with_reducible exact Ext.refl _ | with_reducible refine Ext.drew ?_ | with_reducible refine Ext.drewN ?_ _ | with_reducible refine Ext.alloc ?_ _ | with_reducible refine Ext.onto ?_ _ | (with_reducible refine Ext.setCells ?_ ?_ _ _; rotate_left; focus (first | omega | (simp; done) | (simp; omega))) | (with_reducible refine Ext.setCell ?_ ?_ _; rotate_left; focus (first | omega | (simp; done) | (simp; omega))))))).mono ?_; rintro e w' ⟨rfl, hxl⟩; obtain ⟨xl, rfl⟩ := hxl.asLater; clear hxl))
    go_ret
    exact ⟨rfl, (by (repeat (first | with_reducible exact Ext.refl _ | with_reducible exact Ext.refl _ | with_reducible refine Ext.drew ?_ | with_reducible refine Ext.drewN ?_ _ | with_reducible refine Ext.alloc ?_ _ | with_reducible refine Ext.onto ?_ _ | (with_reducible refine Ext.setCells ?_ ?_ _ _; rotate_left; focus (first | omega | (simp; done) | (simp; omega))) | (with_reducible refine Ext.setCell ?_ ?_ _; rotate_left; focus (first | omega | (simp; done) | (simp; omega))))))⟩
  | true =>
    cases g with
    | false =>
      clear hva hg
      go_enter Tryz.func6, Tryz.ntmps6
      go_wp2_with (first
        | (go_at_call 27; first | (with_reducible refine (HVA.out _ (by (repeat (first | with_reducible exact Ext.refl _ | with_reducible exact Ext.refl _ | with_reducible refine Ext.drew ?_ | with_reducible refine Ext.drewN ?_ _ | with_reducible refine Ext.alloc ?_ _ | with_reducible refine Ext.onto ?_ _ | (with_reducible refine Ext.setCells ?_ ?_ _ _; rotate_left; focus (first | omega | (simp; done) | (simp; omega))) | (with_reducible refine Ext.setCell ?_ ?_ _; rotate_left; focus (first | omega | (simp; done) | (simp; omega))))))).mono ?_; rintro e w' ⟨rfl, hxl⟩; obtain ⟨xl, rfl⟩ := hxl.asLater; clear hxl) | (with_reducible refine (HVB.out _ (by (repeat (first | with_reducible exact Ext.refl _ | with_reducible exact Ext.refl _ | with_reducible refine Ext.drew ?_ | with_reducible refine Ext.drewN ?_ _ | with_reducible refine Ext.alloc ?_ _ | with_reducible refine Ext.onto ?_ _ | (with_reducible refine Ext.setCells ?_ ?_ _ _; rotate_left; focus (first | omega | (simp; done) | (simp; omega))) | (with_reducible refine Ext.setCell ?_ ?_ _; rotate_left; focus (first | omega | (simp; done) | (simp; omega))))))).mono ?_; rintro e w' ⟨rfl, hxl⟩; obtain ⟨xl, rfl⟩ := hxl.asLater; clear hxl))
        | (go_at_call 30; refine (HG.out _).mono ?_; rintro e w' ⟨rfl, hxl⟩; obtain ⟨xl, rfl⟩ := hxl.asLater; clear hxl)
        | (go_at_call 23; refine (HSan.out _ (by (repeat (first | with_reducible exact Ext.refl _ | with_reducible exact Ext.refl _ | with_reducible refine Ext.drew ?_ | with_reducible refine Ext.drewN ?_ _ | with_reducible refine Ext.alloc ?_ _ | with_reducible refine Ext.onto ?_ _ | (with_reducible refine Ext.setCells ?_ ?_ _ _; rotate_left; focus (first | omega | (simp; done) | (simp; omega))) | (with_reducible refine Ext.setCell ?_ ?_ _; rotate_left; focus (first | omega | (simp; done) | (simp; omega))))))).mono ?_; rintro e w' ⟨rfl, hxl⟩; obtain ⟨xl, rfl⟩ := hxl.asLater; clear hxl))
      go_ret
      exact ⟨rfl, (by (repeat (first | with_reducible exact Ext.refl _ | with_reducible exact Ext.refl _ | with_reducible refine Ext.drew ?_ | with_reducible refine Ext.drewN ?_ _ | with_reducible refine Ext.alloc ?_ _ | with_reducible refine Ext.onto ?_ _ | (with_reducible refine Ext.setCells ?_ ?_ _ _; rotate_left; focus (first | omega | (simp; done) | (simp; omega))) | (with_reducible refine Ext.setCell ?_ ?_ _; rotate_left; focus (first | omega | (simp; done) | (simp; omega))))))⟩
    | true =>
      have HA := Lib.hid (setB_set hva)
      have HOk := Lib.hid (good_ok hg)
      obtain ⟨O, hO⟩ : ∃ m, Rp.unionN [s] = m := ⟨_, rfl⟩
      obtain ⟨g, hgg⟩ : ∃ m, rMissing a s = m := ⟨_, rfl⟩
      obtain ⟨t, ht⟩ : ∃ m, rMeet a O = m := ⟨_, rfl⟩
      have HM1 : Hid (SetIn g 1099511627776) := Lib.hid (by rw [← hgg]; exact rMissing_in HOk.out)
      have HM2 : Hid (SetIn t 1099511627776) := Lib.hid (by rw [← ht]; exact rMeet_in HA.out)
      have HMO : Hid (SetIn O 1099511627776) := Lib.hid (by rw [← hO]; exact one_inM HOk.out)
      have HAll : Hid (Rp.unionN (g ++ t) = O) := Lib.hid (by rw [← ht, ← hgg, ← hO]; exact gone_there HA.out.1)
      have HNo : Hid (rMeet g t = []) := Lib.hid (by rw [← ht, ← hgg, ← hO]; exact gone_apart HA.out.1)
      have HCov : Hid (rCoversB (addsN a g) s = true) := Lib.hid (by rw [← hgg]; exact then_covers HA.out.1)
      have HCv : Hid (rCoversB a s = ((g.length : Int) == 0)) := Lib.hid (by rw [← hgg, rCoversB, Bool.eq_iff_iff]; simp)
      have HC1 := Lib.hid (fun (W : World) (p1 : SlIn A c a W) => pmissing_is HA.out HOk.out p1)
      have HC2 := Lib.hid (fun (W : World) (A' : Option Addr) (c' : Nat) (p1 : SlIn A' c' [s] W) => pof_is s.1 (fun t ht => by simp at ht; subst ht; omega) (by simp) p1)
      have HC3 := Lib.hid (fun (W : World) (B : Option Addr) (d : Nat) (p1 : SlIn A c a W) (p2 : SlIn B d O W) => pmeet_is HA.out HMO.out p1 p2)
      rw [hgg] at HC1
      rw [hO] at HC2
      rw [ht] at HC3
      have hq1 := len40 HM1.out
      have hq2 := len40 HM2.out
      have hq3 := len40 HMO.out
      clear hva hg hO hgg ht
      go_enter Tryz.func6, Tryz.ntmps6
      go_wp2_with (first
        | (go_at_call 33; refine (show Hid _ from ?_).out)
        | (go_at_call 35; refine (show Hid _ from ?_).out)
        | (go_at_call 38; refine (show Hid _ from ?_).out)
        | (go_at_call 32; refine (show Hid _ from ?_).out)
        | (go_at_call 31; refine (show Hid _ from ?_).out)
        | (go_at_call 34; refine (show Hid _ from ?_).out)
        | (go_at_call 37; refine (show Hid _ from ?_).out)
        | (go_at_call 43; refine (show Hid _ from ?_).out)
        | (go_at_call 36; refine (show Hid _ from ?_).out)
        | (go_at_call 24; refine (show Hid _ from ?_).out)
        | (go_at_call 28; refine (show Hid _ from ?_).out)
        | (go_at_call 26; refine (show Hid _ from ?_).out)
        | (go_at_call 27; refine (show Hid _ from ?_).out)
        | (go_at_call 30; refine (show Hid _ from ?_).out)
        | (go_at_call 39; refine (show Hid _ from ?_).out)
        | (go_at_call 40; refine (show Hid _ from ?_).out)
        | (go_at_call 41; refine (show Hid _ from ?_).out)
        | (go_at_call 22; refine (show Hid _ from ?_).out)
        | (go_at_call 42; refine (show Hid _ from ?_).out)
        | (go_at_call 44; refine (show Hid _ from ?_).out)
        | (go_at_call 25; refine (show Hid _ from ?_).out)
        | (go_at_call 29; refine (show Hid _ from ?_).out)
        | (go_at_call 23; refine (show Hid _ from ?_).out))
      refine Lib.hid ?_
      refine (HVA.out _ (by (repeat (first | with_reducible exact Ext.refl _ | with_reducible exact Ext.refl _ | with_reducible refine Ext.drew ?_ | with_reducible refine Ext.drewN ?_ _ | with_reducible refine Ext.alloc ?_ _ | with_reducible refine Ext.onto ?_ _ | (with_reducible refine Ext.setCells ?_ ?_ _ _; rotate_left; focus (first | omega | (simp; done) | (simp; omega))) | (with_reducible refine Ext.setCell ?_ ?_ _; rotate_left; focus (first | omega | (simp; done) | (simp; omega))))))).mono ?_
      rintro e w' ⟨rfl, hxl⟩; obtain ⟨xa, rfl⟩ := hxl.asLater; clear hxl
      go_wp2_with (first
        | (go_at_call 33; refine (show Hid _ from ?_).out)
        | (go_at_call 35; refine (show Hid _ from ?_).out)
        | (go_at_call 38; refine (show Hid _ from ?_).out)
        | (go_at_call 32; refine (show Hid _ from ?_).out)
        | (go_at_call 31; refine (show Hid _ from ?_).out)
        | (go_at_call 34; refine (show Hid _ from ?_).out)
        | (go_at_call 37; refine (show Hid _ from ?_).out)
        | (go_at_call 43; refine (show Hid _ from ?_).out)
        | (go_at_call 36; refine (show Hid _ from ?_).out)
        | (go_at_call 24; refine (show Hid _ from ?_).out)
        | (go_at_call 28; refine (show Hid _ from ?_).out)
        | (go_at_call 26; refine (show Hid _ from ?_).out)
        | (go_at_call 27; refine (show Hid _ from ?_).out)
        | (go_at_call 30; refine (show Hid _ from ?_).out)
        | (go_at_call 39; refine (show Hid _ from ?_).out)
        | (go_at_call 40; refine (show Hid _ from ?_).out)
        | (go_at_call 41; refine (show Hid _ from ?_).out)
        | (go_at_call 22; refine (show Hid _ from ?_).out)
        | (go_at_call 42; refine (show Hid _ from ?_).out)
        | (go_at_call 44; refine (show Hid _ from ?_).out)
        | (go_at_call 25; refine (show Hid _ from ?_).out)
        | (go_at_call 29; refine (show Hid _ from ?_).out)
        | (go_at_call 23; refine (show Hid _ from ?_).out))
      refine Lib.hid ?_
      refine (HG.out _).mono ?_
      rintro e w' ⟨rfl, hxl⟩; obtain ⟨xc, rfl⟩ := hxl.asLater; clear hxl
      go_wp2
      refine wp_world (fun W => Ext w W ∧ W.cell? ⟨w.heap.size, 0, none⟩ = some (.int .i64 s.1) ∧ W.cell? ⟨w.heap.size, 1, none⟩ = some (.int .i64 s.2) ∧ w.heap.size < W.heap.size) ⟨(by (repeat (first | with_reducible exact Ext.refl _ | with_reducible exact Ext.refl _ | with_reducible refine Ext.drew ?_ | with_reducible refine Ext.drewN ?_ _ | with_reducible refine Ext.alloc ?_ _ | with_reducible refine Ext.onto ?_ _ | (with_reducible refine Ext.setCells ?_ ?_ _ _; rotate_left; focus (first | omega | (simp; done) | (simp; omega))) | (with_reducible refine Ext.setCell ?_ ?_ _; rotate_left; focus (first | omega | (simp; done) | (simp; omega)))))), by rw [later_cell_if, if_pos (by simp), alloc_cell_if, if_pos rfl]; rfl, by rw [later_cell_if, if_pos (by simp), alloc_cell_if, if_pos rfl]; rfl, by simp [later_size]; omega⟩ ?_
      rintro W0 ⟨hx0, z0, z1, hlt0⟩
      replace H1 := Lib.hid (H1.out.on hx0)
      have HX := Lib.hid hx0
      clear hx0 HVA HG HVB
      refine wp_region_soft 8 (softs [.eq (.slice A a.length c), .eq (.agg #[.int .i64 s.1, .int .i64 s.2]), slSoft g, .eq (.slice A a.length c), .eq (.agg #[.int .i64 s.1, .int .i64 s.2]), slSoft [s], slSoft O, slSoft t]) (by kernel_rfl) (by kernel_rfl) (lt_cons ?_ (lt_cons ?_ (lt_cons ?_ (lt_cons ?_ (lt_cons ?_ (lt_cons ?_ (lt_cons ?_ (lt_cons ?_ lt_none)))))))) ?_
      ·
        intro o ho xs W hW hd Q' hQ; obtain rfl := Option.some.inj ho; clear ho; simp only [fillAt, dstOf, List.getElem?_cons_zero, List.getElem?_cons_succ, Option.bind_some, Act.put, List.setIfInBounds_toArray, List.set_cons_zero, List.set_cons_succ, Nat.zero_add, Nat.reduceAdd] at hQ ⊢; have HQ := Lib.hid hQ; have HD := Lib.hid hd; have HW := Lib.hid hW; have hsW := hW.size; clear hQ hd hW
        go_wp2
        exact HQ.out _ _ (Ext.refl _) rfl
      ·
        intro o ho xs W hW hd Q' hQ; obtain rfl := Option.some.inj ho; clear ho; simp only [fillAt, dstOf, List.getElem?_cons_zero, List.getElem?_cons_succ, Option.bind_some, Act.put, List.setIfInBounds_toArray, List.set_cons_zero, List.set_cons_succ, Nat.zero_add, Nat.reduceAdd] at hQ ⊢; have HQ := Lib.hid hQ; have HD := Lib.hid hd; have HW := Lib.hid hW; have hsW := hW.size; clear hQ hd hW
        have hc0 : W.cell? ⟨w.heap.size, 0, none⟩ = some (.int .i64 s.1) := (HW.out.cell (p := ⟨w.heap.size, 0, none⟩) hlt0).trans z0
        have hc1 : W.cell? ⟨w.heap.size, 1, none⟩ = some (.int .i64 s.2) := (HW.out.cell (p := ⟨w.heap.size, 1, none⟩) hlt0).trans z1
        go_wp2
        exact HQ.out _ _ (Ext.refl _) rfl
      ·
        intro o ho xs W hW hd Q' hQ; obtain rfl := Option.some.inj ho; clear ho; simp only [fillAt, dstOf, List.getElem?_cons_zero, List.getElem?_cons_succ, Option.bind_some, Act.put, List.setIfInBounds_toArray, List.set_cons_zero, List.set_cons_succ, Nat.zero_add, Nat.reduceAdd] at hQ ⊢; have HQ := Lib.hid hQ; have HD := Lib.hid hd; have HW := Lib.hid hW; have hsW := hW.size; clear hQ hd hW
        have hd0 : xs 0 = .slice A a.length c := (HD.out 0 (of_decide_eq_true (by kernel_rfl)))
        generalize xs 0 = x0 at hd0 HQ ⊢; subst hd0
        have hd1 : xs 1 = .agg #[.int .i64 s.1, .int .i64 s.2] := (HD.out 1 (of_decide_eq_true (by kernel_rfl)))
        generalize xs 1 = x1 at hd1 HQ ⊢; subst hd1
        go_wp2_with (go_at_call 31; refine (HC1.out _ (H1.out.on HW.out)).mono ?_; rintro e1 w1 ⟨A1, c1, rfl, hs, hx⟩)
        exact HQ.out _ _ hx ⟨A1, c1, rfl, hs⟩
      ·
        intro o ho xs W hW hd Q' hQ; obtain rfl := Option.some.inj ho; clear ho; simp only [fillAt, dstOf, List.getElem?_cons_zero, List.getElem?_cons_succ, Option.bind_some, Act.put, List.setIfInBounds_toArray, List.set_cons_zero, List.set_cons_succ, Nat.zero_add, Nat.reduceAdd] at hQ ⊢; have HQ := Lib.hid hQ; have HD := Lib.hid hd; have HW := Lib.hid hW; have hsW := hW.size; clear hQ hd hW
        go_wp2
        exact HQ.out _ _ (Ext.refl _) rfl
      ·
        intro o ho xs W hW hd Q' hQ; obtain rfl := Option.some.inj ho; clear ho; simp only [fillAt, dstOf, List.getElem?_cons_zero, List.getElem?_cons_succ, Option.bind_some, Act.put, List.setIfInBounds_toArray, List.set_cons_zero, List.set_cons_succ, Nat.zero_add, Nat.reduceAdd] at hQ ⊢; have HQ := Lib.hid hQ; have HD := Lib.hid hd; have HW := Lib.hid hW; have hsW := hW.size; clear hQ hd hW
        have hc0 : W.cell? ⟨w.heap.size, 0, none⟩ = some (.int .i64 s.1) := (HW.out.cell (p := ⟨w.heap.size, 0, none⟩) hlt0).trans z0
        have hc1 : W.cell? ⟨w.heap.size, 1, none⟩ = some (.int .i64 s.2) := (HW.out.cell (p := ⟨w.heap.size, 1, none⟩) hlt0).trans z1
        go_wp2
        exact HQ.out _ _ (Ext.refl _) rfl
      ·
        intro o ho xs W hW hd Q' hQ; obtain rfl := Option.some.inj ho; clear ho; simp only [fillAt, dstOf, List.getElem?_cons_zero, List.getElem?_cons_succ, Option.bind_some, Act.put, List.setIfInBounds_toArray, List.set_cons_zero, List.set_cons_succ, Nat.zero_add, Nat.reduceAdd] at hQ ⊢; have HQ := Lib.hid hQ; have HD := Lib.hid hd; have HW := Lib.hid hW; have hsW := hW.size; clear hQ hd hW
        have hd4 : xs 4 = .agg #[.int .i64 s.1, .int .i64 s.2] := (HD.out 4 (of_decide_eq_true (by kernel_rfl)))
        generalize xs 4 = x4 at hd4 HQ ⊢; subst hd4
        go_wp2
        exact HQ.out _ _ ((Ext.refl _).alloc _) ⟨some ⟨W.heap.size, 0, none⟩, 1, rfl, slin_one W s⟩
      ·
        intro o ho xs W hW hd Q' hQ; obtain rfl := Option.some.inj ho; clear ho; simp only [fillAt, dstOf, List.getElem?_cons_zero, List.getElem?_cons_succ, Option.bind_some, Act.put, List.setIfInBounds_toArray, List.set_cons_zero, List.set_cons_succ, Nat.zero_add, Nat.reduceAdd] at hQ ⊢; have HQ := Lib.hid hQ; have HD := Lib.hid hd; have HW := Lib.hid hW; have hsW := hW.size; clear hQ hd hW
        obtain ⟨A5, c5, hd5, hs5⟩ : (slSoft [s]).S (xs 5) W := (HD.out 5 (of_decide_eq_true (by kernel_rfl)))
        have HS5 := Lib.hid hs5
        clear hs5
        generalize xs 5 = x5 at hd5 HQ ⊢; subst hd5
        go_wp2_with (go_at_call 33; refine (HC2.out _ _ _ HS5.out).mono ?_; rintro e1 w1 ⟨A1, c1, rfl, hs, hx⟩)
        exact HQ.out _ _ hx ⟨A1, c1, rfl, hs⟩
      ·
        intro o ho xs W hW hd Q' hQ; obtain rfl := Option.some.inj ho; clear ho; simp only [fillAt, dstOf, List.getElem?_cons_zero, List.getElem?_cons_succ, Option.bind_some, Act.put, List.setIfInBounds_toArray, List.set_cons_zero, List.set_cons_succ, Nat.zero_add, Nat.reduceAdd] at hQ ⊢; have HQ := Lib.hid hQ; have HD := Lib.hid hd; have HW := Lib.hid hW; have hsW := hW.size; clear hQ hd hW
        have hd3 : xs 3 = .slice A a.length c := (HD.out 3 (of_decide_eq_true (by kernel_rfl)))
        generalize xs 3 = x3 at hd3 HQ ⊢; subst hd3
        obtain ⟨A5, c5, hd6, hs5⟩ : (slSoft O).S (xs 6) W := (HD.out 6 (of_decide_eq_true (by kernel_rfl)))
        have HS5 := Lib.hid hs5
        clear hs5
        generalize xs 6 = x6 at hd6 HQ ⊢; subst hd6
        go_wp2_with (go_at_call 32; refine (HC3.out _ _ _ (H1.out.on HW.out) HS5.out).mono ?_; rintro e1 w1 ⟨A1, c1, rfl, hs, hx⟩)
        exact HQ.out _ _ hx ⟨A1, c1, rfl, hs⟩
      ·
        intro xs W1 hW hS
        obtain ⟨P1, e1, h21, HN1⟩ : (slSoft g).S (xs 2) W1 := hS 2 (by omega)
        obtain ⟨P2, e2, h22, HN2⟩ : (slSoft t).S (xs 7) W1 := hS 7 (by omega)
        replace HN1 := Lib.hid HN1
        replace HN2 := Lib.hid HN2
        simp only [fillAt, dstOf, List.getElem?_cons_zero, List.getElem?_cons_succ, Option.bind_some, Act.put, List.setIfInBounds_toArray, List.set_cons_zero, List.set_cons_succ, Nat.zero_add, Nat.reduceAdd, List.drop_succ_cons, List.drop_zero]
        generalize xs 2 = y2 at *; subst h21
        generalize xs 7 = y7 at *; subst h22
        have hxk := hW
        replace HX := Lib.hid (HX.out.trans hxk)
        replace H1 := Lib.hid (H1.out.on hxk)
        replace z0 := (hxk.cell (p := ⟨w.heap.size, 0, none⟩) hlt0).trans z0
        replace z1 := (hxk.cell (p := ⟨w.heap.size, 1, none⟩) hlt0).trans z1
        replace hlt0 := Nat.lt_of_lt_of_le hlt0 hxk.size
        clear hS hW hxk HC1 HC3
        go_wp2_with (first
          | (at_builtin; refine app_reads spT spE rfl _ _ rfl W1.heap.size _ _ [] rfl (own_lit0 _ _ _ (by first | omega | (simp [later_size, setCells_size]; done) | (simp [later_size, setCells_size]; omega)) (by first | omega | (simp [later_size, setCells_size]; done) | (simp [later_size, setCells_size]; omega))) W1.heap.size P1 e1 g rfl (HN1.out.hr.ext (by (repeat (first | with_reducible exact Ext.refl _ | with_reducible exact Ext.refl _ | with_reducible refine Ext.drew ?_ | with_reducible refine Ext.drewN ?_ _ | with_reducible refine Ext.alloc ?_ _ | with_reducible refine Ext.onto ?_ _ | (with_reducible refine Ext.setCells ?_ ?_ _ _; rotate_left; focus (first | omega | (simp; done) | (simp; omega))) | (with_reducible refine Ext.setCell ?_ ?_ _; rotate_left; focus (first | omega | (simp; done) | (simp; omega)))))) (Nat.le_refl _)) HN1.out.z (by simp; omega) (by simp; omega) (by first | omega | (simp [later_size, setCells_size]; done) | (simp [later_size, setCells_size]; omega)) ?_; intro A3 c3 l3 w3 HL3 HO3 hB hl1 hl2 _; have HX3 : Hid (Ext W1 w3) := Lib.hid ((show Ext W1 _ from (by (repeat (first | with_reducible exact Ext.refl _ | with_reducible exact Ext.refl _ | with_reducible refine Ext.drew ?_ | with_reducible refine Ext.drewN ?_ _ | with_reducible refine Ext.alloc ?_ _ | with_reducible refine Ext.onto ?_ _ | (with_reducible refine Ext.setCells ?_ ?_ _ _; rotate_left; focus (first | omega | (simp; done) | (simp; omega))) | (with_reducible refine Ext.setCell ?_ ?_ _; rotate_left; focus (first | omega | (simp; done) | (simp; omega))))))).grown hB (Nat.le_refl _)); rw [List.nil_append] at HL3; obtain rfl := HL3.out.symm; have hsz3 := HX3.out.size; have HO3' := Lib.hid HO3; clear HO3 hB hl1 hl2)
          | (at_builtin; refine app_reads spT spE rfl _ _ rfl W1.heap.size _ _ g rfl HO3'.out w3.heap.size P2 e2 t rfl (HN2.out.on HX3.out).hr HN2.out.z (by omega) (by omega) (by first | omega | (simp [later_size, setCells_size]; done) | (simp [later_size, setCells_size]; omega)) ?_; intro A4 c4 l4 w4 HL4 HO4 hB hl1 hl2 _; have hxk : Ext W1 w4 := HX3.out.grown hB (Nat.le_refl _); have HS4 := Lib.hid (slin_own HO4); clear HO4 hB hl1 hl2; replace HX := Lib.hid (HX.out.trans hxk); replace H1 := Lib.hid (H1.out.on hxk); replace HN1 := Lib.hid (HN1.out.on hxk); replace HN2 := Lib.hid (HN2.out.on hxk); replace z0 := (hxk.cell (p := ⟨w.heap.size, 0, none⟩) hlt0).trans z0; replace z1 := (hxk.cell (p := ⟨w.heap.size, 1, none⟩) hlt0).trans z1; replace hlt0 := Nat.lt_of_lt_of_le hlt0 hxk.size; clear hxk HX3 HO3')
          | (go_at_call 33; refine (show Hid _ from ?_).out))
        refine Lib.hid ?_
        have HC4 := Lib.hid (fun (W : World) (p1 : SlIn A4 c4 l4 W) => pof_is (-4611686018427387904) (bdSp.w (fun t1 ht1 => by
          rw [HL4.out] at ht1
          rcases List.mem_append.1 ht1 with k | k
          · have i1 := HM1.out.2 _ k
            have i2 := HM1.out.1.2 _ k
            omega
          · have i1 := HM2.out.2 _ k
            have i2 := HM2.out.1.2 _ k
            omega)) (by rw [HL4.out, List.length_append]; omega) p1)
        rw [show Rp.unionN l4 = O by rw [HL4.out]; exact HAll.out] at HC4
        refine (HC4.out _ (HS4.out.on (by (repeat (first | with_reducible exact Ext.refl _ | with_reducible exact Ext.refl _ | with_reducible refine Ext.drew ?_ | with_reducible refine Ext.drewN ?_ _ | with_reducible refine Ext.alloc ?_ _ | with_reducible refine Ext.onto ?_ _ | (with_reducible refine Ext.setCells ?_ ?_ _ _; rotate_left; focus (first | omega | (simp; done) | (simp; omega))) | (with_reducible refine Ext.setCell ?_ ?_ _; rotate_left; focus (first | omega | (simp; done) | (simp; omega)))))))).mono ?_
        rintro e w5 ⟨A5, c5, rfl, hs, hx⟩
        have hxk := (show Ext w4 _ from (by (repeat (first | with_reducible exact Ext.refl _ | with_reducible exact Ext.refl _ | with_reducible refine Ext.drew ?_ | with_reducible refine Ext.drewN ?_ _ | with_reducible refine Ext.alloc ?_ _ | with_reducible refine Ext.onto ?_ _ | (with_reducible refine Ext.setCells ?_ ?_ _ _; rotate_left; focus (first | omega | (simp; done) | (simp; omega))) | (with_reducible refine Ext.setCell ?_ ?_ _; rotate_left; focus (first | omega | (simp; done) | (simp; omega))))))).trans hx
        have HS5 := Lib.hid hs
        replace HX := Lib.hid (HX.out.trans hxk); replace H1 := Lib.hid (H1.out.on hxk); replace HN1 := Lib.hid (HN1.out.on hxk); replace HN2 := Lib.hid (HN2.out.on hxk); replace z0 := (hxk.cell (p := ⟨w.heap.size, 0, none⟩) hlt0).trans z0; replace z1 := (hxk.cell (p := ⟨w.heap.size, 1, none⟩) hlt0).trans z1; replace hlt0 := Nat.lt_of_lt_of_le hlt0 hxk.size
        clear hs hx hxk HC4 HS4
        have HC5 := Lib.hid (fun (W : World) (p1 : SlIn P1 e1 g W) (p2 : SlIn P2 e2 t W) => pmeet_is HM1.out HM2.out p1 p2)
        rw [HNo.out] at HC5
        go_wp2_with (first
          | (go_at_call 33; refine (show Hid _ from ?_).out)
          | (go_at_call 35; refine (show Hid _ from ?_).out)
          | (go_at_call 38; refine (show Hid _ from ?_).out)
          | (go_at_call 32; refine (show Hid _ from ?_).out)
          | (go_at_call 31; refine (show Hid _ from ?_).out)
          | (go_at_call 34; refine (show Hid _ from ?_).out)
          | (go_at_call 37; refine (show Hid _ from ?_).out)
          | (go_at_call 43; refine (show Hid _ from ?_).out)
          | (go_at_call 36; refine (show Hid _ from ?_).out)
          | (go_at_call 24; refine (show Hid _ from ?_).out)
          | (go_at_call 28; refine (show Hid _ from ?_).out)
          | (go_at_call 26; refine (show Hid _ from ?_).out)
          | (go_at_call 27; refine (show Hid _ from ?_).out)
          | (go_at_call 30; refine (show Hid _ from ?_).out)
          | (go_at_call 39; refine (show Hid _ from ?_).out)
          | (go_at_call 40; refine (show Hid _ from ?_).out)
          | (go_at_call 41; refine (show Hid _ from ?_).out)
          | (go_at_call 22; refine (show Hid _ from ?_).out)
          | (go_at_call 42; refine (show Hid _ from ?_).out)
          | (go_at_call 44; refine (show Hid _ from ?_).out)
          | (go_at_call 25; refine (show Hid _ from ?_).out)
          | (go_at_call 29; refine (show Hid _ from ?_).out)
          | (go_at_call 23; refine (show Hid _ from ?_).out))
        refine Lib.hid ?_
        refine (HC5.out _ (HN1.out.on (by (repeat (first | with_reducible exact Ext.refl _ | with_reducible exact Ext.refl _ | with_reducible refine Ext.drew ?_ | with_reducible refine Ext.drewN ?_ _ | with_reducible refine Ext.alloc ?_ _ | with_reducible refine Ext.onto ?_ _ | (with_reducible refine Ext.setCells ?_ ?_ _ _; rotate_left; focus (first | omega | (simp; done) | (simp; omega))) | (with_reducible refine Ext.setCell ?_ ?_ _; rotate_left; focus (first | omega | (simp; done) | (simp; omega))))))) (HN2.out.on (by (repeat (first | with_reducible exact Ext.refl _ | with_reducible exact Ext.refl _ | with_reducible refine Ext.drew ?_ | with_reducible refine Ext.drewN ?_ _ | with_reducible refine Ext.alloc ?_ _ | with_reducible refine Ext.onto ?_ _ | (with_reducible refine Ext.setCells ?_ ?_ _ _; rotate_left; focus (first | omega | (simp; done) | (simp; omega))) | (with_reducible refine Ext.setCell ?_ ?_ _; rotate_left; focus (first | omega | (simp; done) | (simp; omega)))))))).mono ?_
        rintro e w6 ⟨A6, c6, rfl, hs, hx⟩
        have hxk := (show Ext w5 _ from (by (repeat (first | with_reducible exact Ext.refl _ | with_reducible exact Ext.refl _ | with_reducible refine Ext.drew ?_ | with_reducible refine Ext.drewN ?_ _ | with_reducible refine Ext.alloc ?_ _ | with_reducible refine Ext.onto ?_ _ | (with_reducible refine Ext.setCells ?_ ?_ _ _; rotate_left; focus (first | omega | (simp; done) | (simp; omega))) | (with_reducible refine Ext.setCell ?_ ?_ _; rotate_left; focus (first | omega | (simp; done) | (simp; omega))))))).trans hx
        have HS6 := Lib.hid hs
        replace HX := Lib.hid (HX.out.trans hxk); replace H1 := Lib.hid (H1.out.on hxk); replace HN1 := Lib.hid (HN1.out.on hxk); replace HN2 := Lib.hid (HN2.out.on hxk); replace z0 := (hxk.cell (p := ⟨w.heap.size, 0, none⟩) hlt0).trans z0; replace z1 := (hxk.cell (p := ⟨w.heap.size, 1, none⟩) hlt0).trans z1; replace hlt0 := Nat.lt_of_lt_of_le hlt0 hxk.size; replace HS5 := Lib.hid (HS5.out.on hxk)
        clear hs hx hxk
        go_wp2_with (go_at_call 33; refine (show Hid _ from ?_).out)
        refine Lib.hid ?_
        have K := Lib.hid (fun (W : World) (p1 : SlIn A c a W) => pcovers_is HA.out HOk.out p1)
        rw [HCv.out] at K
        refine (HC2.out _ _ _ (slin_one w6 s)).mono ?_
        rintro e w7 ⟨A7, c7, rfl, hs, hx⟩
        have hxk := (show Ext w6 _ from (by (repeat (first | with_reducible exact Ext.refl _ | with_reducible exact Ext.refl _ | with_reducible refine Ext.drew ?_ | with_reducible refine Ext.drewN ?_ _ | with_reducible refine Ext.alloc ?_ _ | with_reducible refine Ext.onto ?_ _ | (with_reducible refine Ext.setCells ?_ ?_ _ _; rotate_left; focus (first | omega | (simp; done) | (simp; omega))) | (with_reducible refine Ext.setCell ?_ ?_ _; rotate_left; focus (first | omega | (simp; done) | (simp; omega))))))).trans hx
        have HS7 := Lib.hid hs
        replace HX := Lib.hid (HX.out.trans hxk); replace H1 := Lib.hid (H1.out.on hxk); replace HN1 := Lib.hid (HN1.out.on hxk); replace HN2 := Lib.hid (HN2.out.on hxk); replace z0 := (hxk.cell (p := ⟨w.heap.size, 0, none⟩) hlt0).trans z0; replace z1 := (hxk.cell (p := ⟨w.heap.size, 1, none⟩) hlt0).trans z1; replace hlt0 := Nat.lt_of_lt_of_le hlt0 hxk.size
        replace HS5 := Lib.hid (HS5.out.on hxk)
        clear hs hx hxk HS6 HC2 HC5
        go_wp2_with (first
          | (go_at_call 33; refine (show Hid _ from ?_).out)
          | (go_at_call 35; refine (show Hid _ from ?_).out)
          | (go_at_call 38; refine (show Hid _ from ?_).out)
          | (go_at_call 32; refine (show Hid _ from ?_).out)
          | (go_at_call 31; refine (show Hid _ from ?_).out)
          | (go_at_call 34; refine (show Hid _ from ?_).out)
          | (go_at_call 37; refine (show Hid _ from ?_).out)
          | (go_at_call 43; refine (show Hid _ from ?_).out)
          | (go_at_call 36; refine (show Hid _ from ?_).out)
          | (go_at_call 24; refine (show Hid _ from ?_).out)
          | (go_at_call 28; refine (show Hid _ from ?_).out)
          | (go_at_call 26; refine (show Hid _ from ?_).out)
          | (go_at_call 27; refine (show Hid _ from ?_).out)
          | (go_at_call 30; refine (show Hid _ from ?_).out)
          | (go_at_call 39; refine (show Hid _ from ?_).out)
          | (go_at_call 40; refine (show Hid _ from ?_).out)
          | (go_at_call 41; refine (show Hid _ from ?_).out)
          | (go_at_call 22; refine (show Hid _ from ?_).out)
          | (go_at_call 42; refine (show Hid _ from ?_).out)
          | (go_at_call 44; refine (show Hid _ from ?_).out)
          | (go_at_call 25; refine (show Hid _ from ?_).out)
          | (go_at_call 29; refine (show Hid _ from ?_).out)
          | (go_at_call 23; refine (show Hid _ from ?_).out))
        refine Lib.hid ?_
        refine (rsame_is (by omega) (HS5.out.on (by (repeat (first | with_reducible exact Ext.refl _ | with_reducible exact Ext.refl _ | with_reducible refine Ext.drew ?_ | with_reducible refine Ext.drewN ?_ _ | with_reducible refine Ext.alloc ?_ _ | with_reducible refine Ext.onto ?_ _ | (with_reducible refine Ext.setCells ?_ ?_ _ _; rotate_left; focus (first | omega | (simp; done) | (simp; omega))) | (with_reducible refine Ext.setCell ?_ ?_ _; rotate_left; focus (first | omega | (simp; done) | (simp; omega))))))) (HS7.out.on (by (repeat (first | with_reducible exact Ext.refl _ | with_reducible exact Ext.refl _ | with_reducible refine Ext.drew ?_ | with_reducible refine Ext.drewN ?_ _ | with_reducible refine Ext.alloc ?_ _ | with_reducible refine Ext.onto ?_ _ | (with_reducible refine Ext.setCells ?_ ?_ _ _; rotate_left; focus (first | omega | (simp; done) | (simp; omega))) | (with_reducible refine Ext.setCell ?_ ?_ _; rotate_left; focus (first | omega | (simp; done) | (simp; omega)))))))).mono ?_
        rintro e w' ⟨rfl, hxl⟩; obtain ⟨v1, rfl⟩ := hxl.asLater; clear hxl
        go_wp2_with (first
          | (go_at_call 33; refine (show Hid _ from ?_).out)
          | (go_at_call 35; refine (show Hid _ from ?_).out)
          | (go_at_call 38; refine (show Hid _ from ?_).out)
          | (go_at_call 32; refine (show Hid _ from ?_).out)
          | (go_at_call 31; refine (show Hid _ from ?_).out)
          | (go_at_call 34; refine (show Hid _ from ?_).out)
          | (go_at_call 37; refine (show Hid _ from ?_).out)
          | (go_at_call 43; refine (show Hid _ from ?_).out)
          | (go_at_call 36; refine (show Hid _ from ?_).out)
          | (go_at_call 24; refine (show Hid _ from ?_).out)
          | (go_at_call 28; refine (show Hid _ from ?_).out)
          | (go_at_call 26; refine (show Hid _ from ?_).out)
          | (go_at_call 27; refine (show Hid _ from ?_).out)
          | (go_at_call 30; refine (show Hid _ from ?_).out)
          | (go_at_call 39; refine (show Hid _ from ?_).out)
          | (go_at_call 40; refine (show Hid _ from ?_).out)
          | (go_at_call 41; refine (show Hid _ from ?_).out)
          | (go_at_call 22; refine (show Hid _ from ?_).out)
          | (go_at_call 42; refine (show Hid _ from ?_).out)
          | (go_at_call 44; refine (show Hid _ from ?_).out)
          | (go_at_call 25; refine (show Hid _ from ?_).out)
          | (go_at_call 29; refine (show Hid _ from ?_).out)
          | (go_at_call 23; refine (show Hid _ from ?_).out))
        refine Lib.hid ?_
        refine (K.out _ (H1.out.on (by (repeat (first | with_reducible exact Ext.refl _ | with_reducible exact Ext.refl _ | with_reducible refine Ext.drew ?_ | with_reducible refine Ext.drewN ?_ _ | with_reducible refine Ext.alloc ?_ _ | with_reducible refine Ext.onto ?_ _ | (with_reducible refine Ext.setCells ?_ ?_ _ _; rotate_left; focus (first | omega | (simp; done) | (simp; omega))) | (with_reducible refine Ext.setCell ?_ ?_ _; rotate_left; focus (first | omega | (simp; done) | (simp; omega)))))))).mono ?_
        rintro e w' ⟨rfl, hxl⟩; obtain ⟨v2, rfl⟩ := hxl.asLater; clear hxl
        clear HS5 HS7 K HL4 HL3 hsz3
        go_wp2
        go_loopw [62, 0] (CntRel w7 a g) (fun i _ _ => g.length - (intOf i).toNat)
        case atStart => exact ⟨0, A, c, a, Nat.zero_le _, rfl, rfl, Lib.hid rfl, Lib.hid (H1.out.on (by (repeat (first | with_reducible exact Ext.refl _ | with_reducible exact Ext.refl _ | with_reducible refine Ext.drew ?_ | with_reducible refine Ext.drewN ?_ _ | with_reducible refine Ext.alloc ?_ _ | with_reducible refine Ext.onto ?_ _ | (with_reducible refine Ext.setCells ?_ ?_ _ _; rotate_left; focus (first | omega | (simp; done) | (simp; omega))) | (with_reducible refine Ext.setCell ?_ ?_ _; rotate_left; focus (first | omega | (simp; done) | (simp; omega))))))), Lib.hid (by (repeat (first | with_reducible exact Ext.refl _ | with_reducible exact Ext.refl _ | with_reducible refine Ext.drew ?_ | with_reducible refine Ext.drewN ?_ _ | with_reducible refine Ext.alloc ?_ _ | with_reducible refine Ext.onto ?_ _ | (with_reducible refine Ext.setCells ?_ ?_ _ _; rotate_left; focus (first | omega | (simp; done) | (simp; omega))) | (with_reducible refine Ext.setCell ?_ ?_ _; rotate_left; focus (first | omega | (simp; done) | (simp; omega))))))⟩
        case round =>
          obtain ⟨k, A', c', out, hk, rfl, rfl, HO, HS, hxk⟩ := hrel
          replace HN1 := Lib.hid (HN1.out.on hxk.out)
          have HOI : Hid (SetIn out 1099511627776) := Lib.hid (by rw [HO.out]; exact adds_take HA.out HM1.out k)
          by_cases hlt : k < g.length
          · obtain ⟨bb, off, rfl, hbb, y1, y2⟩ := ReadsSp.cell HN1.out.hr k hlt
            have HJ := Lib.hid (adds_snoc a g k hlt)
            rw [← HO.out] at HJ
            have hin := List.getElem_mem hlt
            have i1 := HM1.out.1.2 _ hin
            have i2 := HM1.out.2 _ hin
            generalize g[k] = t at *
            obtain ⟨t1, t2⟩ := t
            simp only [] at y1 y2 i1 i2
            have HAd := Lib.hid (fun W (p : SlIn A' c' out W) => padd_is (s := (t1, t2)) HOI.out (fun _ => by simp only []; omega) (by simp only []; omega) p)
            rw [← HJ.out] at HAd
            clear hin
            go_wp2_with (go_at_call 35; refine (HAd.out _ (HS.out.on (by (repeat (first | with_reducible exact Ext.refl _ | with_reducible exact Ext.refl _ | with_reducible refine Ext.drew ?_ | with_reducible refine Ext.drewN ?_ _ | with_reducible refine Ext.alloc ?_ _ | with_reducible refine Ext.onto ?_ _ | (with_reducible refine Ext.setCells ?_ ?_ _ _; rotate_left; focus (first | omega | (simp; done) | (simp; omega))) | (with_reducible refine Ext.setCell ?_ ?_ _; rotate_left; focus (first | omega | (simp; done) | (simp; omega)))))))).mono ?_; rintro e w5 ⟨A5, c5, rfl, hs5, hx5⟩; have HX5 := Lib.hid ((show Ext wr _ from (by (repeat (first | with_reducible exact Ext.refl _ | with_reducible exact Ext.refl _ | with_reducible refine Ext.drew ?_ | with_reducible refine Ext.drewN ?_ _ | with_reducible refine Ext.alloc ?_ _ | with_reducible refine Ext.onto ?_ _ | (with_reducible refine Ext.setCells ?_ ?_ _ _; rotate_left; focus (first | omega | (simp; done) | (simp; omega))) | (with_reducible refine Ext.setCell ?_ ?_ _; rotate_left; focus (first | omega | (simp; done) | (simp; omega))))))).trans hx5); have HS5 := Lib.hid hs5; clear hs5 hx5)
            go_roundw
            case rel => exact ⟨k + 1, A5, c5, _, by omega, by go_num, rfl, Lib.hid rfl, HS5, Lib.hid (hxk.out.trans HX5.out)⟩
            case measure => simp [intOf]; omega
          · have e : k = g.length := by omega
            subst e
            rw [List.take_length] at HO
            obtain ⟨X, hX⟩ : ∃ X, addsN a g = X := ⟨_, rfl⟩
            have hc := HCov.out
            rw [hX] at hc
            rw [hX] at HO
            obtain rfl := HO.out
            have K2 := Lib.hid (fun (W : World) (p1 : SlIn A' c' out W) => pcovers_is HOI.out HOk.out p1)
            rw [hc] at K2
            replace HX := Lib.hid (HX.out.trans hxk.out)
            replace z0 := (hxk.out.cell (p := ⟨w.heap.size, 0, none⟩) hlt0).trans z0
            replace z1 := (hxk.out.cell (p := ⟨w.heap.size, 1, none⟩) hlt0).trans z1
            replace hlt0 := Nat.lt_of_lt_of_le hlt0 hxk.out.size
            clear hc hX HCov HO hk hlt hxk
            go_wp2_with (first
              | (go_at_call 33; refine (show Hid _ from ?_).out)
              | (go_at_call 35; refine (show Hid _ from ?_).out)
              | (go_at_call 38; refine (show Hid _ from ?_).out)
              | (go_at_call 32; refine (show Hid _ from ?_).out)
              | (go_at_call 31; refine (show Hid _ from ?_).out)
              | (go_at_call 34; refine (show Hid _ from ?_).out)
              | (go_at_call 37; refine (show Hid _ from ?_).out)
              | (go_at_call 43; refine (show Hid _ from ?_).out)
              | (go_at_call 36; refine (show Hid _ from ?_).out)
              | (go_at_call 24; refine (show Hid _ from ?_).out)
              | (go_at_call 28; refine (show Hid _ from ?_).out)
              | (go_at_call 26; refine (show Hid _ from ?_).out)
              | (go_at_call 27; refine (show Hid _ from ?_).out)
              | (go_at_call 30; refine (show Hid _ from ?_).out)
              | (go_at_call 39; refine (show Hid _ from ?_).out)
              | (go_at_call 40; refine (show Hid _ from ?_).out)
              | (go_at_call 41; refine (show Hid _ from ?_).out)
              | (go_at_call 22; refine (show Hid _ from ?_).out)
              | (go_at_call 42; refine (show Hid _ from ?_).out)
              | (go_at_call 44; refine (show Hid _ from ?_).out)
              | (go_at_call 25; refine (show Hid _ from ?_).out)
              | (go_at_call 29; refine (show Hid _ from ?_).out)
              | (go_at_call 23; refine (show Hid _ from ?_).out))
            refine Lib.hid ?_
            refine (HSan.out _ (by (repeat (first | with_reducible exact HX.out | with_reducible exact Ext.refl _ | with_reducible refine Ext.drew ?_ | with_reducible refine Ext.drewN ?_ _ | with_reducible refine Ext.alloc ?_ _ | with_reducible refine Ext.onto ?_ _ | (with_reducible refine Ext.setCells ?_ ?_ _ _; rotate_left; focus (first | omega | (simp; done) | (simp; omega))) | (with_reducible refine Ext.setCell ?_ ?_ _; rotate_left; focus (first | omega | (simp; done) | (simp; omega))))))).mono ?_
            rintro e w' ⟨rfl, hxl⟩; obtain ⟨v3, rfl⟩ := hxl.asLater; clear hxl
            go_wp2_with (first
              | (go_at_call 33; refine (show Hid _ from ?_).out)
              | (go_at_call 35; refine (show Hid _ from ?_).out)
              | (go_at_call 38; refine (show Hid _ from ?_).out)
              | (go_at_call 32; refine (show Hid _ from ?_).out)
              | (go_at_call 31; refine (show Hid _ from ?_).out)
              | (go_at_call 34; refine (show Hid _ from ?_).out)
              | (go_at_call 37; refine (show Hid _ from ?_).out)
              | (go_at_call 43; refine (show Hid _ from ?_).out)
              | (go_at_call 36; refine (show Hid _ from ?_).out)
              | (go_at_call 24; refine (show Hid _ from ?_).out)
              | (go_at_call 28; refine (show Hid _ from ?_).out)
              | (go_at_call 26; refine (show Hid _ from ?_).out)
              | (go_at_call 27; refine (show Hid _ from ?_).out)
              | (go_at_call 30; refine (show Hid _ from ?_).out)
              | (go_at_call 39; refine (show Hid _ from ?_).out)
              | (go_at_call 40; refine (show Hid _ from ?_).out)
              | (go_at_call 41; refine (show Hid _ from ?_).out)
              | (go_at_call 22; refine (show Hid _ from ?_).out)
              | (go_at_call 42; refine (show Hid _ from ?_).out)
              | (go_at_call 44; refine (show Hid _ from ?_).out)
              | (go_at_call 25; refine (show Hid _ from ?_).out)
              | (go_at_call 29; refine (show Hid _ from ?_).out)
              | (go_at_call 23; refine (show Hid _ from ?_).out))
            refine Lib.hid ?_
            refine (K2.out _ (HS.out.on (by (repeat (first | with_reducible exact Ext.refl _ | with_reducible exact Ext.refl _ | with_reducible refine Ext.drew ?_ | with_reducible refine Ext.drewN ?_ _ | with_reducible refine Ext.alloc ?_ _ | with_reducible refine Ext.onto ?_ _ | (with_reducible refine Ext.setCells ?_ ?_ _ _; rotate_left; focus (first | omega | (simp; done) | (simp; omega))) | (with_reducible refine Ext.setCell ?_ ?_ _; rotate_left; focus (first | omega | (simp; done) | (simp; omega)))))))).mono ?_
            rintro e w' ⟨rfl, hxl⟩; obtain ⟨v4, rfl⟩ := hxl.asLater; clear hxl
            go_wp2
            go_ret
            exact ⟨by simp, (by (repeat (first | with_reducible exact HX.out | with_reducible exact Ext.refl _ | with_reducible refine Ext.drew ?_ | with_reducible refine Ext.drewN ?_ _ | with_reducible refine Ext.alloc ?_ _ | with_reducible refine Ext.onto ?_ _ | (with_reducible refine Ext.setCells ?_ ?_ _ _; rotate_left; focus (first | omega | (simp; done) | (simp; omega))) | (with_reducible refine Ext.setCell ?_ ?_ _; rotate_left; focus (first | omega | (simp; done) | (simp; omega))))))⟩
end Go.Proofs.YthhblgjbgjceiaaGreatDoor
