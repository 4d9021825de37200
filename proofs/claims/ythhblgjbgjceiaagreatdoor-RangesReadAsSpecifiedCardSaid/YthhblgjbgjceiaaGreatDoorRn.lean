/- Walks of ranges: number. -/
import Derived.Test.YthhblgjbgjceiaaGreatDoorProg
import Derived.Test.YthhblgjbgjceiaaGreatDoorExt
import Derived.WalkKit
import Derived.WalkSpells
import Derived.WalkLawsBesides
import Derived.Deep.QuietTactic
import Derived.BigQuiet
import Derived.Test.YthhblgjbgjceiaaGreatDoorRp
import Derived.Test.YthhblgjbgjceiaaGreatDoorLi
import Derived.Test.YthhblgjbgjceiaaGreatDoorStr
import Derived.Lib.ConvBytes
set_option linter.unusedVariables false
set_option linter.unusedSimpArgs false
namespace Go.Proofs.YthhblgjbgjceiaaGreatDoor
open Go.RowKit Go.Shelf
open Go.Proofs
open Go.Proofs.Sp (Sp)

theorem ext_bytes3 (w : World) (e : TypeId) (s : ByteArray) : Ext w (Lib.bytesWorld w e s) := ⟨rfl, rfl, rfl, by rw [Lib.bytesWorld_size]; omega, fun k hk => Lib.bytesWorld_at_old w e s k hk⟩
abbrev Bl (s : ByteArray) : List UInt8 := s.data.toList
theorem ptrim_any (s : ByteArray) (w : World) (hs : s.size ≤ 9223372036854775807) : Calls Tryz.prog 95 #[.string s, .string ⟨#[48, 49, 50, 51, 52, 53, 54, 55, 56, 57]⟩] w fun e w' => e = .returned (.string ⟨(Lib.trimS s.data.toList Rp.digits10).toArray⟩) ∧ Ext w w' := by
  have h := Any.strings_Trim_laid Tryz.trimS (by kernel_rfl) s ⟨#[48, 49, 50, 51, 52, 53, 54, 55, 56, 57]⟩ w hs (by decide) (ascii_of_all (by decide))
  change Calls Tryz.prog 95 _ _ _ at h
  exact h.mono (fun e w' ⟨a, b⟩ => ⟨a, b⟩)
theorem patoi_any (s : ByteArray) (n : Int) (hl : s.size ≤ 18) (h : Lib.atoi s.data.toList = some n) (w : World) : Calls Tryz.prog 96 #[.string s] w fun e w' => e = .returned (.tuple #[.int .i64 n, .nilIface]) ∧ Ext w w' := by
  have h := Any.strconv_Atoi Tryz.atoi s n hl h w
  change Calls Tryz.prog 96 _ _ _ at h
  exact h.mono (fun e w' ⟨a, t, b⟩ => ⟨a, by rw [b]; exact ext_bytes3 _ _ _⟩)
theorem head_at (s : ByteArray) (h : 0 < s.size) : s.data.toList.head? = some s[0] := by
  rw [List.head?_eq_getElem?]
  exact Lib.data_getElem? s 0 h
set_option maxHeartbeats 400000 in
theorem number_ok (s : ByteArray) (n : Int) (w : World) (h : Rp.numP s.data.toList = some n) :
    Calls Tryz.prog 67 #[.string s] w fun e w' => e = .returned (.int .i64 n) ∧ Ext w w' := by
  obtain ⟨h1, h2, h3⟩ := Rp.numP_some h
  have ht : Lib.trimS s.data.toList Rp.digits10 = [] := (Rp.trim_dig _).2 h2
  have hl : s.data.toList.length = s.size := by simp
  simp only [Rp.numOk, Bool.and_eq_true, decide_eq_true_eq, hl] at h1
  obtain ⟨⟨k1, k2⟩, k3⟩ := h1
  have ha : Lib.atoi s.data.toList = some n := by rw [← h3]; exact Rp.atoi_dig h2 (fun e => by rw [e] at hl; simp at hl; omega)
  have HT := Lib.hid ht
  have HA := Lib.hid ha
  have HK : Hid (s.size = 1 ∨ ¬ (s[0].toNat : Int) = 48) := Lib.hid (by
    rw [head_at s (by omega)] at k3
    simp only [Bool.or_eq_true, decide_eq_true_eq, Bool.not_eq_true', beq_eq_false_iff_ne, ne_eq, Option.some.injEq] at k3
    refine k3.imp id (fun k e => k (UInt8.toNat_inj.1 (by show s[0].toNat = 48; omega))))
  clear h h2 h3 ht hl ha k3
  go_enter Tryz.func67, Tryz.ntmps67
  go_wp2_with (first
    | (go_at_call 95; refine (ptrim_any s _ (by omega)).mono ?_; rw [HT.out]; rintro e w' ⟨rfl, hxl⟩; obtain ⟨xl, rfl⟩ := hxl.asLater; clear hxl)
    | (go_at_call 96; refine (patoi_any s n (by omega) HA.out _).mono ?_; rintro e w' ⟨rfl, hxl⟩; obtain ⟨xl, rfl⟩ := hxl.asLater; clear hxl))
  all_goals first
    | (go_ret; exact ⟨rfl, (by (repeat (first | with_reducible exact Ext.refl _ | with_reducible exact Ext.refl _ | with_reducible refine Ext.drew ?_ | with_reducible refine Ext.drewN ?_ _ | with_reducible refine Ext.alloc ?_ _ | with_reducible refine Ext.onto ?_ _ | (with_reducible refine Ext.setCells ?_ ?_ _ _; rotate_left; focus (first | omega | (simp; done) | (simp; omega))) | (with_reducible refine Ext.setCell ?_ ?_ _; rotate_left; focus (first | omega | (simp; done) | (simp; omega))))))⟩)
    | (exfalso; have hh := HK.out; simp_all <;> omega)
def errPanic (n : Int) : Ending := .panicked [{ v := .iface 34 (.int .i64 n), recovered := false }]
set_option maxHeartbeats 400000 in
theorem number_no (s : ByteArray) (w : World) (hs : s.size ≤ 9223372036854775807) (h : Rp.numP s.data.toList = none) :
    Calls Tryz.prog 67 #[.string s] w fun e w' => e = errPanic 3 ∧ Ext w w' := by
  have hl : s.data.toList.length = s.size := by simp
  have hn : ¬ (1 ≤ s.size ∧ s.size ≤ 15 ∧ (s.size = 1 ∨ ∀ h : 0 < s.size, ¬ (s[0].toNat : Int) = 48) ∧ Lib.trimS s.data.toList Rp.digits10 = []) := by
    rintro ⟨k1, k2, k3, k4⟩
    unfold Rp.numP at h
    rw [if_pos] at h
    · cases h
    · refine ⟨?_, (Rp.trim_dig _).1 k4⟩
      simp only [Rp.numOk, Bool.and_eq_true, Bool.or_eq_true, decide_eq_true_eq, hl, Bool.not_eq_true', beq_eq_false_iff_ne]
      refine ⟨⟨k1, k2⟩, k3.imp id (fun k => ?_)⟩
      rw [head_at s (by omega)]
      intro e
      have e2 := Option.some.inj e
      exact k (by omega) (by rw [e2]; rfl)
  have HN := Lib.hid hn
  have HT := Lib.hid (fun W => ptrim_any s W hs)
  generalize Lib.trimS s.data.toList Rp.digits10 = r at *
  clear h hn hl
  go_enter Tryz.func67, Tryz.ntmps67
  go_wp2_with (first
    | (go_at_call 95; refine (HT.out _).mono ?_; rintro e w' ⟨rfl, hxl⟩; obtain ⟨xl, rfl⟩ := hxl.asLater; clear hxl)
    | (go_at_call 96; refine (show Hid _ from ?_).out))
  all_goals first
    | exact ⟨rfl, rfl, (by (repeat (first | with_reducible exact Ext.refl _ | with_reducible exact Ext.refl _ | with_reducible refine Ext.drew ?_ | with_reducible refine Ext.drewN ?_ _ | with_reducible refine Ext.alloc ?_ _ | with_reducible refine Ext.onto ?_ _ | (with_reducible refine Ext.setCells ?_ ?_ _ _; rotate_left; focus (first | omega | (simp; done) | (simp; omega))) | (with_reducible refine Ext.setCell ?_ ?_ _; rotate_left; focus (first | omega | (simp; done) | (simp; omega))))))⟩
    | (exfalso; have hh := HN.out; clear HT HN; simp_all <;> omega)
end Go.Proofs.YthhblgjbgjceiaaGreatDoor
