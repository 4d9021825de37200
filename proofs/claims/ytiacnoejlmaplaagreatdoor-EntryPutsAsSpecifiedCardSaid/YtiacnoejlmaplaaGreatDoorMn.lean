/- Walk of law 35: EntryPutsAsSpecified. -/
import Derived.Test.YtiacnoejlmaplaaGreatDoorProg
import Derived.Test.YtiacnoejlmaplaaGreatDoorExt
import Derived.WalkKit
import Derived.WalkSpells
import Derived.WalkLawsBesides
import Derived.Deep.QuietTactic
import Derived.BigQuiet
import Derived.Test.YtiacnoejlmaplaaGreatDoorFd
import Derived.Test.YtiacnoejlmaplaaGreatDoorMm
import Derived.Test.YtiacnoejlmaplaaGreatDoorEt
set_option linter.unusedVariables false
set_option linter.unusedSimpArgs false
namespace Go.Proofs.YtiacnoejlmaplaaGreatDoor
open Go.RowKit Go.Shelf
open Go.Proofs
open Go.Proofs.Sp (Sp)

def HitIs (e2 : Value → En) (l : List Sp) (ok : Bool) (w : World) (e' : Ending) (w' : World) : Prop := ∃ A' c', e' = .returned (.tuple #[.agg (entC (e2 (.slice A' l.length c'))), .bool ok]) ∧ OwnsSp w.heap.size w' A' c' l ∧ Ext w w'
set_option maxHeartbeats 1000000 in
theorem hit_fresh (e : En) (A : Option Addr) (c : Nat) (l : List Sp) (w : World) (hv : e.hv = .slice A l.length c) (hA : plainA A) (hlen : l.length * 16 ≤ 140737488355328) (hr : ReadsSp w w.heap.size A l) :
    Calls Tryz.prog 11 #[.agg (entC e), .int .i64 0] w (HitIs (fun v => { e with hv := v }) l true w) := by
  have hc42 : (entC e)[42]? = some (.slice A l.length c) := by rw [ent_g42, hv]
  have HR := Lib.hid hr
  have HA := Lib.hid hA
  have hf0 : fitsRow 45 (entC noEn) = true := ent_fits_of rfl
  clear hr hA
  go_enter Tryz.func11, Tryz.ntmps11
  go_wp2_with (go_at_call 30; refine (clone_any A c l _ HA.out hlen (HR.out.on (by (repeat (first | with_reducible exact Ext.refl _ | with_reducible exact Ext.refl _ | with_reducible refine Ext.drew ?_ | with_reducible refine Ext.drewN ?_ _ | with_reducible refine Ext.alloc ?_ _ | with_reducible refine Ext.onto ?_ _ | (with_reducible refine Ext.setCells ?_ ?_ _ _; rotate_left; focus (first | omega | (simp; done) | (simp; omega))) | (with_reducible refine Ext.setCell ?_ ?_ _; rotate_left; focus (first | omega | (simp; done) | (simp; omega)))))))).mono ?_; rintro e' w1 ⟨A', c', rfl, ho, hx⟩; obtain ⟨xl, rfl⟩ := hx.asLater; have HO := Lib.hid ho; clear ho hx)
  refine post_two (v1 := .agg (entC { e with hv := .slice A' l.length c' })) (v2 := .bool true) Tryz.results11 rfl ⟨_, rfl, ent_loaded (row_stored (RowAt.other (RowAt.later (RowAt.newAt (cs := entC noEn) (t := 31) (by simp)) _) (p := ⟨w.heap.size, 42, none⟩) (by show w.heap.size + 1 ≠ w.heap.size; omega) _) (ent_size _) (ent_size _))⟩ rfl ⟨A', c', rfl, ((HO.out.other (p := ⟨w.heap.size, 42, none⟩) (by simp <;> omega) _).others (by simp <;> omega) _ _).lower (by simp <;> omega), Ext.setCells (Ext.setCell (Ext.onto (((Ext.refl w).alloc _).alloc _) _) (p := ⟨w.heap.size, 42, none⟩) (Nat.le_refl _) _) (by omega) _ _⟩
set_option maxHeartbeats 1000000 in
theorem hit_stale (e : En) (A : Option Addr) (c : Nat) (l : List Sp) (w : World) (hv : e.hv = .slice A l.length c) (hA : plainA A) (hlen : l.length * 16 ≤ 140737488355328) (hr : ReadsSp w w.heap.size A l) :
    Calls Tryz.prog 11 #[.agg (entC e), .int .i64 1] w (HitIs (fun v => { e with hv := v, soft := true }) l true w) := by
  have hc42 : (entC e)[42]? = some (.slice A l.length c) := by rw [ent_g42, hv]
  have HR := Lib.hid hr
  have HA := Lib.hid hA
  have hf0 : fitsRow 45 (entC noEn) = true := ent_fits_of rfl
  clear hr hA
  go_enter Tryz.func11, Tryz.ntmps11
  go_wp2_with (go_at_call 30; refine (clone_any A c l _ HA.out hlen (HR.out.on (by (repeat (first | with_reducible exact Ext.refl _ | with_reducible exact Ext.refl _ | with_reducible refine Ext.drew ?_ | with_reducible refine Ext.drewN ?_ _ | with_reducible refine Ext.alloc ?_ _ | with_reducible refine Ext.onto ?_ _ | (with_reducible refine Ext.setCells ?_ ?_ _ _; rotate_left; focus (first | omega | (simp; done) | (simp; omega))) | (with_reducible refine Ext.setCell ?_ ?_ _; rotate_left; focus (first | omega | (simp; done) | (simp; omega)))))))).mono ?_; rintro e' w1 ⟨A', c', rfl, ho, hx⟩; obtain ⟨xl, rfl⟩ := hx.asLater; have HO := Lib.hid ho; clear ho hx)
  refine post_two (v1 := .agg (entC { e with hv := .slice A' l.length c', soft := true })) (v2 := .bool true) Tryz.results11 rfl ⟨_, rfl, ent_loaded (row_stored (RowAt.other (RowAt.other (RowAt.later (RowAt.newAt (cs := entC noEn) (t := 31) (by simp)) _) (p := ⟨w.heap.size, 42, none⟩) (by show w.heap.size + 1 ≠ w.heap.size; omega) _) (p := ⟨w.heap.size, 41, none⟩) (by show w.heap.size + 1 ≠ w.heap.size; omega) _) (ent_size _) (ent_size _))⟩ rfl ⟨A', c', rfl, (((HO.out.other (p := ⟨w.heap.size, 42, none⟩) (by simp <;> omega) _).other (p := ⟨w.heap.size, 41, none⟩) (by simp <;> omega) _).others (by simp <;> omega) _ _).lower (by simp <;> omega), Ext.setCells (Ext.setCell (Ext.setCell (Ext.onto (((Ext.refl w).alloc _).alloc _) _) (p := ⟨w.heap.size, 42, none⟩) (Nat.le_refl _) _) (p := ⟨w.heap.size, 41, none⟩) (Nat.le_refl _) _) (by omega) _ _⟩
set_option maxHeartbeats 1000000 in
theorem hit_gone (e : En) (A : Option Addr) (c : Nat) (l : List Sp) (w : World) (hv : e.hv = .slice A l.length c) (hA : plainA A) (hlen : l.length * 16 ≤ 140737488355328) (hr : ReadsSp w w.heap.size A l) :
    Calls Tryz.prog 11 #[.agg (entC e), .int .i64 2] w fun e' w' => e' = .returned (.tuple #[.agg (entC noEn), .bool false]) ∧ Ext w w' := by
  have hc42 : (entC e)[42]? = some (.slice A l.length c) := by rw [ent_g42, hv]
  have HR := Lib.hid hr
  have HA := Lib.hid hA
  have hf0 : fitsRow 45 (entC noEn) = true := ent_fits_of rfl
  clear hr hA
  go_enter Tryz.func11, Tryz.ntmps11
  go_wp2_with (go_at_call 30; refine (clone_any A c l _ HA.out hlen (HR.out.on (by (repeat (first | with_reducible exact Ext.refl _ | with_reducible exact Ext.refl _ | with_reducible refine Ext.drew ?_ | with_reducible refine Ext.drewN ?_ _ | with_reducible refine Ext.alloc ?_ _ | with_reducible refine Ext.onto ?_ _ | (with_reducible refine Ext.setCells ?_ ?_ _ _; rotate_left; focus (first | omega | (simp; done) | (simp; omega))) | (with_reducible refine Ext.setCell ?_ ?_ _; rotate_left; focus (first | omega | (simp; done) | (simp; omega)))))))).mono ?_; rintro e' w1 ⟨A', c', rfl, ho, hx⟩; obtain ⟨xl, rfl⟩ := hx.asLater; have HO := Lib.hid ho; clear ho hx)
  refine post_two (v1 := .agg (entC noEn)) (v2 := .bool false) Tryz.results11 rfl ⟨_, rfl, ent_loaded (row_stored (RowAt.other (RowAt.later (RowAt.newAt (cs := entC noEn) (t := 31) (by simp)) _) (p := ⟨w.heap.size, 42, none⟩) (by show w.heap.size + 1 ≠ w.heap.size; omega) _) (ent_size _) (ent_size _))⟩ rfl ⟨rfl, Ext.setCells (Ext.setCell (Ext.onto (((Ext.refl w).alloc _).alloc _) _) (p := ⟨w.heap.size, 42, none⟩) (Nat.le_refl _) _) (by omega) _ _⟩
def partN (e : En) (s1 s2 : Int) : ByteArray × Int :=
  if e.whole = false then (⟨#[]⟩, 4) else if s1 < 0 ∨ s2 < s1 ∨ e.st.size < s2 then (⟨#[]⟩, 70) else (e.bytes.extract s1.toNat s2.toNat, 0)
theorem part_any (e : En) (A : Option Addr) (n c : Nat) (s1 s2 : Int) (w : World) (hv : e.hv = .slice A n c) (hb : (e.bytes.size : Int) = e.st.size) (hm : e.bytes.size ≤ 140737488355328) :
    Calls Tryz.prog 12 #[.agg (entC e), .agg #[.int .i64 s1, .int .i64 s2]] w fun e' w' => e' = .returned (.tuple #[.string (partN e s1 s2).1, .int .i64 (partN e s1 s2).2]) ∧ Ext w w' := by
  have hf : fitsRow 45 (entC e) = true := ent_fits_of hv
  have HP : Hid (partN e s1 s2 = if e.whole = false then (⟨#[]⟩, 4) else if s1 < 0 ∨ s2 < s1 ∨ e.st.size < s2 then (⟨#[]⟩, 70) else (e.bytes.extract s1.toNat s2.toNat, 0)) := Lib.hid rfl
  generalize partN e s1 s2 = pp at *
  obtain ⟨p1, p2⟩ := pp
  by_cases hw : e.whole = false
  · obtain ⟨rfl, rfl⟩ := Prod.mk.inj (HP.out.trans (if_pos hw))
    go_enter Tryz.func12, Tryz.ntmps12
    go_wp2
    all_goals first | (exfalso; simp_all; done) | skip
    all_goals
      refine post_two (v1 := .string _) (v2 := .int .i64 _) Tryz.results12 rfl rfl rfl ⟨rfl, (by (repeat (first | with_reducible exact Ext.refl _ | with_reducible exact Ext.refl _ | with_reducible refine Ext.drew ?_ | with_reducible refine Ext.drewN ?_ _ | with_reducible refine Ext.alloc ?_ _ | with_reducible refine Ext.onto ?_ _ | (with_reducible refine Ext.setCells ?_ ?_ _ _; rotate_left; focus (first | omega | (simp; done) | (simp; omega))) | (with_reducible refine Ext.setCell ?_ ?_ _; rotate_left; focus (first | omega | (simp; done) | (simp; omega))))))⟩
  · have hw' : e.whole = true := by simpa using hw
    by_cases hc : s1 < 0 ∨ s2 < s1 ∨ e.st.size < s2
    · obtain ⟨rfl, rfl⟩ := Prod.mk.inj ((HP.out.trans (if_neg hw)).trans (if_pos hc))
      have HC := Lib.hid hc
      clear hc hw
      go_enter Tryz.func12, Tryz.ntmps12
      go_wp2
      all_goals first | (exfalso; simp_all; done) | (exfalso; have := HC.out; omega) | skip
      all_goals
        refine post_two (v1 := .string _) (v2 := .int .i64 _) Tryz.results12 rfl rfl rfl ⟨rfl, (by (repeat (first | with_reducible exact Ext.refl _ | with_reducible exact Ext.refl _ | with_reducible refine Ext.drew ?_ | with_reducible refine Ext.drewN ?_ _ | with_reducible refine Ext.alloc ?_ _ | with_reducible refine Ext.onto ?_ _ | (with_reducible refine Ext.setCells ?_ ?_ _ _; rotate_left; focus (first | omega | (simp; done) | (simp; omega))) | (with_reducible refine Ext.setCell ?_ ?_ _; rotate_left; focus (first | omega | (simp; done) | (simp; omega))))))⟩
    · obtain ⟨rfl, rfl⟩ := Prod.mk.inj ((HP.out.trans (if_neg hw)).trans (if_neg hc))
      have HC := Lib.hid hc
      have h1 : 0 ≤ s1 := by omega
      have h2 : s1 ≤ s2 := by omega
      have h3 : s2 ≤ e.st.size := by omega
      clear hc hw
      go_enter Tryz.func12, Tryz.ntmps12
      go_wp2
      all_goals first | (exfalso; simp_all; done) | (exfalso; have := HC.out; omega) | skip
      all_goals
        refine post_two (v1 := .string _) (v2 := .int .i64 _) Tryz.results12 rfl rfl rfl ⟨rfl, (by (repeat (first | with_reducible exact Ext.refl _ | with_reducible exact Ext.refl _ | with_reducible refine Ext.drew ?_ | with_reducible refine Ext.drewN ?_ _ | with_reducible refine Ext.alloc ?_ _ | with_reducible refine Ext.onto ?_ _ | (with_reducible refine Ext.setCells ?_ ?_ _ _; rotate_left; focus (first | omega | (simp; done) | (simp; omega))) | (with_reducible refine Ext.setCell ?_ ?_ _; rotate_left; focus (first | omega | (simp; done) | (simp; omega))))))⟩
theorem rpart_any (e : En) (A : Option Addr) (n c : Nat) (s1 s2 : Int) (w : World) (hv : e.hv = .slice A n c) (hb : (e.bytes.size : Int) = e.st.size) (hm : e.bytes.size ≤ 140737488355328) :
    Calls Tryz.prog 13 #[.agg (entC e), .agg #[.int .i64 s1, .int .i64 s2]] w fun e' w' => e' = .returned (.agg #[.string (partN e s1 s2).1, .int .i64 (partN e s1 s2).2]) ∧ Ext w w' := by
  have hf : fitsRow 45 (entC e) = true := ent_fits_of hv
  have HP : Hid (partN e s1 s2 = if e.whole = false then (⟨#[]⟩, 4) else if s1 < 0 ∨ s2 < s1 ∨ e.st.size < s2 then (⟨#[]⟩, 70) else (e.bytes.extract s1.toNat s2.toNat, 0)) := Lib.hid rfl
  generalize partN e s1 s2 = pp at *
  obtain ⟨p1, p2⟩ := pp
  by_cases hw : e.whole = false
  · obtain ⟨rfl, rfl⟩ := Prod.mk.inj (HP.out.trans (if_pos hw))
    go_enter Tryz.func13, Tryz.ntmps13
    go_wp2
    all_goals first | (exfalso; simp_all; done) | skip
    all_goals
      (refine bodyPost_ret (v := .agg #[.string _, .int .i64 _]) ?_ rfl ⟨rfl, (by (repeat (first | with_reducible exact Ext.refl _ | with_reducible exact Ext.refl _ | with_reducible refine Ext.drew ?_ | with_reducible refine Ext.drewN ?_ _ | with_reducible refine Ext.alloc ?_ _ | with_reducible refine Ext.onto ?_ _ | (with_reducible refine Ext.setCells ?_ ?_ _ _; rotate_left; focus (first | omega | (simp; done) | (simp; omega))) | (with_reducible refine Ext.setCell ?_ ?_ _; rotate_left; focus (first | omega | (simp; done) | (simp; omega))))))⟩; simp [results, Tryz.results13, go_sem, ↓IntWalk.iteOmega])
  · have hw' : e.whole = true := by simpa using hw
    by_cases hc : s1 < 0 ∨ s2 < s1 ∨ e.st.size < s2
    · obtain ⟨rfl, rfl⟩ := Prod.mk.inj ((HP.out.trans (if_neg hw)).trans (if_pos hc))
      have HC := Lib.hid hc
      clear hc hw
      go_enter Tryz.func13, Tryz.ntmps13
      go_wp2
      all_goals first | (exfalso; simp_all; done) | (exfalso; have := HC.out; omega) | skip
      all_goals
        (refine bodyPost_ret (v := .agg #[.string _, .int .i64 _]) ?_ rfl ⟨rfl, (by (repeat (first | with_reducible exact Ext.refl _ | with_reducible exact Ext.refl _ | with_reducible refine Ext.drew ?_ | with_reducible refine Ext.drewN ?_ _ | with_reducible refine Ext.alloc ?_ _ | with_reducible refine Ext.onto ?_ _ | (with_reducible refine Ext.setCells ?_ ?_ _ _; rotate_left; focus (first | omega | (simp; done) | (simp; omega))) | (with_reducible refine Ext.setCell ?_ ?_ _; rotate_left; focus (first | omega | (simp; done) | (simp; omega))))))⟩; simp [results, Tryz.results13, go_sem, ↓IntWalk.iteOmega])
    · obtain ⟨rfl, rfl⟩ := Prod.mk.inj ((HP.out.trans (if_neg hw)).trans (if_neg hc))
      have HC := Lib.hid hc
      have h1 : 0 ≤ s1 := by omega
      have h2 : s1 ≤ s2 := by omega
      have h3 : s2 ≤ e.st.size := by omega
      clear hc hw
      go_enter Tryz.func13, Tryz.ntmps13
      go_wp2
      all_goals first | (exfalso; simp_all; done) | (exfalso; have := HC.out; omega) | skip
      all_goals
        (refine bodyPost_ret (v := .agg #[.string _, .int .i64 _]) ?_ rfl ⟨rfl, (by (repeat (first | with_reducible exact Ext.refl _ | with_reducible exact Ext.refl _ | with_reducible refine Ext.drew ?_ | with_reducible refine Ext.drewN ?_ _ | with_reducible refine Ext.alloc ?_ _ | with_reducible refine Ext.onto ?_ _ | (with_reducible refine Ext.setCells ?_ ?_ _ _; rotate_left; focus (first | omega | (simp; done) | (simp; omega))) | (with_reducible refine Ext.setCell ?_ ?_ _; rotate_left; focus (first | omega | (simp; done) | (simp; omega))))))⟩; simp [results, Tryz.results13, go_sem, ↓IntWalk.iteOmega])
theorem dg_self (a0 a1 a2 a3 a4 a5 a6 a7 a8 a9 a10 a11 a12 a13 a14 a15 : Int) (W : World) : (Op.equalIn 9999 23 (.agg #[.int .u8 a0, .int .u8 a1, .int .u8 a2, .int .u8 a3, .int .u8 a4, .int .u8 a5, .int .u8 a6, .int .u8 a7, .int .u8 a8, .int .u8 a9, .int .u8 a10, .int .u8 a11, .int .u8 a12, .int .u8 a13, .int .u8 a14, .int .u8 a15]) (.agg #[.int .u8 a0, .int .u8 a1, .int .u8 a2, .int .u8 a3, .int .u8 a4, .int .u8 a5, .int .u8 a6, .int .u8 a7, .int .u8 a8, .int .u8 a9, .int .u8 a10, .int .u8 a11, .int .u8 a12, .int .u8 a13, .int .u8 a14, .int .u8 a15])).run Tryz.prog W = .ok true W := by
  have hc : Tryz.prog.cellsOf 5 = 1 := by kernel_rfl
  have hr : List.range 16 = [0, 1, 2, 3, 4, 5, 6, 7, 8, 9, 10, 11, 12, 13, 14, 15] := by decide
  have hinf : (Tryz.prog.info? 5).map (fun i => (i.zero, i.size, i.bytes)) = some (some (.int .u8 0), 1, 1) := by kernel_rfl
  obtain ⟨i, hi, _, _, _⟩ := info_parts hinf
  rw [run_equalIn_array W 9998 (t := 23) (e := 5) (n := 16) _ _ (by kernel_rfl) hi, hc, hr]
  simp [Op.eqItems, go_sem]
theorem sl_self (a0 a1 a2 a3 a4 a5 a6 a7 a8 a9 a10 a11 a12 a13 a14 a15 : Int) (W : World) : (Op.equalIn 9999 26 (.agg #[.int .u8 a0, .int .u8 a1, .int .u8 a2, .int .u8 a3, .int .u8 a4, .int .u8 a5, .int .u8 a6, .int .u8 a7, .int .u8 a8, .int .u8 a9, .int .u8 a10, .int .u8 a11, .int .u8 a12, .int .u8 a13, .int .u8 a14, .int .u8 a15]) (.agg #[.int .u8 a0, .int .u8 a1, .int .u8 a2, .int .u8 a3, .int .u8 a4, .int .u8 a5, .int .u8 a6, .int .u8 a7, .int .u8 a8, .int .u8 a9, .int .u8 a10, .int .u8 a11, .int .u8 a12, .int .u8 a13, .int .u8 a14, .int .u8 a15])).run Tryz.prog W = .ok true W := by
  have hc : Tryz.prog.cellsOf 5 = 1 := by kernel_rfl
  have hr : List.range 16 = [0, 1, 2, 3, 4, 5, 6, 7, 8, 9, 10, 11, 12, 13, 14, 15] := by decide
  have hinf : (Tryz.prog.info? 5).map (fun i => (i.zero, i.size, i.bytes)) = some (some (.int .u8 0), 1, 1) := by kernel_rfl
  obtain ⟨i, hi, _, _, _⟩ := info_parts hinf
  rw [run_equalIn_array W 9998 (t := 26) (e := 5) (n := 16) _ _ (by kernel_rfl) hi, hc, hr]
  simp [Op.eqItems, go_sem]
theorem stm_self (s : St) (W : World) : (binOp .neq 28 (.agg (stmC s)) (.agg (stmC s))).run Tryz.prog W = .ok (.bool false) W := by
  rw [run_neq_struct]
  simp [go_sem, stmC, stmL, dgC, dg_self, sl_self]
attribute [go_sem ↓] stm_self
set_option maxRecDepth 100000 in
set_option maxHeartbeats 1000000 in
theorem same_any (e : En) (A B : Option Addr) (c d : Nat) (l : List Sp) (w : World) (hv : e.hv = .slice A l.length c) (hm : l.length ≤ 140737488355328) (hr1 : ReadsSp w w.heap.size A l) (hr2 : ReadsSp w w.heap.size B l) :
    Calls Tryz.prog 17 #[.agg (entC e), .agg (entC { e with hv := .slice B l.length d })] w fun e' w' => e' = .returned (.bool true) ∧ Ext w w' := by
  have hc42 : (entC e)[42]? = some (.slice A l.length c) := by rw [ent_g42, hv]
  have HR1 := Lib.hid hr1
  have HR2 := Lib.hid hr2
  clear hr1 hr2
  have hc42b : (entC { e with hv := .slice B l.length d })[42]? = some (.slice B l.length d) := ent_g42 _
  go_enter Tryz.func17, Tryz.ntmps17
  go_wp2
  refine wp_world (fun W => Ext w W ∧ RowAt W w.heap.size (entC e) ∧ RowAt W (w.heap.size + 1) (entC { e with hv := .slice B l.length d })) ⟨(by (repeat (first | with_reducible exact Ext.refl _ | with_reducible exact Ext.refl _ | with_reducible refine Ext.drew ?_ | with_reducible refine Ext.drewN ?_ _ | with_reducible refine Ext.alloc ?_ _ | with_reducible refine Ext.onto ?_ _ | (with_reducible refine Ext.setCells ?_ ?_ _ _; rotate_left; focus (first | omega | (simp; done) | (simp; omega))) | (with_reducible refine Ext.setCell ?_ ?_ _; rotate_left; focus (first | omega | (simp; done) | (simp; omega)))))), (RowAt.new _ _ _).alloc _, RowAt.newAt (by simp)⟩ ?_
  rintro W ⟨hx0, h1, h2⟩
  have HX0 := Lib.hid hx0
  have H1 := Lib.hid h1
  have H2 := Lib.hid h2
  clear hx0 h1 h2
  go_loopw [5] (fun i wr => ∃ k : Nat, k ≤ l.length ∧ i = .int .i64 k ∧ Ext W wr) (fun i _ => l.length - (intOf i).toNat)
  case atStart => exact ⟨0, Nat.zero_le _, rfl, Ext.refl _⟩
  case round =>
    obtain ⟨k, hk, rfl, hx⟩ := hrel
    have HX := Lib.hid hx
    have c1 : wr.cell? ⟨w.heap.size, 42, none⟩ = some (.slice A l.length c) := ((H1.out.ext hx).cell 42).trans hc42
    have c2 : wr.cell? ⟨w.heap.size + 1, 42, none⟩ = some (.slice B l.length d) := ((H2.out.ext hx).cell 42).trans hc42b
    have hl2 := (H2.out.ext hx).lt
    by_cases hlt : k < l.length
    · obtain ⟨b1, o1, rfl, hb1, y1, y2⟩ := ReadsSp.cell (HR1.out.on (HX0.out.trans hx)) k hlt
      obtain ⟨b2, o2, rfl, hb2, z1, z2⟩ := ReadsSp.cell (HR2.out.on (HX0.out.trans hx)) k hlt
      generalize l[k] = s at *
      obtain ⟨s1, s2⟩ := s
      simp only [] at y1 y2 z1 z2
      clear hx
      go_wp2
      refine wp_region_later (by kernel_rfl) (by kernel_rfl) ?_
      repeat (first | go_big_quiet_step (fail) | quiet_step (fail))
      refine wpQuiet_nil ?_
      rintro _ ⟨xq, rfl⟩
      go_wp2
      go_roundw
      case rel => exact ⟨k + 1, by omega, by go_num, (by (repeat (first | with_reducible exact HX.out | with_reducible exact Ext.refl _ | with_reducible refine Ext.drew ?_ | with_reducible refine Ext.drewN ?_ _ | with_reducible refine Ext.alloc ?_ _ | with_reducible refine Ext.onto ?_ _ | (with_reducible refine Ext.setCells ?_ ?_ _ _; rotate_left; focus (first | omega | (simp; done) | (simp; omega))) | (with_reducible refine Ext.setCell ?_ ?_ _; rotate_left; focus (first | omega | (simp; done) | (simp; omega))))))⟩
      case measure => simp [intOf]; omega
    · clear hx
      go_wp2
      go_ret
      exact ⟨rfl, HX0.out.trans HX.out⟩
end Go.Proofs.YtiacnoejlmaplaaGreatDoor

namespace Go.Proofs.YtiacnoejlmaplaaGreatDoor
open Go.RowKit Go.Shelf
open Go.Proofs
open Go.Proofs.Sp (Sp)

structure StIn (s : St) : Prop where
  h1 : s.addr.size ≤ 9223372036854775807
  h2 : s.var.size ≤ 9223372036854775807
  h3 : s.tags.size ≤ 9223372036854775807
  hb : s.body.length = 16
  hby : Byt s.body
theorem begin_hv (s : St) : (beginN s).1.hv = .slice none 0 0 := by
  unfold beginN
  split
  · rfl
  · split
    · rfl
    · split <;> rfl
theorem begin_val {s : St} (h : (beginN s).2 = 0) : validB (beginN s).1 [] = true := by
  unfold beginN at h ⊢
  split at h
  · exact absurd h (by decide)
  · rename_i h1
    rw [if_neg h1]
    split at h
    · exact absurd h (by decide)
    · rename_i h2
      rw [if_neg h2]
      split at h
      · exact absurd h (by decide)
      · rename_i h3
        rw [if_neg h3]
        refine val_iff.2 (empty_val s false (by simpa using h1) (by omega) (fun e => ?_))
        by_cases hh : s.body = Wire.digest 34 [[]]
        · exact hh.symm
        · exact absurd ⟨e, hh⟩ h3
theorem begin_st (s : St) : (beginN s).1.st = s ∨ (beginN s).1 = noEn := by
  unfold beginN
  split
  · exact .inr rfl
  · split
    · exact .inr rfl
    · split
      · exact .inr rfl
      · exact .inl rfl
theorem zeros16 : Byt (zeros32 16) := fun x hx => by
  have := List.eq_of_mem_replicate hx
  omega
theorem begin_in {s : St} (h : StIn s) : StIn (beginN s).1.st := by
  rcases begin_st s with k | k
  · rw [k]; exact h
  · rw [k]; exact ⟨by decide, by decide, by decide, by decide, zeros16⟩
theorem begin_bytes {s : St} (h : (beginN s).2 = 0) : (beginN s).1.bytes.size ≤ 65536 := by
  have hv := val_iff.1 (begin_val h)
  have h1 := hv.bs
  have h2 := hv.sz
  omega
set_option maxRecDepth 100000 in
set_option maxHeartbeats 400000 in
theorem puts_big (s : St) (e : En) (f : Int) (more : ByteArray) (s1 s2 : Int) (w : World) (hk : Konst 0 w) (hrk : RKonst w)
    (h : 5000 < s.addr.size ∨ 5000 < s.var.size ∨ 5000 < s.tags.size ∨ (3000 < s.size ∧ s.size ≤ 65536) ∨ 3000 < more.size) (h1 : s.addr.size ≤ 9223372036854775807) (h2 : s.var.size ≤ 9223372036854775807) (h3 : s.tags.size ≤ 9223372036854775807) (h4 : more.size ≤ 9223372036854775807) :
    Calls Tryz.prog 5 #[.agg (stmC s), .agg (entC e), .int .i64 f, .string more, .agg #[.int .i64 s1, .int .i64 s2]] w fun e' w' => e' = .returned (.bool true) ∧ Ext w w' := by
  have HK := Lib.hid hk
  have HRK := Lib.hid hrk
  clear hk hrk
  by_cases b1 : 5000 < (s.addr.size : Int)
  · have d1 : decide (5000 < (s.addr.size : Int)) = true := by simpa using b1
    clear h b1
    go_enter Tryz.func5, Tryz.ntmps5
    go_wp2_with (go_at_call 9; refine (sanity_ok _ (RowAt.ext HK.out (by (repeat (first | with_reducible exact Ext.refl _ | with_reducible exact Ext.refl _ | with_reducible refine Ext.drew ?_ | with_reducible refine Ext.drewN ?_ _ | with_reducible refine Ext.alloc ?_ _ | with_reducible refine Ext.onto ?_ _ | (with_reducible refine Ext.setCells ?_ ?_ _ _; rotate_left; focus (first | omega | (simp; done) | (simp; omega))) | (with_reducible refine Ext.setCell ?_ ?_ _; rotate_left; focus (first | omega | (simp; done) | (simp; omega))))))) (RowAt.ext HRK.out (by (repeat (first | with_reducible exact Ext.refl _ | with_reducible exact Ext.refl _ | with_reducible refine Ext.drew ?_ | with_reducible refine Ext.drewN ?_ _ | with_reducible refine Ext.alloc ?_ _ | with_reducible refine Ext.onto ?_ _ | (with_reducible refine Ext.setCells ?_ ?_ _ _; rotate_left; focus (first | omega | (simp; done) | (simp; omega))) | (with_reducible refine Ext.setCell ?_ ?_ _; rotate_left; focus (first | omega | (simp; done) | (simp; omega)))))))).mono ?_; rintro e w' ⟨rfl, hxl⟩; obtain ⟨xl, rfl⟩ := hxl.asLater; clear hxl)
    go_ret
    exact ⟨rfl, (by (repeat (first | with_reducible exact Ext.refl _ | with_reducible exact Ext.refl _ | with_reducible refine Ext.drew ?_ | with_reducible refine Ext.drewN ?_ _ | with_reducible refine Ext.alloc ?_ _ | with_reducible refine Ext.onto ?_ _ | (with_reducible refine Ext.setCells ?_ ?_ _ _; rotate_left; focus (first | omega | (simp; done) | (simp; omega))) | (with_reducible refine Ext.setCell ?_ ?_ _; rotate_left; focus (first | omega | (simp; done) | (simp; omega))))))⟩
  have d1 : decide (5000 < (s.addr.size : Int)) = false := by simpa using b1
  by_cases b2 : 5000 < (s.var.size : Int)
  · have d2 : decide (5000 < (s.var.size : Int)) = true := by simpa using b2
    clear h b1 b2
    go_enter Tryz.func5, Tryz.ntmps5
    go_wp2_with (go_at_call 9; refine (sanity_ok _ (RowAt.ext HK.out (by (repeat (first | with_reducible exact Ext.refl _ | with_reducible exact Ext.refl _ | with_reducible refine Ext.drew ?_ | with_reducible refine Ext.drewN ?_ _ | with_reducible refine Ext.alloc ?_ _ | with_reducible refine Ext.onto ?_ _ | (with_reducible refine Ext.setCells ?_ ?_ _ _; rotate_left; focus (first | omega | (simp; done) | (simp; omega))) | (with_reducible refine Ext.setCell ?_ ?_ _; rotate_left; focus (first | omega | (simp; done) | (simp; omega))))))) (RowAt.ext HRK.out (by (repeat (first | with_reducible exact Ext.refl _ | with_reducible exact Ext.refl _ | with_reducible refine Ext.drew ?_ | with_reducible refine Ext.drewN ?_ _ | with_reducible refine Ext.alloc ?_ _ | with_reducible refine Ext.onto ?_ _ | (with_reducible refine Ext.setCells ?_ ?_ _ _; rotate_left; focus (first | omega | (simp; done) | (simp; omega))) | (with_reducible refine Ext.setCell ?_ ?_ _; rotate_left; focus (first | omega | (simp; done) | (simp; omega)))))))).mono ?_; rintro e w' ⟨rfl, hxl⟩; obtain ⟨xl, rfl⟩ := hxl.asLater; clear hxl)
    go_ret
    exact ⟨rfl, (by (repeat (first | with_reducible exact Ext.refl _ | with_reducible exact Ext.refl _ | with_reducible refine Ext.drew ?_ | with_reducible refine Ext.drewN ?_ _ | with_reducible refine Ext.alloc ?_ _ | with_reducible refine Ext.onto ?_ _ | (with_reducible refine Ext.setCells ?_ ?_ _ _; rotate_left; focus (first | omega | (simp; done) | (simp; omega))) | (with_reducible refine Ext.setCell ?_ ?_ _; rotate_left; focus (first | omega | (simp; done) | (simp; omega))))))⟩
  have d2 : decide (5000 < (s.var.size : Int)) = false := by simpa using b2
  by_cases b3 : 5000 < (s.tags.size : Int)
  · have d3 : decide (5000 < (s.tags.size : Int)) = true := by simpa using b3
    clear h b1 b2 b3
    go_enter Tryz.func5, Tryz.ntmps5
    go_wp2_with (go_at_call 9; refine (sanity_ok _ (RowAt.ext HK.out (by (repeat (first | with_reducible exact Ext.refl _ | with_reducible exact Ext.refl _ | with_reducible refine Ext.drew ?_ | with_reducible refine Ext.drewN ?_ _ | with_reducible refine Ext.alloc ?_ _ | with_reducible refine Ext.onto ?_ _ | (with_reducible refine Ext.setCells ?_ ?_ _ _; rotate_left; focus (first | omega | (simp; done) | (simp; omega))) | (with_reducible refine Ext.setCell ?_ ?_ _; rotate_left; focus (first | omega | (simp; done) | (simp; omega))))))) (RowAt.ext HRK.out (by (repeat (first | with_reducible exact Ext.refl _ | with_reducible exact Ext.refl _ | with_reducible refine Ext.drew ?_ | with_reducible refine Ext.drewN ?_ _ | with_reducible refine Ext.alloc ?_ _ | with_reducible refine Ext.onto ?_ _ | (with_reducible refine Ext.setCells ?_ ?_ _ _; rotate_left; focus (first | omega | (simp; done) | (simp; omega))) | (with_reducible refine Ext.setCell ?_ ?_ _; rotate_left; focus (first | omega | (simp; done) | (simp; omega)))))))).mono ?_; rintro e w' ⟨rfl, hxl⟩; obtain ⟨xl, rfl⟩ := hxl.asLater; clear hxl)
    go_ret
    exact ⟨rfl, (by (repeat (first | with_reducible exact Ext.refl _ | with_reducible exact Ext.refl _ | with_reducible refine Ext.drew ?_ | with_reducible refine Ext.drewN ?_ _ | with_reducible refine Ext.alloc ?_ _ | with_reducible refine Ext.onto ?_ _ | (with_reducible refine Ext.setCells ?_ ?_ _ _; rotate_left; focus (first | omega | (simp; done) | (simp; omega))) | (with_reducible refine Ext.setCell ?_ ?_ _; rotate_left; focus (first | omega | (simp; done) | (simp; omega))))))⟩
  have d3 : decide (5000 < (s.tags.size : Int)) = false := by simpa using b3
  by_cases b4 : 3000 < s.size ∧ s.size ≤ 65536
  · have d4 : decide (3000 < s.size) = true := by simpa using b4.1
    have d5 : decide (s.size ≤ 65536) = true := by simpa using b4.2
    clear h b1 b2 b3 b4
    go_enter Tryz.func5, Tryz.ntmps5
    go_wp2_with (go_at_call 9; refine (sanity_ok _ (RowAt.ext HK.out (by (repeat (first | with_reducible exact Ext.refl _ | with_reducible exact Ext.refl _ | with_reducible refine Ext.drew ?_ | with_reducible refine Ext.drewN ?_ _ | with_reducible refine Ext.alloc ?_ _ | with_reducible refine Ext.onto ?_ _ | (with_reducible refine Ext.setCells ?_ ?_ _ _; rotate_left; focus (first | omega | (simp; done) | (simp; omega))) | (with_reducible refine Ext.setCell ?_ ?_ _; rotate_left; focus (first | omega | (simp; done) | (simp; omega))))))) (RowAt.ext HRK.out (by (repeat (first | with_reducible exact Ext.refl _ | with_reducible exact Ext.refl _ | with_reducible refine Ext.drew ?_ | with_reducible refine Ext.drewN ?_ _ | with_reducible refine Ext.alloc ?_ _ | with_reducible refine Ext.onto ?_ _ | (with_reducible refine Ext.setCells ?_ ?_ _ _; rotate_left; focus (first | omega | (simp; done) | (simp; omega))) | (with_reducible refine Ext.setCell ?_ ?_ _; rotate_left; focus (first | omega | (simp; done) | (simp; omega)))))))).mono ?_; rintro e w' ⟨rfl, hxl⟩; obtain ⟨xl, rfl⟩ := hxl.asLater; clear hxl)
    go_ret
    exact ⟨rfl, (by (repeat (first | with_reducible exact Ext.refl _ | with_reducible exact Ext.refl _ | with_reducible refine Ext.drew ?_ | with_reducible refine Ext.drewN ?_ _ | with_reducible refine Ext.alloc ?_ _ | with_reducible refine Ext.onto ?_ _ | (with_reducible refine Ext.setCells ?_ ?_ _ _; rotate_left; focus (first | omega | (simp; done) | (simp; omega))) | (with_reducible refine Ext.setCell ?_ ?_ _; rotate_left; focus (first | omega | (simp; done) | (simp; omega))))))⟩
  have b5 : 3000 < (more.size : Int) := by omega
  have d6 : decide (3000 < (more.size : Int)) = true := by simpa using b5
  by_cases b6 : 3000 < s.size
  · have d4 : decide (3000 < s.size) = true := by simpa using b6
    have d5 : decide (s.size ≤ 65536) = false := by simp; omega
    clear h b1 b2 b3 b4 b5 b6
    go_enter Tryz.func5, Tryz.ntmps5
    go_wp2_with (go_at_call 9; refine (sanity_ok _ (RowAt.ext HK.out (by (repeat (first | with_reducible exact Ext.refl _ | with_reducible exact Ext.refl _ | with_reducible refine Ext.drew ?_ | with_reducible refine Ext.drewN ?_ _ | with_reducible refine Ext.alloc ?_ _ | with_reducible refine Ext.onto ?_ _ | (with_reducible refine Ext.setCells ?_ ?_ _ _; rotate_left; focus (first | omega | (simp; done) | (simp; omega))) | (with_reducible refine Ext.setCell ?_ ?_ _; rotate_left; focus (first | omega | (simp; done) | (simp; omega))))))) (RowAt.ext HRK.out (by (repeat (first | with_reducible exact Ext.refl _ | with_reducible exact Ext.refl _ | with_reducible refine Ext.drew ?_ | with_reducible refine Ext.drewN ?_ _ | with_reducible refine Ext.alloc ?_ _ | with_reducible refine Ext.onto ?_ _ | (with_reducible refine Ext.setCells ?_ ?_ _ _; rotate_left; focus (first | omega | (simp; done) | (simp; omega))) | (with_reducible refine Ext.setCell ?_ ?_ _; rotate_left; focus (first | omega | (simp; done) | (simp; omega)))))))).mono ?_; rintro e w' ⟨rfl, hxl⟩; obtain ⟨xl, rfl⟩ := hxl.asLater; clear hxl)
    go_ret
    exact ⟨rfl, (by (repeat (first | with_reducible exact Ext.refl _ | with_reducible exact Ext.refl _ | with_reducible refine Ext.drew ?_ | with_reducible refine Ext.drewN ?_ _ | with_reducible refine Ext.alloc ?_ _ | with_reducible refine Ext.onto ?_ _ | (with_reducible refine Ext.setCells ?_ ?_ _ _; rotate_left; focus (first | omega | (simp; done) | (simp; omega))) | (with_reducible refine Ext.setCell ?_ ?_ _; rotate_left; focus (first | omega | (simp; done) | (simp; omega))))))⟩
  · have d4 : decide (3000 < s.size) = false := by simpa using b6
    clear h b1 b2 b3 b4 b5 b6
    go_enter Tryz.func5, Tryz.ntmps5
    go_wp2_with (go_at_call 9; refine (sanity_ok _ (RowAt.ext HK.out (by (repeat (first | with_reducible exact Ext.refl _ | with_reducible exact Ext.refl _ | with_reducible refine Ext.drew ?_ | with_reducible refine Ext.drewN ?_ _ | with_reducible refine Ext.alloc ?_ _ | with_reducible refine Ext.onto ?_ _ | (with_reducible refine Ext.setCells ?_ ?_ _ _; rotate_left; focus (first | omega | (simp; done) | (simp; omega))) | (with_reducible refine Ext.setCell ?_ ?_ _; rotate_left; focus (first | omega | (simp; done) | (simp; omega))))))) (RowAt.ext HRK.out (by (repeat (first | with_reducible exact Ext.refl _ | with_reducible exact Ext.refl _ | with_reducible refine Ext.drew ?_ | with_reducible refine Ext.drewN ?_ _ | with_reducible refine Ext.alloc ?_ _ | with_reducible refine Ext.onto ?_ _ | (with_reducible refine Ext.setCells ?_ ?_ _ _; rotate_left; focus (first | omega | (simp; done) | (simp; omega))) | (with_reducible refine Ext.setCell ?_ ?_ _; rotate_left; focus (first | omega | (simp; done) | (simp; omega)))))))).mono ?_; rintro e w' ⟨rfl, hxl⟩; obtain ⟨xl, rfl⟩ := hxl.asLater; clear hxl)
    go_ret
    exact ⟨rfl, (by (repeat (first | with_reducible exact Ext.refl _ | with_reducible exact Ext.refl _ | with_reducible refine Ext.drew ?_ | with_reducible refine Ext.drewN ?_ _ | with_reducible refine Ext.alloc ?_ _ | with_reducible refine Ext.onto ?_ _ | (with_reducible refine Ext.setCells ?_ ?_ _ _; rotate_left; focus (first | omega | (simp; done) | (simp; omega))) | (with_reducible refine Ext.setCell ?_ ?_ _; rotate_left; focus (first | omega | (simp; done) | (simp; omega))))))⟩
theorem alloc_setCells_cell (w : World) (c cs : Array Value) (t : TypeId) (b m j : Nat) : ((w.alloc (.cells c t)).setCells b 0 cs.toList).cell? ⟨m, j, none⟩ = if m = b then (if b = w.heap.size then (if cs.size = c.size then cs[j]? else lostCell ((w.alloc (.cells c t)).setCells b 0 cs.toList) m j) else lostCell ((w.alloc (.cells c t)).setCells b 0 cs.toList) m j) else (w.alloc (.cells c t)).cell? ⟨m, j, none⟩ := by
  by_cases h : m = b
  · rw [if_pos h]
    by_cases hb : b = w.heap.size
    · rw [if_pos hb]
      by_cases hs : cs.size = c.size
      · rw [if_pos hs, h]
        exact ((RowAt.newAt hb).store hs).cell j
      · rw [if_neg hs]; rfl
    · rw [if_neg hb]; rfl
  · rw [if_neg h, setCells_cell_if, if_neg (fun k => h k.1)]
attribute [local go_sem ↓] setCells_cell_or
attribute [local go_sem ↓ 2000] alloc_setCells_cell
def putsSoft (e : En) (m : List Sp) (s1 s2 : Int) (base : Nat) : Nat → Soft
  | 0 => .eq (.agg (entC e))
  | 1 => .eq (.agg #[.int .i64 s1, .int .i64 s2])
  | 2 => ownSoft m base
  | 3 => .eq (.agg (entC e))
  | 4 => .eq (.agg #[.int .i64 s1, .int .i64 s2])
  | 5 => ownSoft m base
  | _ => .eq (.bool true)
theorem missN_len (e : En) (l : List Sp) (s1 s2 : Int) (h0 : 0 ≤ e.st.size) (h1 : e.st.size ≤ 65536) : (missN e l s1 s2).length ≤ 65536 := by
  unfold missN
  split
  · simp
  · have h := rMissing_spec l (max s1 0, min s2 e.st.size)
    have h2 : SetIn (rMissing l (max s1 0, min s2 e.st.size)) e.st.size := SetIn.of_mem h.1 (fun x hx => by
      have k1 : max s1 0 ≤ x := ((h.2 x).1 hx).1.1
      have k2 : x < min s2 e.st.size := ((h.2 x).1 hx).1.2
      omega)
    have := h2.len h0
    omega
def smallD (s : St) (more : ByteArray) : Prop := decide (5000 < (s.addr.size : Int)) = false ∧ decide (5000 < (s.var.size : Int)) = false ∧ decide (5000 < (s.tags.size : Int)) = false ∧ decide (3000 < (more.size : Int)) = false
set_option maxRecDepth 100000 in
set_option maxHeartbeats 1000000 in
theorem puts_a (s : St) (e : En) (A : Option Addr) (c : Nat) (l : List Sp) (f : Int) (more : ByteArray) (s1 s2 : Int) (w : World) (hs : StIn s) (hi : EntIn e A c l w) (hk : Konst 0 w) (hrk : RKonst w)
    (hsm : smallD s more) (hf : -9223372036854775808 ≤ f ∧ f ≤ 9223372036854775807) (d4 : decide (3000 < s.size) = false) :
    Calls Tryz.prog 5 #[.agg (stmC s), .agg (entC e), .int .i64 f, .string more, .agg #[.int .i64 s1, .int .i64 s2]] w fun e' w' => e' = .returned (.bool true) ∧ Ext w w' := by
  have HK := Lib.hid hk
  have HRK := Lib.hid hrk
  have HI := Lib.hid hi
  have HS := Lib.hid hs
  obtain ⟨d1, d2, d3, d6⟩ := hsm
  have hmore : more.size ≤ 3000 := by simp at d6; omega
  have hfit : fitsRow 45 (entC e) = true := ent_fits_of hi.hv
  obtain ⟨⟨x, xn⟩, hx⟩ : ∃ p, beginN s = p := ⟨_, rfl⟩
  have hxv : x.hv = .slice none 0 0 := by have := begin_hv s; rw [hx] at this; exact this
  have HXI : Hid (StIn x.st) := Lib.hid (by have := begin_in hs; rw [hx] at this; exact this)
  have HX0 : Hid (xn = 0 → validB x [] = true) := Lib.hid (fun h => by have := begin_val (s := s) (by rw [hx]; exact h); rw [hx] at this; exact this)
  have HXB : Hid (xn = 0 → x.bytes.size ≤ 65536) := Lib.hid (fun h => by have := begin_bytes (s := s) (by rw [hx]; exact h); rw [hx] at this; exact this)
  have HB1 := Lib.hid (fun W hK => beginE_any s W hs.h1 hs.h2 hs.h3 hs.hb hs.hby hK)
  have HB2 := Lib.hid (fun W hK => rbegin_any s W hs.h1 hs.h2 hs.h3 hs.hb hs.hby hK)
  rw [hx] at HB1 HB2
  have hxf : fitsRow 45 (entC x) = true := ent_fits_of hxv
  have hxg : fitsRow 46 (gotC x xn) = true := got_fits_of xn hxv
  have HSm : Hid (∀ W, Calls Tryz.prog 17 #[.agg (entC x), .agg (entC x)] W fun e' w' => e' = .returned (.bool true) ∧ Ext W w') := Lib.hid (fun W => by
    have h := same_any x none none 0 0 [] W hxv (by decide) (Reads.nil _ _ _ _ _) (Reads.nil _ _ _ _ _)
    rw [List.length_nil, hv_same hxv] at h
    exact h)
  clear hk hrk hi hs hx
  go_enter Tryz.func5, Tryz.ntmps5
  go_wp2_with (first
    | (go_at_call 18; refine (show Hid _ from ?_).out)
    | (go_at_call 19; refine (show Hid _ from ?_).out)
    | (go_at_call 17; refine (show Hid _ from ?_).out)
    | (go_at_call 20; refine (show Hid _ from ?_).out)
    | (go_at_call 21; refine (show Hid _ from ?_).out)
    | (go_at_call 22; refine (show Hid _ from ?_).out)
    | (go_at_call 23; refine (show Hid _ from ?_).out)
    | (go_at_call 24; refine (show Hid _ from ?_).out)
    | (go_at_call 9; refine (show Hid _ from ?_).out))
  refine Lib.hid ?_
  refine calls_world (fun W => Ext w W ∧ RowAt W w.heap.size (stmC s) ∧ RowAt W (w.heap.size + 1) (entC e) ∧ RowAt W (w.heap.size + 1 + 1) #[.int .i64 s1, .int .i64 s2]) ⟨(by (repeat (first | with_reducible exact Ext.refl _ | with_reducible exact Ext.refl _ | with_reducible refine Ext.drew ?_ | with_reducible refine Ext.drewN ?_ _ | with_reducible refine Ext.alloc ?_ _ | with_reducible refine Ext.onto ?_ _ | (with_reducible refine Ext.setCells ?_ ?_ _ _; rotate_left; focus (first | omega | (simp; done) | (simp; omega))) | (with_reducible refine Ext.setCell ?_ ?_ _; rotate_left; focus (first | omega | (simp; done) | (simp; omega)))))), ((RowAt.new _ _ _).alloc _).alloc _, (RowAt.newAt (by simp)).alloc _, RowAt.newAt (by simp)⟩ ?_
  rintro W0 ⟨x0, r0s, r0e, r0p⟩
  have HX00 := Lib.hid x0
  have HRs := Lib.hid r0s
  have HRe := Lib.hid r0e
  have HRp := Lib.hid r0p
  have hl0 := r0s.lt
  have hl1 := r0e.lt
  have hl2 := r0p.lt
  have row0 : rowOf W0 w.heap.size 0 41 = some (stmC s) := r0s.all (stm_size _).symm (by omega)
  have row0e : rowOf W0 (w.heap.size + 1) 0 45 = some (entC e) := r0e.all (ent_size _).symm (by omega)
  clear d1 d2 d3 d4 d6 r0s r0e r0p
  refine (HB1.out _ (RowAt.ext HK.out x0)).mono ?_
  clear x0
  rintro e' w' ⟨rfl, hxl⟩; obtain ⟨xa, rfl⟩ := hxl.asLater; clear hxl
  go_wp2_with (first
    | (go_at_call 18; refine (show Hid _ from ?_).out)
    | (go_at_call 19; refine (show Hid _ from ?_).out)
    | (go_at_call 17; refine (show Hid _ from ?_).out)
    | (go_at_call 20; refine (show Hid _ from ?_).out)
    | (go_at_call 21; refine (show Hid _ from ?_).out)
    | (go_at_call 22; refine (show Hid _ from ?_).out)
    | (go_at_call 23; refine (show Hid _ from ?_).out)
    | (go_at_call 24; refine (show Hid _ from ?_).out)
    | (go_at_call 9; refine (show Hid _ from ?_).out))
  refine Lib.hid ?_
  refine calls_world (fun W => Ext W0 W ∧ RowAt W (W0.heap.size + xa.n) (entC x)) ⟨Ext.setCells ((ext_later W0 xa).alloc _) (by simp [later_size] <;> omega) _ _, (RowAt.newAt (cs := entC noEn) (t := 31) (by simp [later_size])).store (by rw [ent_size, ent_size])⟩ ?_
  generalize W0.heap.size + xa.n = B1
  rintro W1 ⟨x1, r1⟩
  have HX1 := Lib.hid x1
  have HR1 := Lib.hid r1
  have hlB1 := r1.lt
  have row1 : rowOf W1 B1 0 45 = some (entC x) := r1.all (ent_size _).symm (by omega)
  clear row0 row0e r1
  refine (HB2.out _ (RowAt.ext HRK.out (HX00.out.trans x1))).mono ?_
  clear x1
  rintro e' w' ⟨rfl, hxl⟩; obtain ⟨xb, rfl⟩ := hxl.asLater; clear hxl
  go_upto_region 5 with (fail)
  refine wp_world (fun W => Ext W0 W ∧ RowAt W B1 (entC x) ∧ RowAt W (W1.heap.size + xb.n) (gotC x xn)) ⟨Ext.setCells ((HX1.out.onto xb).alloc _) (by have := HX1.out.size; omega) _ _, RowAt.others ((HR1.out.later _).alloc _) (by omega) _ _, RowAt.store (RowAt.newAt (cs := gotC noEn 0) (t := 62) (by simp [later_size])) (by rw [got_size, got_size])⟩ ?_
  generalize W1.heap.size + xb.n = B2
  rintro W2 ⟨x2, r1, r2⟩
  have HX2 := Lib.hid x2
  have HR12 := Lib.hid r1
  have HR2 := Lib.hid r2
  have hlB2 := r2.lt
  have hlB12 := r1.lt
  have row12 : rowOf W2 B1 0 45 = some (entC x) := r1.all (ent_size _).symm (by omega)
  have rowg : rowOf W2 B2 0 45 = some (entC x) := by rw [r2.row, if_neg (by omega), got_ent]
  have c45 : W2.cell? ⟨B2, 45, none⟩ = some (.int .i64 xn) := r2.cell 45
  have rowe : rowOf W2 (w.heap.size + 1) 0 45 = some (entC e) := (HRe.out.ext x2).all (ent_size _).symm (by omega)
  clear x2 r1 r2 row1 hlB1 HX1 HR1
  have hsz2 := HX2.out.size
  go_wp2_with (first
    | (go_at_call 18; refine (show Hid _ from ?_).out)
    | (go_at_call 19; refine (show Hid _ from ?_).out)
    | (go_at_call 17; refine (show Hid _ from ?_).out)
    | (go_at_call 20; refine (show Hid _ from ?_).out)
    | (go_at_call 21; refine (show Hid _ from ?_).out)
    | (go_at_call 22; refine (show Hid _ from ?_).out)
    | (go_at_call 23; refine (show Hid _ from ?_).out)
    | (go_at_call 24; refine (show Hid _ from ?_).out)
    | (go_at_call 9; refine (show Hid _ from ?_).out))
  refine Lib.hid ?_
  refine (HSm.out _).mono ?_
  rintro e' w' ⟨rfl, hxl⟩; obtain ⟨xc, rfl⟩ := hxl.asLater; clear hxl
  by_cases hz : xn = 0
  · subst hz
    have HVx := Lib.hid (HX0.out rfl)
    have HBx := Lib.hid (HXB.out rfl)
    go_wp2_with (first
      | (go_at_call 18; refine (show Hid _ from ?_).out)
      | (go_at_call 19; refine (show Hid _ from ?_).out)
      | (go_at_call 17; refine (show Hid _ from ?_).out)
      | (go_at_call 20; refine (show Hid _ from ?_).out)
      | (go_at_call 21; refine (show Hid _ from ?_).out)
      | (go_at_call 22; refine (show Hid _ from ?_).out)
      | (go_at_call 23; refine (show Hid _ from ?_).out)
      | (go_at_call 24; refine (show Hid _ from ?_).out)
      | (go_at_call 9; refine (show Hid _ from ?_).out))
    refine Lib.hid ?_
    refine (rvalidE_any x none 0 [] _ hxv (by decide) HXI.out.h1 HXI.out.h2 HXI.out.h3 (by have := HBx.out; omega) HXI.out.hb HXI.out.hby (RowAt.ext HRK.out ((HX00.out.trans HX2.out).onto _)) (Reads.nil _ _ _ _ _)).mono ?_
    rw [HVx.out]
    rintro e' w' ⟨rfl, hxl⟩; obtain ⟨xz, rfl⟩ := hxl.asLater; clear hxl
    go_wp2_with (first
      | (go_at_call 18; refine (show Hid _ from ?_).out)
      | (go_at_call 19; refine (show Hid _ from ?_).out)
      | (go_at_call 17; refine (show Hid _ from ?_).out)
      | (go_at_call 20; refine (show Hid _ from ?_).out)
      | (go_at_call 21; refine (show Hid _ from ?_).out)
      | (go_at_call 22; refine (show Hid _ from ?_).out)
      | (go_at_call 23; refine (show Hid _ from ?_).out)
      | (go_at_call 24; refine (show Hid _ from ?_).out)
      | (go_at_call 9; refine (show Hid _ from ?_).out))
    refine Lib.hid ?_
    refine calls_world (fun W => Ext w W ∧ RowAt W (w.heap.size + 1) (entC e) ∧ RowAt W (w.heap.size + 1 + 1) #[.int .i64 s1, .int .i64 s2]) ⟨(HX00.out.trans HX2.out).onto _, (HRe.out.ext HX2.out).later _, (HRp.out.ext HX2.out).later _⟩ ?_
    rintro W3 ⟨x3, r3e, r3p⟩
    have HX3 := Lib.hid x3
    have HR3e := Lib.hid r3e
    have HR3p := Lib.hid r3p
    have hl3e := r3e.lt
    have hl3p := r3p.lt
    have row3 : rowOf W3 (w.heap.size + 1) 0 45 = some (entC e) := r3e.all (ent_size _).symm (by omega)
    clear x3 r3e r3p
    cases hli : lightB e l.length with
    | false =>
      have HLi := Lib.hid hli
      clear hli
      refine (light_any e A l.length c _ HI.out.hv HI.out.h4 HI.out.hl HI.out.h1 HI.out.h2 HI.out.h3).mono ?_
      rw [HLi.out]
      rintro e' w' ⟨rfl, hxl⟩; obtain ⟨xd, rfl⟩ := hxl.asLater; clear hxl
      go_wp2_with (first
        | (go_at_call 18; refine (show Hid _ from ?_).out)
        | (go_at_call 19; refine (show Hid _ from ?_).out)
        | (go_at_call 17; refine (show Hid _ from ?_).out)
        | (go_at_call 20; refine (show Hid _ from ?_).out)
        | (go_at_call 21; refine (show Hid _ from ?_).out)
        | (go_at_call 22; refine (show Hid _ from ?_).out)
        | (go_at_call 23; refine (show Hid _ from ?_).out)
        | (go_at_call 24; refine (show Hid _ from ?_).out)
        | (go_at_call 9; refine (show Hid _ from ?_).out))
      refine Lib.hid ?_
      refine (sanity_ok _ (RowAt.ext HK.out (HX3.out.onto _)) (RowAt.ext HRK.out (HX3.out.onto _))).mono ?_
      rintro e' w' ⟨rfl, hxl⟩; obtain ⟨xe, rfl⟩ := hxl.asLater; clear hxl
      go_wp2
      go_ret
      exact ⟨rfl, HX3.out.onto _⟩
    | true =>
      have hlb := hli
      simp only [lightB, Bool.and_eq_true, decide_eq_true_eq] at hlb
      have HLi := Lib.hid hli
      clear hli
      refine (light_any e A l.length c _ HI.out.hv HI.out.h4 HI.out.hl HI.out.h1 HI.out.h2 HI.out.h3).mono ?_
      rw [HLi.out]
      rintro e' w' ⟨rfl, hxl⟩; obtain ⟨xd, rfl⟩ := hxl.asLater; clear hxl
      go_wp2_with (first
        | (go_at_call 18; refine (show Hid _ from ?_).out)
        | (go_at_call 19; refine (show Hid _ from ?_).out)
        | (go_at_call 17; refine (show Hid _ from ?_).out)
        | (go_at_call 20; refine (show Hid _ from ?_).out)
        | (go_at_call 21; refine (show Hid _ from ?_).out)
        | (go_at_call 22; refine (show Hid _ from ?_).out)
        | (go_at_call 23; refine (show Hid _ from ?_).out)
        | (go_at_call 24; refine (show Hid _ from ?_).out)
        | (go_at_call 9; refine (show Hid _ from ?_).out))
      refine Lib.hid ?_
      obtain ⟨vv, hvv⟩ : ∃ vv, validB e l = vv := ⟨_, rfl⟩
      have HVV := Lib.hid hvv
      clear hvv
      refine (rvalidE_any e A c l _ HI.out.hv (by omega) HI.out.h1 HI.out.h2 HI.out.h3 (by omega) HI.out.hb HI.out.hby (RowAt.ext HRK.out (HX3.out.onto _)) (HI.out.hr.on (HX3.out.onto _))).mono ?_
      rw [HVV.out]
      rintro e' w' ⟨rfl, hxl⟩; obtain ⟨xe, rfl⟩ := hxl.asLater; clear hxl
      go_wp2_with (first
        | (go_at_call 18; refine (show Hid _ from ?_).out)
        | (go_at_call 19; refine (show Hid _ from ?_).out)
        | (go_at_call 17; refine (show Hid _ from ?_).out)
        | (go_at_call 20; refine (show Hid _ from ?_).out)
        | (go_at_call 21; refine (show Hid _ from ?_).out)
        | (go_at_call 22; refine (show Hid _ from ?_).out)
        | (go_at_call 23; refine (show Hid _ from ?_).out)
        | (go_at_call 24; refine (show Hid _ from ?_).out)
        | (go_at_call 9; refine (show Hid _ from ?_).out))
      refine Lib.hid ?_
      refine (evalid_any e A c l _ HI.out.hv (by omega) HI.out.h1 HI.out.h2 HI.out.h3 (by omega) HI.out.hb HI.out.hby (RowAt.ext HK.out ((HX3.out.onto _).onto _)) (HI.out.hr.on ((HX3.out.onto _).onto _)) HI.out.z).mono ?_
      rw [HVV.out]
      rintro e' w' ⟨rfl, hxl⟩; obtain ⟨xg, rfl⟩ := hxl.asLater; clear hxl
      cases vv with
      | false =>
        go_wp2_with (first
          | (go_at_call 18; refine (show Hid _ from ?_).out)
          | (go_at_call 19; refine (show Hid _ from ?_).out)
          | (go_at_call 17; refine (show Hid _ from ?_).out)
          | (go_at_call 20; refine (show Hid _ from ?_).out)
          | (go_at_call 21; refine (show Hid _ from ?_).out)
          | (go_at_call 22; refine (show Hid _ from ?_).out)
          | (go_at_call 23; refine (show Hid _ from ?_).out)
          | (go_at_call 24; refine (show Hid _ from ?_).out)
          | (go_at_call 9; refine (show Hid _ from ?_).out))
        refine Lib.hid ?_
        refine (sanity_ok _ (RowAt.ext HK.out (HX3.out.onto _)) (RowAt.ext HRK.out (HX3.out.onto _))).mono ?_
        rintro e' w' ⟨rfl, hxl⟩; obtain ⟨xi, rfl⟩ := hxl.asLater; clear hxl
        go_wp2
        go_ret
        exact ⟨rfl, HX3.out.onto _⟩
      | true =>
        go_wp2_with (first
          | (go_at_call 18; refine (show Hid _ from ?_).out)
          | (go_at_call 19; refine (show Hid _ from ?_).out)
          | (go_at_call 17; refine (show Hid _ from ?_).out)
          | (go_at_call 20; refine (show Hid _ from ?_).out)
          | (go_at_call 21; refine (show Hid _ from ?_).out)
          | (go_at_call 22; refine (show Hid _ from ?_).out)
          | (go_at_call 23; refine (show Hid _ from ?_).out)
          | (go_at_call 24; refine (show Hid _ from ?_).out)
          | (go_at_call 9; refine (show Hid _ from ?_).out))
        refine Lib.hid ?_
        obtain ⟨r, hr⟩ : ∃ r, putN e l f more = r := ⟨_, rfl⟩
        have hval := val_iff.1 HVV.out
        have hvlen := hval.len
        have hpst := (put_st e l f more).1
        have hpv := put_val hval f more
        have HPa := Lib.hid (fun W hK hR => eput_any e A c l f more W HI.out.hv hval hf (by omega) HI.out.hb HI.out.hby hK HI.out.hA HI.out.z hR)
        have HPb := Lib.hid (fun W hK hR => rput_any e A c l f more W HI.out.hv hval hf (by omega) HI.out.hb HI.out.hby hK HI.out.hA HI.out.z hR)
        rw [hr] at hpst hpv HPa HPb
        obtain ⟨re, rl, rn⟩ := r
        have hrlen : rl.length ≤ 65536 := hpv.len
        have hrby : (re.bytes.size : Int) = re.st.size := hpv.bs
        have hrsz : re.st.size ≤ 65536 := hpv.sz
        have HRV : Hid (validB re rl = true) := Lib.hid (val_iff.2 hpv)
        have HST : Hid (re.st = e.st) := Lib.hid hpst
        have HSI : Hid (SetIn l e.st.size) := Lib.hid hval.si
        have hz0 := hval.z0
        have hz1 := hval.sz
        clear hval hpst hpv hr
        refine (HPa.out _ (RowAt.ext HK.out (HX3.out.onto _)) (HI.out.hr.on (HX3.out.onto _))).mono ?_
        rintro e' w' ⟨A1, c1, rfl, _, _, hr1, hx1⟩
        have HQ1 := Lib.hid hr1
        obtain ⟨xh, rfl⟩ := hx1.asLater
        obtain ⟨y, hy⟩ : ∃ y, ({ re with hv := .slice A1 rl.length c1 } : En) = y := ⟨_, rfl⟩
        have hvy : y.hv = .slice A1 rl.length c1 := by rw [← hy]
        have hfy : fitsRow 45 (entC y) = true := ent_fits_of hvy
        have HY := Lib.hid hy
        simp only [hy]
        clear hr1 hx1 hy HPa
        go_wp2_with (first
          | (go_at_call 18; refine (show Hid _ from ?_).out)
          | (go_at_call 19; refine (show Hid _ from ?_).out)
          | (go_at_call 17; refine (show Hid _ from ?_).out)
          | (go_at_call 20; refine (show Hid _ from ?_).out)
          | (go_at_call 21; refine (show Hid _ from ?_).out)
          | (go_at_call 22; refine (show Hid _ from ?_).out)
          | (go_at_call 23; refine (show Hid _ from ?_).out)
          | (go_at_call 24; refine (show Hid _ from ?_).out)
          | (go_at_call 9; refine (show Hid _ from ?_).out))
        refine Lib.hid ?_
        refine calls_world (fun W => Ext W3 W ∧ RowAt W (W3.heap.size + (((xd.comp xe).comp xg).comp xh).n) (entC y) ∧ ReadsSp W W.heap.size A1 rl) ⟨(by (repeat (first | with_reducible exact Ext.refl _ | with_reducible exact Ext.refl _ | with_reducible refine Ext.drew ?_ | with_reducible refine Ext.drewN ?_ _ | with_reducible refine Ext.alloc ?_ _ | with_reducible refine Ext.onto ?_ _ | (with_reducible refine Ext.setCells ?_ ?_ _ _; rotate_left; focus (first | omega | (simp; done) | (simp; omega))) | (with_reducible refine Ext.setCell ?_ ?_ _; rotate_left; focus (first | omega | (simp; done) | (simp; omega)))))), (RowAt.newAt (cs := entC noEn) (t := 31) (by simp [later_size])).store (by rw [ent_size, ent_size]), HQ1.out.on (Ext.setCells ((Ext.refl _).alloc _) (by simp only [later_size, Later.comp_n] <;> omega) _ _)⟩ ?_
        generalize W3.heap.size + (((xd.comp xe).comp xg).comp xh).n = B5
        rintro W4 ⟨x4, r4, q4⟩
        have HX4 := Lib.hid x4
        have HR4 := Lib.hid r4
        have HQ4 := Lib.hid q4
        have hl4 := r4.lt
        clear x4 r4 q4 HQ1
        refine (HPb.out _ (RowAt.ext HRK.out (HX3.out.trans HX4.out)) (HI.out.hr.on (HX3.out.trans HX4.out))).mono ?_
        rintro e' w' ⟨A2, c2, rfl, _, _, hr2, hx2⟩
        have HQ2 := Lib.hid hr2
        obtain ⟨xj, rfl⟩ := hx2.asLater
        obtain ⟨z, hzz⟩ : ∃ z, ({ re with hv := .slice A2 rl.length c2 } : En) = z := ⟨_, rfl⟩
        have hvz : z.hv = .slice A2 rl.length c2 := by rw [← hzz]
        have hfz : fitsRow 46 (gotC z rn) = true := got_fits_of rn hvz
        have HZz := Lib.hid hzz
        simp only [hzz]
        clear hr2 hx2 hzz HPb
        go_upto_region 17 with (fail)
        refine wp_world (fun W => Ext W4 W ∧ RowAt W (W4.heap.size + xj.n) (gotC z rn) ∧ ReadsSp W W.heap.size A2 rl) ⟨(by (repeat (first | with_reducible exact Ext.refl _ | with_reducible exact Ext.refl _ | with_reducible refine Ext.drew ?_ | with_reducible refine Ext.drewN ?_ _ | with_reducible refine Ext.alloc ?_ _ | with_reducible refine Ext.onto ?_ _ | (with_reducible refine Ext.setCells ?_ ?_ _ _; rotate_left; focus (first | omega | (simp; done) | (simp; omega))) | (with_reducible refine Ext.setCell ?_ ?_ _; rotate_left; focus (first | omega | (simp; done) | (simp; omega)))))), RowAt.store (RowAt.newAt (cs := gotC noEn 0) (t := 62) (by simp [later_size])) (by rw [got_size, got_size]), HQ2.out.on (Ext.setCells ((Ext.refl _).alloc _) (by simp only [later_size, Later.comp_n] <;> omega) _ _)⟩ ?_
        generalize W4.heap.size + xj.n = B6
        rintro W5 ⟨x5, r5, q5⟩
        have HX5 := Lib.hid x5
        have HR5 := Lib.hid r5
        have HQ5 := Lib.hid q5
        have HXa : Hid (Ext w W5) := Lib.hid ((HX3.out.trans HX4.out).trans x5)
        have row5 : rowOf W5 (w.heap.size + 1) 0 45 = some (entC e) := ((HR3e.out.ext HX4.out).ext x5).all (ent_size _).symm (by omega)
        have p0 : W5.cell? ⟨w.heap.size + 1 + 1, 0, none⟩ = some (.int .i64 s1) := ((HR3p.out.ext HX4.out).ext x5).cell 0
        have p1 : W5.cell? ⟨w.heap.size + 1 + 1, 1, none⟩ = some (.int .i64 s2) := ((HR3p.out.ext HX4.out).ext x5).cell 1
        have hl5 := r5.lt
        have hl5e := ((HR3p.out.ext HX4.out).ext x5).lt
        clear x5 r5 q5 HQ2 row3 hl3e hl3p
        obtain ⟨mm, hmm⟩ : ∃ mm, missN e l s1 s2 = mm := ⟨_, rfl⟩
        have HM1 := Lib.hid (fun W hR => emissE_any e A c l s1 s2 W HI.out.hv hz0 hz1 HSI.out.1 (HSI.out.bd2 (by omega)) hvlen hR HI.out.z)
        have HM2 := Lib.hid (fun W hR => rmissE_any e A c l s1 s2 W HI.out.hv hz0 hz1 hvlen hR)
        have hmlen : mm.length ≤ 65536 := by rw [← hmm]; exact missN_len e l s1 s2 hz0 hz1
        rw [hmm] at HM1 HM2
        clear hmm
        refine wp_region_soft 7 (putsSoft e mm s1 s2 W5.heap.size) (by kernel_rfl) (by kernel_rfl) (lt_cons ?_ (lt_cons ?_ (lt_cons ?_ (lt_cons ?_ (lt_cons ?_ (lt_cons ?_ (lt_cons ?_ lt_none))))))) ?_
        ·
          intro o ho xs W hW hd Q' hQ; obtain rfl := Option.some.inj ho; clear ho; simp only [fillAt, dstOf, List.getElem?_cons_zero, List.getElem?_cons_succ, Option.bind_some, Act.put, List.setIfInBounds_toArray, List.set_cons_zero, List.set_cons_succ, Nat.zero_add, Nat.reduceAdd] at hQ ⊢; have HQ := Lib.hid hQ; have HD := Lib.hid hd; have HW := Lib.hid hW; have hsW := hW.size; clear hQ hd hW
          have hrw : rowOf W (w.heap.size + 1) 0 45 = some (entC e) := (rowOf_congr (fun i _ => HW.out.cell (p := ⟨w.heap.size + 1, 0 + i, none⟩) (by show w.heap.size + 1 < _; omega))).trans row5
          go_wp2
          exact HQ.out _ _ (Ext.refl _) rfl
        ·
          intro o ho xs W hW hd Q' hQ; obtain rfl := Option.some.inj ho; clear ho; simp only [fillAt, dstOf, List.getElem?_cons_zero, List.getElem?_cons_succ, Option.bind_some, Act.put, List.setIfInBounds_toArray, List.set_cons_zero, List.set_cons_succ, Nat.zero_add, Nat.reduceAdd] at hQ ⊢; have HQ := Lib.hid hQ; have HD := Lib.hid hd; have HW := Lib.hid hW; have hsW := hW.size; clear hQ hd hW
          have hc0 : W.cell? ⟨w.heap.size + 1 + 1, 0, none⟩ = some (.int .i64 s1) := (HW.out.cell (p := ⟨w.heap.size + 1 + 1, 0, none⟩) hl5e).trans p0
          have hc1 : W.cell? ⟨w.heap.size + 1 + 1, 1, none⟩ = some (.int .i64 s2) := (HW.out.cell (p := ⟨w.heap.size + 1 + 1, 1, none⟩) hl5e).trans p1
          go_wp2
          exact HQ.out _ _ (Ext.refl _) rfl
        ·
          intro o ho xs W hW hd Q' hQ; obtain rfl := Option.some.inj ho; clear ho; simp only [fillAt, dstOf, List.getElem?_cons_zero, List.getElem?_cons_succ, Option.bind_some, Act.put, List.setIfInBounds_toArray, List.set_cons_zero, List.set_cons_succ, Nat.zero_add, Nat.reduceAdd] at hQ ⊢; have HQ := Lib.hid hQ; have HD := Lib.hid hd; have HW := Lib.hid hW; have hsW := hW.size; clear hQ hd hW
          have hd0 : xs 0 = .agg (entC e) := (HD.out 0 (of_decide_eq_true (by kernel_rfl)))
          generalize xs 0 = x0 at hd0 HQ ⊢; subst hd0
          have hd1 : xs 1 = .agg #[.int .i64 s1, .int .i64 s2] := (HD.out 1 (of_decide_eq_true (by kernel_rfl)))
          generalize xs 1 = x1 at hd1 HQ ⊢; subst hd1
          go_wp2_with (go_at_call 26; refine (HM1.out _ (HI.out.hr.on (HXa.out.trans HW.out))).mono ?_; rintro e1 w1 ⟨A5, c5, out, rfl, HO5, ho5, hx⟩)
          obtain rfl := HO5.out
          exact HQ.out _ _ hx ⟨A5, c5, rfl, ho5.lower hsW⟩
        ·
          intro o ho xs W hW hd Q' hQ; obtain rfl := Option.some.inj ho; clear ho; simp only [fillAt, dstOf, List.getElem?_cons_zero, List.getElem?_cons_succ, Option.bind_some, Act.put, List.setIfInBounds_toArray, List.set_cons_zero, List.set_cons_succ, Nat.zero_add, Nat.reduceAdd] at hQ ⊢; have HQ := Lib.hid hQ; have HD := Lib.hid hd; have HW := Lib.hid hW; have hsW := hW.size; clear hQ hd hW
          have hrw : rowOf W (w.heap.size + 1) 0 45 = some (entC e) := (rowOf_congr (fun i _ => HW.out.cell (p := ⟨w.heap.size + 1, 0 + i, none⟩) (by show w.heap.size + 1 < _; omega))).trans row5
          go_wp2
          exact HQ.out _ _ (Ext.refl _) rfl
        ·
          intro o ho xs W hW hd Q' hQ; obtain rfl := Option.some.inj ho; clear ho; simp only [fillAt, dstOf, List.getElem?_cons_zero, List.getElem?_cons_succ, Option.bind_some, Act.put, List.setIfInBounds_toArray, List.set_cons_zero, List.set_cons_succ, Nat.zero_add, Nat.reduceAdd] at hQ ⊢; have HQ := Lib.hid hQ; have HD := Lib.hid hd; have HW := Lib.hid hW; have hsW := hW.size; clear hQ hd hW
          have hc0 : W.cell? ⟨w.heap.size + 1 + 1, 0, none⟩ = some (.int .i64 s1) := (HW.out.cell (p := ⟨w.heap.size + 1 + 1, 0, none⟩) hl5e).trans p0
          have hc1 : W.cell? ⟨w.heap.size + 1 + 1, 1, none⟩ = some (.int .i64 s2) := (HW.out.cell (p := ⟨w.heap.size + 1 + 1, 1, none⟩) hl5e).trans p1
          go_wp2
          exact HQ.out _ _ (Ext.refl _) rfl
        ·
          intro o ho xs W hW hd Q' hQ; obtain rfl := Option.some.inj ho; clear ho; simp only [fillAt, dstOf, List.getElem?_cons_zero, List.getElem?_cons_succ, Option.bind_some, Act.put, List.setIfInBounds_toArray, List.set_cons_zero, List.set_cons_succ, Nat.zero_add, Nat.reduceAdd] at hQ ⊢; have HQ := Lib.hid hQ; have HD := Lib.hid hd; have HW := Lib.hid hW; have hsW := hW.size; clear hQ hd hW
          have hd3 : xs 3 = .agg (entC e) := (HD.out 3 (of_decide_eq_true (by kernel_rfl)))
          generalize xs 3 = x3 at hd3 HQ ⊢; subst hd3
          have hd4 : xs 4 = .agg #[.int .i64 s1, .int .i64 s2] := (HD.out 4 (of_decide_eq_true (by kernel_rfl)))
          generalize xs 4 = x4 at hd4 HQ ⊢; subst hd4
          go_wp2_with (go_at_call 27; refine (HM2.out _ (HI.out.hr.on (HXa.out.trans HW.out))).mono ?_; rintro e1 w1 ⟨A5, c5, out, rfl, HO5, ho5, hx⟩)
          obtain rfl := HO5.out
          exact HQ.out _ _ hx ⟨A5, c5, rfl, ho5.lower hsW⟩
        ·
          intro o ho xs W hW hd Q' hQ; obtain rfl := Option.some.inj ho; clear ho; simp only [fillAt, dstOf, List.getElem?_cons_zero, List.getElem?_cons_succ, Option.bind_some, Act.put, List.setIfInBounds_toArray, List.set_cons_zero, List.set_cons_succ, Nat.zero_add, Nat.reduceAdd] at hQ ⊢; have HQ := Lib.hid hQ; have HD := Lib.hid hd; have HW := Lib.hid hW; have hsW := hW.size; clear hQ hd hW
          obtain ⟨A5, c5, h2, ho2⟩ : (ownSoft mm W5.heap.size).S (xs 2) W := (HD.out 2 (of_decide_eq_true (by kernel_rfl)))
          generalize xs 2 = x2 at h2 HQ ⊢; subst h2
          obtain ⟨A6, c6, h5, ho5⟩ : (ownSoft mm W5.heap.size).S (xs 5) W := (HD.out 5 (of_decide_eq_true (by kernel_rfl)))
          generalize xs 5 = x5 at h5 HQ ⊢; subst h5
          have HO2 := Lib.hid ho2
          have HO5 := Lib.hid ho5
          clear ho2 ho5
          go_wp2_with (go_at_call 25; refine (rsame_any A5 A6 c5 c6 mm _ (by omega) (HO2.out.reads spE) (HO5.out.reads spE)).mono ?_; rintro e1 w1 ⟨rfl, hx⟩)
          exact HQ.out _ _ hx rfl
        ·
          intro xs W6 hW hSS
          have h6 : xs 6 = .bool true := hSS 6 (by omega)
          simp only [fillAt, dstOf, List.getElem?_cons_zero, List.getElem?_cons_succ, Option.bind_some, Act.put, List.setIfInBounds_toArray, List.set_cons_zero, List.set_cons_succ, Nat.zero_add, Nat.reduceAdd, List.drop_succ_cons, List.drop_zero]
          generalize xs 6 = x6 at *; subst h6
          clear hSS row5 p0 p1
          have HX6 : Hid (Ext w W6) := Lib.hid (HXa.out.trans hW)
          have hr6 := HR5.out.ext hW
          have hy6 := (HR4.out.ext HX5.out).ext hW
          have rowy : rowOf W6 B5 0 45 = some (entC y) := hy6.all (ent_size _).symm (by omega)
          have rowz : rowOf W6 B6 0 45 = some (entC z) := by rw [hr6.row, if_neg (by omega), got_ent]
          have c45' : W6.cell? ⟨B6, 45, none⟩ = some (.int .i64 rn) := hr6.cell 45
          have hl6 := hr6.lt
          have hl6y := hy6.lt
          have HQy : Hid (ReadsSp W6 W6.heap.size A1 rl) := Lib.hid (HQ4.out.on (HX5.out.trans hW))
          have HQz : Hid (ReadsSp W6 W6.heap.size A2 rl) := Lib.hid (HQ5.out.on hW)
          clear hr6 hy6 hW HM1 HM2
          go_wp2_with (first
            | (go_at_call 18; refine (show Hid _ from ?_).out)
            | (go_at_call 19; refine (show Hid _ from ?_).out)
            | (go_at_call 17; refine (show Hid _ from ?_).out)
            | (go_at_call 20; refine (show Hid _ from ?_).out)
            | (go_at_call 21; refine (show Hid _ from ?_).out)
            | (go_at_call 22; refine (show Hid _ from ?_).out)
            | (go_at_call 23; refine (show Hid _ from ?_).out)
            | (go_at_call 24; refine (show Hid _ from ?_).out)
            | (go_at_call 9; refine (show Hid _ from ?_).out))
          refine Lib.hid ?_
          refine (sanity_ok _ (RowAt.ext HK.out HX6.out) (RowAt.ext HRK.out HX6.out)).mono ?_
          rintro e' w' ⟨rfl, hxl⟩; obtain ⟨xk, rfl⟩ := hxl.asLater; clear hxl
          go_wp2_with (first
            | (go_at_call 18; refine (show Hid _ from ?_).out)
            | (go_at_call 19; refine (show Hid _ from ?_).out)
            | (go_at_call 17; refine (show Hid _ from ?_).out)
            | (go_at_call 20; refine (show Hid _ from ?_).out)
            | (go_at_call 21; refine (show Hid _ from ?_).out)
            | (go_at_call 22; refine (show Hid _ from ?_).out)
            | (go_at_call 23; refine (show Hid _ from ?_).out)
            | (go_at_call 24; refine (show Hid _ from ?_).out)
            | (go_at_call 9; refine (show Hid _ from ?_).out))
          refine Lib.hid ?_
          have hsm := same_any y A1 A2 c1 c2 rl (later W6 xk) hvy (by omega) (HQy.out.on (ext_later _ _)) (HQz.out.on (ext_later _ _))
          rw [show ({ y with hv := .slice A2 rl.length c2 } : En) = z by rw [← HY.out, ← HZz.out]] at hsm
          refine hsm.mono ?_
          clear hsm
          rintro e' w' ⟨rfl, hxl⟩; obtain ⟨xm, rfl⟩ := hxl.asLater; clear hxl
          go_wp2_with (first
            | (go_at_call 18; refine (show Hid _ from ?_).out)
            | (go_at_call 19; refine (show Hid _ from ?_).out)
            | (go_at_call 17; refine (show Hid _ from ?_).out)
            | (go_at_call 20; refine (show Hid _ from ?_).out)
            | (go_at_call 21; refine (show Hid _ from ?_).out)
            | (go_at_call 22; refine (show Hid _ from ?_).out)
            | (go_at_call 23; refine (show Hid _ from ?_).out)
            | (go_at_call 24; refine (show Hid _ from ?_).out)
            | (go_at_call 9; refine (show Hid _ from ?_).out))
          refine Lib.hid ?_
          have hyst : y.st = e.st := by rw [← HY.out]; exact HST.out
          have hyby : y.bytes.size = re.bytes.size := by rw [← HY.out]
          have hyv : validB y rl = true := by rw [← HY.out]; exact HRV.out
          refine (rvalidE_any y A1 c1 rl _ hvy (by omega) (by rw [hyst]; exact HI.out.h1) (by rw [hyst]; exact HI.out.h2) (by rw [hyst]; exact HI.out.h3) (by omega) (by rw [hyst]; exact HI.out.hb) (by rw [hyst]; exact HI.out.hby) (RowAt.ext HRK.out (HX6.out.onto _)) (HQy.out.on (ext_later _ _))).mono ?_
          rw [hyv]
          rintro e' w' ⟨rfl, hxl⟩; obtain ⟨xo, rfl⟩ := hxl.asLater; clear hxl
          go_wp2
          go_ret
          exact ⟨rfl, HX6.out.onto _⟩
  · have d0 : (xn == 0) = false := by simpa using hz
    clear hz
    go_wp2_with (first
      | (go_at_call 18; refine (show Hid _ from ?_).out)
      | (go_at_call 19; refine (show Hid _ from ?_).out)
      | (go_at_call 17; refine (show Hid _ from ?_).out)
      | (go_at_call 20; refine (show Hid _ from ?_).out)
      | (go_at_call 21; refine (show Hid _ from ?_).out)
      | (go_at_call 22; refine (show Hid _ from ?_).out)
      | (go_at_call 23; refine (show Hid _ from ?_).out)
      | (go_at_call 24; refine (show Hid _ from ?_).out)
      | (go_at_call 9; refine (show Hid _ from ?_).out))
    refine Lib.hid ?_
    refine calls_world (fun W => Ext w W ∧ RowAt W (w.heap.size + 1) (entC e) ∧ RowAt W (w.heap.size + 1 + 1) #[.int .i64 s1, .int .i64 s2]) ⟨(HX00.out.trans HX2.out).onto _, (HRe.out.ext HX2.out).later _, (HRp.out.ext HX2.out).later _⟩ ?_
    rintro W3 ⟨x3, r3e, r3p⟩
    have HX3 := Lib.hid x3
    have HR3e := Lib.hid r3e
    have HR3p := Lib.hid r3p
    have hl3e := r3e.lt
    have hl3p := r3p.lt
    have row3 : rowOf W3 (w.heap.size + 1) 0 45 = some (entC e) := r3e.all (ent_size _).symm (by omega)
    clear x3 r3e r3p
    cases hli : lightB e l.length with
    | false =>
      have HLi := Lib.hid hli
      clear hli
      refine (light_any e A l.length c _ HI.out.hv HI.out.h4 HI.out.hl HI.out.h1 HI.out.h2 HI.out.h3).mono ?_
      rw [HLi.out]
      rintro e' w' ⟨rfl, hxl⟩; obtain ⟨xd, rfl⟩ := hxl.asLater; clear hxl
      go_wp2_with (first
        | (go_at_call 18; refine (show Hid _ from ?_).out)
        | (go_at_call 19; refine (show Hid _ from ?_).out)
        | (go_at_call 17; refine (show Hid _ from ?_).out)
        | (go_at_call 20; refine (show Hid _ from ?_).out)
        | (go_at_call 21; refine (show Hid _ from ?_).out)
        | (go_at_call 22; refine (show Hid _ from ?_).out)
        | (go_at_call 23; refine (show Hid _ from ?_).out)
        | (go_at_call 24; refine (show Hid _ from ?_).out)
        | (go_at_call 9; refine (show Hid _ from ?_).out))
      refine Lib.hid ?_
      refine (sanity_ok _ (RowAt.ext HK.out (HX3.out.onto _)) (RowAt.ext HRK.out (HX3.out.onto _))).mono ?_
      rintro e' w' ⟨rfl, hxl⟩; obtain ⟨xe, rfl⟩ := hxl.asLater; clear hxl
      go_wp2
      go_ret
      exact ⟨rfl, HX3.out.onto _⟩
    | true =>
      have hlb := hli
      simp only [lightB, Bool.and_eq_true, decide_eq_true_eq] at hlb
      have HLi := Lib.hid hli
      clear hli
      refine (light_any e A l.length c _ HI.out.hv HI.out.h4 HI.out.hl HI.out.h1 HI.out.h2 HI.out.h3).mono ?_
      rw [HLi.out]
      rintro e' w' ⟨rfl, hxl⟩; obtain ⟨xd, rfl⟩ := hxl.asLater; clear hxl
      go_wp2_with (first
        | (go_at_call 18; refine (show Hid _ from ?_).out)
        | (go_at_call 19; refine (show Hid _ from ?_).out)
        | (go_at_call 17; refine (show Hid _ from ?_).out)
        | (go_at_call 20; refine (show Hid _ from ?_).out)
        | (go_at_call 21; refine (show Hid _ from ?_).out)
        | (go_at_call 22; refine (show Hid _ from ?_).out)
        | (go_at_call 23; refine (show Hid _ from ?_).out)
        | (go_at_call 24; refine (show Hid _ from ?_).out)
        | (go_at_call 9; refine (show Hid _ from ?_).out))
      refine Lib.hid ?_
      obtain ⟨vv, hvv⟩ : ∃ vv, validB e l = vv := ⟨_, rfl⟩
      have HVV := Lib.hid hvv
      clear hvv
      refine (rvalidE_any e A c l _ HI.out.hv (by omega) HI.out.h1 HI.out.h2 HI.out.h3 (by omega) HI.out.hb HI.out.hby (RowAt.ext HRK.out (HX3.out.onto _)) (HI.out.hr.on (HX3.out.onto _))).mono ?_
      rw [HVV.out]
      rintro e' w' ⟨rfl, hxl⟩; obtain ⟨xe, rfl⟩ := hxl.asLater; clear hxl
      go_wp2_with (first
        | (go_at_call 18; refine (show Hid _ from ?_).out)
        | (go_at_call 19; refine (show Hid _ from ?_).out)
        | (go_at_call 17; refine (show Hid _ from ?_).out)
        | (go_at_call 20; refine (show Hid _ from ?_).out)
        | (go_at_call 21; refine (show Hid _ from ?_).out)
        | (go_at_call 22; refine (show Hid _ from ?_).out)
        | (go_at_call 23; refine (show Hid _ from ?_).out)
        | (go_at_call 24; refine (show Hid _ from ?_).out)
        | (go_at_call 9; refine (show Hid _ from ?_).out))
      refine Lib.hid ?_
      refine (evalid_any e A c l _ HI.out.hv (by omega) HI.out.h1 HI.out.h2 HI.out.h3 (by omega) HI.out.hb HI.out.hby (RowAt.ext HK.out ((HX3.out.onto _).onto _)) (HI.out.hr.on ((HX3.out.onto _).onto _)) HI.out.z).mono ?_
      rw [HVV.out]
      rintro e' w' ⟨rfl, hxl⟩; obtain ⟨xg, rfl⟩ := hxl.asLater; clear hxl
      cases vv with
      | false =>
        go_wp2_with (first
          | (go_at_call 18; refine (show Hid _ from ?_).out)
          | (go_at_call 19; refine (show Hid _ from ?_).out)
          | (go_at_call 17; refine (show Hid _ from ?_).out)
          | (go_at_call 20; refine (show Hid _ from ?_).out)
          | (go_at_call 21; refine (show Hid _ from ?_).out)
          | (go_at_call 22; refine (show Hid _ from ?_).out)
          | (go_at_call 23; refine (show Hid _ from ?_).out)
          | (go_at_call 24; refine (show Hid _ from ?_).out)
          | (go_at_call 9; refine (show Hid _ from ?_).out))
        refine Lib.hid ?_
        refine (sanity_ok _ (RowAt.ext HK.out (HX3.out.onto _)) (RowAt.ext HRK.out (HX3.out.onto _))).mono ?_
        rintro e' w' ⟨rfl, hxl⟩; obtain ⟨xi, rfl⟩ := hxl.asLater; clear hxl
        go_wp2
        go_ret
        exact ⟨rfl, HX3.out.onto _⟩
      | true =>
        go_wp2_with (first
          | (go_at_call 18; refine (show Hid _ from ?_).out)
          | (go_at_call 19; refine (show Hid _ from ?_).out)
          | (go_at_call 17; refine (show Hid _ from ?_).out)
          | (go_at_call 20; refine (show Hid _ from ?_).out)
          | (go_at_call 21; refine (show Hid _ from ?_).out)
          | (go_at_call 22; refine (show Hid _ from ?_).out)
          | (go_at_call 23; refine (show Hid _ from ?_).out)
          | (go_at_call 24; refine (show Hid _ from ?_).out)
          | (go_at_call 9; refine (show Hid _ from ?_).out))
        refine Lib.hid ?_
        obtain ⟨r, hr⟩ : ∃ r, putN e l f more = r := ⟨_, rfl⟩
        have hval := val_iff.1 HVV.out
        have hvlen := hval.len
        have hpst := (put_st e l f more).1
        have hpv := put_val hval f more
        have HPa := Lib.hid (fun W hK hR => eput_any e A c l f more W HI.out.hv hval hf (by omega) HI.out.hb HI.out.hby hK HI.out.hA HI.out.z hR)
        have HPb := Lib.hid (fun W hK hR => rput_any e A c l f more W HI.out.hv hval hf (by omega) HI.out.hb HI.out.hby hK HI.out.hA HI.out.z hR)
        rw [hr] at hpst hpv HPa HPb
        obtain ⟨re, rl, rn⟩ := r
        have hrlen : rl.length ≤ 65536 := hpv.len
        have hrby : (re.bytes.size : Int) = re.st.size := hpv.bs
        have hrsz : re.st.size ≤ 65536 := hpv.sz
        have HRV : Hid (validB re rl = true) := Lib.hid (val_iff.2 hpv)
        have HST : Hid (re.st = e.st) := Lib.hid hpst
        have HSI : Hid (SetIn l e.st.size) := Lib.hid hval.si
        have hz0 := hval.z0
        have hz1 := hval.sz
        clear hval hpst hpv hr
        refine (HPa.out _ (RowAt.ext HK.out (HX3.out.onto _)) (HI.out.hr.on (HX3.out.onto _))).mono ?_
        rintro e' w' ⟨A1, c1, rfl, _, _, hr1, hx1⟩
        have HQ1 := Lib.hid hr1
        obtain ⟨xh, rfl⟩ := hx1.asLater
        obtain ⟨y, hy⟩ : ∃ y, ({ re with hv := .slice A1 rl.length c1 } : En) = y := ⟨_, rfl⟩
        have hvy : y.hv = .slice A1 rl.length c1 := by rw [← hy]
        have hfy : fitsRow 45 (entC y) = true := ent_fits_of hvy
        have HY := Lib.hid hy
        simp only [hy]
        clear hr1 hx1 hy HPa
        go_wp2_with (first
          | (go_at_call 18; refine (show Hid _ from ?_).out)
          | (go_at_call 19; refine (show Hid _ from ?_).out)
          | (go_at_call 17; refine (show Hid _ from ?_).out)
          | (go_at_call 20; refine (show Hid _ from ?_).out)
          | (go_at_call 21; refine (show Hid _ from ?_).out)
          | (go_at_call 22; refine (show Hid _ from ?_).out)
          | (go_at_call 23; refine (show Hid _ from ?_).out)
          | (go_at_call 24; refine (show Hid _ from ?_).out)
          | (go_at_call 9; refine (show Hid _ from ?_).out))
        refine Lib.hid ?_
        refine calls_world (fun W => Ext W3 W ∧ RowAt W (W3.heap.size + (((xd.comp xe).comp xg).comp xh).n) (entC y) ∧ ReadsSp W W.heap.size A1 rl) ⟨(by (repeat (first | with_reducible exact Ext.refl _ | with_reducible exact Ext.refl _ | with_reducible refine Ext.drew ?_ | with_reducible refine Ext.drewN ?_ _ | with_reducible refine Ext.alloc ?_ _ | with_reducible refine Ext.onto ?_ _ | (with_reducible refine Ext.setCells ?_ ?_ _ _; rotate_left; focus (first | omega | (simp; done) | (simp; omega))) | (with_reducible refine Ext.setCell ?_ ?_ _; rotate_left; focus (first | omega | (simp; done) | (simp; omega)))))), (RowAt.newAt (cs := entC noEn) (t := 31) (by simp [later_size])).store (by rw [ent_size, ent_size]), HQ1.out.on (Ext.setCells ((Ext.refl _).alloc _) (by simp only [later_size, Later.comp_n] <;> omega) _ _)⟩ ?_
        generalize W3.heap.size + (((xd.comp xe).comp xg).comp xh).n = B5
        rintro W4 ⟨x4, r4, q4⟩
        have HX4 := Lib.hid x4
        have HR4 := Lib.hid r4
        have HQ4 := Lib.hid q4
        have hl4 := r4.lt
        clear x4 r4 q4 HQ1
        refine (HPb.out _ (RowAt.ext HRK.out (HX3.out.trans HX4.out)) (HI.out.hr.on (HX3.out.trans HX4.out))).mono ?_
        rintro e' w' ⟨A2, c2, rfl, _, _, hr2, hx2⟩
        have HQ2 := Lib.hid hr2
        obtain ⟨xj, rfl⟩ := hx2.asLater
        obtain ⟨z, hzz⟩ : ∃ z, ({ re with hv := .slice A2 rl.length c2 } : En) = z := ⟨_, rfl⟩
        have hvz : z.hv = .slice A2 rl.length c2 := by rw [← hzz]
        have hfz : fitsRow 46 (gotC z rn) = true := got_fits_of rn hvz
        have HZz := Lib.hid hzz
        simp only [hzz]
        clear hr2 hx2 hzz HPb
        go_upto_region 17 with (fail)
        refine wp_world (fun W => Ext W4 W ∧ RowAt W (W4.heap.size + xj.n) (gotC z rn) ∧ ReadsSp W W.heap.size A2 rl) ⟨(by (repeat (first | with_reducible exact Ext.refl _ | with_reducible exact Ext.refl _ | with_reducible refine Ext.drew ?_ | with_reducible refine Ext.drewN ?_ _ | with_reducible refine Ext.alloc ?_ _ | with_reducible refine Ext.onto ?_ _ | (with_reducible refine Ext.setCells ?_ ?_ _ _; rotate_left; focus (first | omega | (simp; done) | (simp; omega))) | (with_reducible refine Ext.setCell ?_ ?_ _; rotate_left; focus (first | omega | (simp; done) | (simp; omega)))))), RowAt.store (RowAt.newAt (cs := gotC noEn 0) (t := 62) (by simp [later_size])) (by rw [got_size, got_size]), HQ2.out.on (Ext.setCells ((Ext.refl _).alloc _) (by simp only [later_size, Later.comp_n] <;> omega) _ _)⟩ ?_
        generalize W4.heap.size + xj.n = B6
        rintro W5 ⟨x5, r5, q5⟩
        have HX5 := Lib.hid x5
        have HR5 := Lib.hid r5
        have HQ5 := Lib.hid q5
        have HXa : Hid (Ext w W5) := Lib.hid ((HX3.out.trans HX4.out).trans x5)
        have row5 : rowOf W5 (w.heap.size + 1) 0 45 = some (entC e) := ((HR3e.out.ext HX4.out).ext x5).all (ent_size _).symm (by omega)
        have p0 : W5.cell? ⟨w.heap.size + 1 + 1, 0, none⟩ = some (.int .i64 s1) := ((HR3p.out.ext HX4.out).ext x5).cell 0
        have p1 : W5.cell? ⟨w.heap.size + 1 + 1, 1, none⟩ = some (.int .i64 s2) := ((HR3p.out.ext HX4.out).ext x5).cell 1
        have hl5 := r5.lt
        have hl5e := ((HR3p.out.ext HX4.out).ext x5).lt
        clear x5 r5 q5 HQ2 row3 hl3e hl3p
        obtain ⟨mm, hmm⟩ : ∃ mm, missN e l s1 s2 = mm := ⟨_, rfl⟩
        have HM1 := Lib.hid (fun W hR => emissE_any e A c l s1 s2 W HI.out.hv hz0 hz1 HSI.out.1 (HSI.out.bd2 (by omega)) hvlen hR HI.out.z)
        have HM2 := Lib.hid (fun W hR => rmissE_any e A c l s1 s2 W HI.out.hv hz0 hz1 hvlen hR)
        have hmlen : mm.length ≤ 65536 := by rw [← hmm]; exact missN_len e l s1 s2 hz0 hz1
        rw [hmm] at HM1 HM2
        clear hmm
        refine wp_region_soft 7 (putsSoft e mm s1 s2 W5.heap.size) (by kernel_rfl) (by kernel_rfl) (lt_cons ?_ (lt_cons ?_ (lt_cons ?_ (lt_cons ?_ (lt_cons ?_ (lt_cons ?_ (lt_cons ?_ lt_none))))))) ?_
        ·
          intro o ho xs W hW hd Q' hQ; obtain rfl := Option.some.inj ho; clear ho; simp only [fillAt, dstOf, List.getElem?_cons_zero, List.getElem?_cons_succ, Option.bind_some, Act.put, List.setIfInBounds_toArray, List.set_cons_zero, List.set_cons_succ, Nat.zero_add, Nat.reduceAdd] at hQ ⊢; have HQ := Lib.hid hQ; have HD := Lib.hid hd; have HW := Lib.hid hW; have hsW := hW.size; clear hQ hd hW
          have hrw : rowOf W (w.heap.size + 1) 0 45 = some (entC e) := (rowOf_congr (fun i _ => HW.out.cell (p := ⟨w.heap.size + 1, 0 + i, none⟩) (by show w.heap.size + 1 < _; omega))).trans row5
          go_wp2
          exact HQ.out _ _ (Ext.refl _) rfl
        ·
          intro o ho xs W hW hd Q' hQ; obtain rfl := Option.some.inj ho; clear ho; simp only [fillAt, dstOf, List.getElem?_cons_zero, List.getElem?_cons_succ, Option.bind_some, Act.put, List.setIfInBounds_toArray, List.set_cons_zero, List.set_cons_succ, Nat.zero_add, Nat.reduceAdd] at hQ ⊢; have HQ := Lib.hid hQ; have HD := Lib.hid hd; have HW := Lib.hid hW; have hsW := hW.size; clear hQ hd hW
          have hc0 : W.cell? ⟨w.heap.size + 1 + 1, 0, none⟩ = some (.int .i64 s1) := (HW.out.cell (p := ⟨w.heap.size + 1 + 1, 0, none⟩) hl5e).trans p0
          have hc1 : W.cell? ⟨w.heap.size + 1 + 1, 1, none⟩ = some (.int .i64 s2) := (HW.out.cell (p := ⟨w.heap.size + 1 + 1, 1, none⟩) hl5e).trans p1
          go_wp2
          exact HQ.out _ _ (Ext.refl _) rfl
        ·
          intro o ho xs W hW hd Q' hQ; obtain rfl := Option.some.inj ho; clear ho; simp only [fillAt, dstOf, List.getElem?_cons_zero, List.getElem?_cons_succ, Option.bind_some, Act.put, List.setIfInBounds_toArray, List.set_cons_zero, List.set_cons_succ, Nat.zero_add, Nat.reduceAdd] at hQ ⊢; have HQ := Lib.hid hQ; have HD := Lib.hid hd; have HW := Lib.hid hW; have hsW := hW.size; clear hQ hd hW
          have hd0 : xs 0 = .agg (entC e) := (HD.out 0 (of_decide_eq_true (by kernel_rfl)))
          generalize xs 0 = x0 at hd0 HQ ⊢; subst hd0
          have hd1 : xs 1 = .agg #[.int .i64 s1, .int .i64 s2] := (HD.out 1 (of_decide_eq_true (by kernel_rfl)))
          generalize xs 1 = x1 at hd1 HQ ⊢; subst hd1
          go_wp2_with (go_at_call 26; refine (HM1.out _ (HI.out.hr.on (HXa.out.trans HW.out))).mono ?_; rintro e1 w1 ⟨A5, c5, out, rfl, HO5, ho5, hx⟩)
          obtain rfl := HO5.out
          exact HQ.out _ _ hx ⟨A5, c5, rfl, ho5.lower hsW⟩
        ·
          intro o ho xs W hW hd Q' hQ; obtain rfl := Option.some.inj ho; clear ho; simp only [fillAt, dstOf, List.getElem?_cons_zero, List.getElem?_cons_succ, Option.bind_some, Act.put, List.setIfInBounds_toArray, List.set_cons_zero, List.set_cons_succ, Nat.zero_add, Nat.reduceAdd] at hQ ⊢; have HQ := Lib.hid hQ; have HD := Lib.hid hd; have HW := Lib.hid hW; have hsW := hW.size; clear hQ hd hW
          have hrw : rowOf W (w.heap.size + 1) 0 45 = some (entC e) := (rowOf_congr (fun i _ => HW.out.cell (p := ⟨w.heap.size + 1, 0 + i, none⟩) (by show w.heap.size + 1 < _; omega))).trans row5
          go_wp2
          exact HQ.out _ _ (Ext.refl _) rfl
        ·
          intro o ho xs W hW hd Q' hQ; obtain rfl := Option.some.inj ho; clear ho; simp only [fillAt, dstOf, List.getElem?_cons_zero, List.getElem?_cons_succ, Option.bind_some, Act.put, List.setIfInBounds_toArray, List.set_cons_zero, List.set_cons_succ, Nat.zero_add, Nat.reduceAdd] at hQ ⊢; have HQ := Lib.hid hQ; have HD := Lib.hid hd; have HW := Lib.hid hW; have hsW := hW.size; clear hQ hd hW
          have hc0 : W.cell? ⟨w.heap.size + 1 + 1, 0, none⟩ = some (.int .i64 s1) := (HW.out.cell (p := ⟨w.heap.size + 1 + 1, 0, none⟩) hl5e).trans p0
          have hc1 : W.cell? ⟨w.heap.size + 1 + 1, 1, none⟩ = some (.int .i64 s2) := (HW.out.cell (p := ⟨w.heap.size + 1 + 1, 1, none⟩) hl5e).trans p1
          go_wp2
          exact HQ.out _ _ (Ext.refl _) rfl
        ·
          intro o ho xs W hW hd Q' hQ; obtain rfl := Option.some.inj ho; clear ho; simp only [fillAt, dstOf, List.getElem?_cons_zero, List.getElem?_cons_succ, Option.bind_some, Act.put, List.setIfInBounds_toArray, List.set_cons_zero, List.set_cons_succ, Nat.zero_add, Nat.reduceAdd] at hQ ⊢; have HQ := Lib.hid hQ; have HD := Lib.hid hd; have HW := Lib.hid hW; have hsW := hW.size; clear hQ hd hW
          have hd3 : xs 3 = .agg (entC e) := (HD.out 3 (of_decide_eq_true (by kernel_rfl)))
          generalize xs 3 = x3 at hd3 HQ ⊢; subst hd3
          have hd4 : xs 4 = .agg #[.int .i64 s1, .int .i64 s2] := (HD.out 4 (of_decide_eq_true (by kernel_rfl)))
          generalize xs 4 = x4 at hd4 HQ ⊢; subst hd4
          go_wp2_with (go_at_call 27; refine (HM2.out _ (HI.out.hr.on (HXa.out.trans HW.out))).mono ?_; rintro e1 w1 ⟨A5, c5, out, rfl, HO5, ho5, hx⟩)
          obtain rfl := HO5.out
          exact HQ.out _ _ hx ⟨A5, c5, rfl, ho5.lower hsW⟩
        ·
          intro o ho xs W hW hd Q' hQ; obtain rfl := Option.some.inj ho; clear ho; simp only [fillAt, dstOf, List.getElem?_cons_zero, List.getElem?_cons_succ, Option.bind_some, Act.put, List.setIfInBounds_toArray, List.set_cons_zero, List.set_cons_succ, Nat.zero_add, Nat.reduceAdd] at hQ ⊢; have HQ := Lib.hid hQ; have HD := Lib.hid hd; have HW := Lib.hid hW; have hsW := hW.size; clear hQ hd hW
          obtain ⟨A5, c5, h2, ho2⟩ : (ownSoft mm W5.heap.size).S (xs 2) W := (HD.out 2 (of_decide_eq_true (by kernel_rfl)))
          generalize xs 2 = x2 at h2 HQ ⊢; subst h2
          obtain ⟨A6, c6, h5, ho5⟩ : (ownSoft mm W5.heap.size).S (xs 5) W := (HD.out 5 (of_decide_eq_true (by kernel_rfl)))
          generalize xs 5 = x5 at h5 HQ ⊢; subst h5
          have HO2 := Lib.hid ho2
          have HO5 := Lib.hid ho5
          clear ho2 ho5
          go_wp2_with (go_at_call 25; refine (rsame_any A5 A6 c5 c6 mm _ (by omega) (HO2.out.reads spE) (HO5.out.reads spE)).mono ?_; rintro e1 w1 ⟨rfl, hx⟩)
          exact HQ.out _ _ hx rfl
        ·
          intro xs W6 hW hSS
          have h6 : xs 6 = .bool true := hSS 6 (by omega)
          simp only [fillAt, dstOf, List.getElem?_cons_zero, List.getElem?_cons_succ, Option.bind_some, Act.put, List.setIfInBounds_toArray, List.set_cons_zero, List.set_cons_succ, Nat.zero_add, Nat.reduceAdd, List.drop_succ_cons, List.drop_zero]
          generalize xs 6 = x6 at *; subst h6
          clear hSS row5 p0 p1
          have HX6 : Hid (Ext w W6) := Lib.hid (HXa.out.trans hW)
          have hr6 := HR5.out.ext hW
          have hy6 := (HR4.out.ext HX5.out).ext hW
          have rowy : rowOf W6 B5 0 45 = some (entC y) := hy6.all (ent_size _).symm (by omega)
          have rowz : rowOf W6 B6 0 45 = some (entC z) := by rw [hr6.row, if_neg (by omega), got_ent]
          have c45' : W6.cell? ⟨B6, 45, none⟩ = some (.int .i64 rn) := hr6.cell 45
          have hl6 := hr6.lt
          have hl6y := hy6.lt
          have HQy : Hid (ReadsSp W6 W6.heap.size A1 rl) := Lib.hid (HQ4.out.on (HX5.out.trans hW))
          have HQz : Hid (ReadsSp W6 W6.heap.size A2 rl) := Lib.hid (HQ5.out.on hW)
          clear hr6 hy6 hW HM1 HM2
          go_wp2_with (first
            | (go_at_call 18; refine (show Hid _ from ?_).out)
            | (go_at_call 19; refine (show Hid _ from ?_).out)
            | (go_at_call 17; refine (show Hid _ from ?_).out)
            | (go_at_call 20; refine (show Hid _ from ?_).out)
            | (go_at_call 21; refine (show Hid _ from ?_).out)
            | (go_at_call 22; refine (show Hid _ from ?_).out)
            | (go_at_call 23; refine (show Hid _ from ?_).out)
            | (go_at_call 24; refine (show Hid _ from ?_).out)
            | (go_at_call 9; refine (show Hid _ from ?_).out))
          refine Lib.hid ?_
          refine (sanity_ok _ (RowAt.ext HK.out HX6.out) (RowAt.ext HRK.out HX6.out)).mono ?_
          rintro e' w' ⟨rfl, hxl⟩; obtain ⟨xk, rfl⟩ := hxl.asLater; clear hxl
          go_wp2_with (first
            | (go_at_call 18; refine (show Hid _ from ?_).out)
            | (go_at_call 19; refine (show Hid _ from ?_).out)
            | (go_at_call 17; refine (show Hid _ from ?_).out)
            | (go_at_call 20; refine (show Hid _ from ?_).out)
            | (go_at_call 21; refine (show Hid _ from ?_).out)
            | (go_at_call 22; refine (show Hid _ from ?_).out)
            | (go_at_call 23; refine (show Hid _ from ?_).out)
            | (go_at_call 24; refine (show Hid _ from ?_).out)
            | (go_at_call 9; refine (show Hid _ from ?_).out))
          refine Lib.hid ?_
          have hsm := same_any y A1 A2 c1 c2 rl (later W6 xk) hvy (by omega) (HQy.out.on (ext_later _ _)) (HQz.out.on (ext_later _ _))
          rw [show ({ y with hv := .slice A2 rl.length c2 } : En) = z by rw [← HY.out, ← HZz.out]] at hsm
          refine hsm.mono ?_
          clear hsm
          rintro e' w' ⟨rfl, hxl⟩; obtain ⟨xm, rfl⟩ := hxl.asLater; clear hxl
          go_wp2_with (first
            | (go_at_call 18; refine (show Hid _ from ?_).out)
            | (go_at_call 19; refine (show Hid _ from ?_).out)
            | (go_at_call 17; refine (show Hid _ from ?_).out)
            | (go_at_call 20; refine (show Hid _ from ?_).out)
            | (go_at_call 21; refine (show Hid _ from ?_).out)
            | (go_at_call 22; refine (show Hid _ from ?_).out)
            | (go_at_call 23; refine (show Hid _ from ?_).out)
            | (go_at_call 24; refine (show Hid _ from ?_).out)
            | (go_at_call 9; refine (show Hid _ from ?_).out))
          refine Lib.hid ?_
          have hyst : y.st = e.st := by rw [← HY.out]; exact HST.out
          have hyby : y.bytes.size = re.bytes.size := by rw [← HY.out]
          have hyv : validB y rl = true := by rw [← HY.out]; exact HRV.out
          refine (rvalidE_any y A1 c1 rl _ hvy (by omega) (by rw [hyst]; exact HI.out.h1) (by rw [hyst]; exact HI.out.h2) (by rw [hyst]; exact HI.out.h3) (by omega) (by rw [hyst]; exact HI.out.hb) (by rw [hyst]; exact HI.out.hby) (RowAt.ext HRK.out (HX6.out.onto _)) (HQy.out.on (ext_later _ _))).mono ?_
          rw [hyv]
          rintro e' w' ⟨rfl, hxl⟩; obtain ⟨xo, rfl⟩ := hxl.asLater; clear hxl
          go_wp2
          go_ret
          exact ⟨rfl, HX6.out.onto _⟩
set_option maxRecDepth 100000 in
set_option maxHeartbeats 1000000 in
theorem puts_b (s : St) (e : En) (A : Option Addr) (c : Nat) (l : List Sp) (f : Int) (more : ByteArray) (s1 s2 : Int) (w : World) (hs : StIn s) (hi : EntIn e A c l w) (hk : Konst 0 w) (hrk : RKonst w)
    (hsm : smallD s more) (hf : -9223372036854775808 ≤ f ∧ f ≤ 9223372036854775807) (d4 : decide (3000 < s.size) = true) (d5 : decide (s.size ≤ 65536) = false) :
    Calls Tryz.prog 5 #[.agg (stmC s), .agg (entC e), .int .i64 f, .string more, .agg #[.int .i64 s1, .int .i64 s2]] w fun e' w' => e' = .returned (.bool true) ∧ Ext w w' := by
  have HK := Lib.hid hk
  have HRK := Lib.hid hrk
  have HI := Lib.hid hi
  have HS := Lib.hid hs
  obtain ⟨d1, d2, d3, d6⟩ := hsm
  have hmore : more.size ≤ 3000 := by simp at d6; omega
  have hfit : fitsRow 45 (entC e) = true := ent_fits_of hi.hv
  obtain ⟨⟨x, xn⟩, hx⟩ : ∃ p, beginN s = p := ⟨_, rfl⟩
  have hxv : x.hv = .slice none 0 0 := by have := begin_hv s; rw [hx] at this; exact this
  have HXI : Hid (StIn x.st) := Lib.hid (by have := begin_in hs; rw [hx] at this; exact this)
  have HX0 : Hid (xn = 0 → validB x [] = true) := Lib.hid (fun h => by have := begin_val (s := s) (by rw [hx]; exact h); rw [hx] at this; exact this)
  have HXB : Hid (xn = 0 → x.bytes.size ≤ 65536) := Lib.hid (fun h => by have := begin_bytes (s := s) (by rw [hx]; exact h); rw [hx] at this; exact this)
  have HB1 := Lib.hid (fun W hK => beginE_any s W hs.h1 hs.h2 hs.h3 hs.hb hs.hby hK)
  have HB2 := Lib.hid (fun W hK => rbegin_any s W hs.h1 hs.h2 hs.h3 hs.hb hs.hby hK)
  rw [hx] at HB1 HB2
  have hxf : fitsRow 45 (entC x) = true := ent_fits_of hxv
  have hxg : fitsRow 46 (gotC x xn) = true := got_fits_of xn hxv
  have HSm : Hid (∀ W, Calls Tryz.prog 17 #[.agg (entC x), .agg (entC x)] W fun e' w' => e' = .returned (.bool true) ∧ Ext W w') := Lib.hid (fun W => by
    have h := same_any x none none 0 0 [] W hxv (by decide) (Reads.nil _ _ _ _ _) (Reads.nil _ _ _ _ _)
    rw [List.length_nil, hv_same hxv] at h
    exact h)
  clear hk hrk hi hs hx
  go_enter Tryz.func5, Tryz.ntmps5
  go_wp2_with (first
    | (go_at_call 18; refine (show Hid _ from ?_).out)
    | (go_at_call 19; refine (show Hid _ from ?_).out)
    | (go_at_call 17; refine (show Hid _ from ?_).out)
    | (go_at_call 20; refine (show Hid _ from ?_).out)
    | (go_at_call 21; refine (show Hid _ from ?_).out)
    | (go_at_call 22; refine (show Hid _ from ?_).out)
    | (go_at_call 23; refine (show Hid _ from ?_).out)
    | (go_at_call 24; refine (show Hid _ from ?_).out)
    | (go_at_call 9; refine (show Hid _ from ?_).out))
  refine Lib.hid ?_
  refine calls_world (fun W => Ext w W ∧ RowAt W w.heap.size (stmC s) ∧ RowAt W (w.heap.size + 1) (entC e) ∧ RowAt W (w.heap.size + 1 + 1) #[.int .i64 s1, .int .i64 s2]) ⟨(by (repeat (first | with_reducible exact Ext.refl _ | with_reducible exact Ext.refl _ | with_reducible refine Ext.drew ?_ | with_reducible refine Ext.drewN ?_ _ | with_reducible refine Ext.alloc ?_ _ | with_reducible refine Ext.onto ?_ _ | (with_reducible refine Ext.setCells ?_ ?_ _ _; rotate_left; focus (first | omega | (simp; done) | (simp; omega))) | (with_reducible refine Ext.setCell ?_ ?_ _; rotate_left; focus (first | omega | (simp; done) | (simp; omega)))))), ((RowAt.new _ _ _).alloc _).alloc _, (RowAt.newAt (by simp)).alloc _, RowAt.newAt (by simp)⟩ ?_
  rintro W0 ⟨x0, r0s, r0e, r0p⟩
  have HX00 := Lib.hid x0
  have HRs := Lib.hid r0s
  have HRe := Lib.hid r0e
  have HRp := Lib.hid r0p
  have hl0 := r0s.lt
  have hl1 := r0e.lt
  have hl2 := r0p.lt
  have row0 : rowOf W0 w.heap.size 0 41 = some (stmC s) := r0s.all (stm_size _).symm (by omega)
  have row0e : rowOf W0 (w.heap.size + 1) 0 45 = some (entC e) := r0e.all (ent_size _).symm (by omega)
  clear d1 d2 d3 d4 d5 d6 r0s r0e r0p
  refine (HB1.out _ (RowAt.ext HK.out x0)).mono ?_
  clear x0
  rintro e' w' ⟨rfl, hxl⟩; obtain ⟨xa, rfl⟩ := hxl.asLater; clear hxl
  go_wp2_with (first
    | (go_at_call 18; refine (show Hid _ from ?_).out)
    | (go_at_call 19; refine (show Hid _ from ?_).out)
    | (go_at_call 17; refine (show Hid _ from ?_).out)
    | (go_at_call 20; refine (show Hid _ from ?_).out)
    | (go_at_call 21; refine (show Hid _ from ?_).out)
    | (go_at_call 22; refine (show Hid _ from ?_).out)
    | (go_at_call 23; refine (show Hid _ from ?_).out)
    | (go_at_call 24; refine (show Hid _ from ?_).out)
    | (go_at_call 9; refine (show Hid _ from ?_).out))
  refine Lib.hid ?_
  refine calls_world (fun W => Ext W0 W ∧ RowAt W (W0.heap.size + xa.n) (entC x)) ⟨Ext.setCells ((ext_later W0 xa).alloc _) (by simp [later_size] <;> omega) _ _, (RowAt.newAt (cs := entC noEn) (t := 31) (by simp [later_size])).store (by rw [ent_size, ent_size])⟩ ?_
  generalize W0.heap.size + xa.n = B1
  rintro W1 ⟨x1, r1⟩
  have HX1 := Lib.hid x1
  have HR1 := Lib.hid r1
  have hlB1 := r1.lt
  have row1 : rowOf W1 B1 0 45 = some (entC x) := r1.all (ent_size _).symm (by omega)
  clear row0 row0e r1
  refine (HB2.out _ (RowAt.ext HRK.out (HX00.out.trans x1))).mono ?_
  clear x1
  rintro e' w' ⟨rfl, hxl⟩; obtain ⟨xb, rfl⟩ := hxl.asLater; clear hxl
  go_upto_region 5 with (fail)
  refine wp_world (fun W => Ext W0 W ∧ RowAt W B1 (entC x) ∧ RowAt W (W1.heap.size + xb.n) (gotC x xn)) ⟨Ext.setCells ((HX1.out.onto xb).alloc _) (by have := HX1.out.size; omega) _ _, RowAt.others ((HR1.out.later _).alloc _) (by omega) _ _, RowAt.store (RowAt.newAt (cs := gotC noEn 0) (t := 62) (by simp [later_size])) (by rw [got_size, got_size])⟩ ?_
  generalize W1.heap.size + xb.n = B2
  rintro W2 ⟨x2, r1, r2⟩
  have HX2 := Lib.hid x2
  have HR12 := Lib.hid r1
  have HR2 := Lib.hid r2
  have hlB2 := r2.lt
  have hlB12 := r1.lt
  have row12 : rowOf W2 B1 0 45 = some (entC x) := r1.all (ent_size _).symm (by omega)
  have rowg : rowOf W2 B2 0 45 = some (entC x) := by rw [r2.row, if_neg (by omega), got_ent]
  have c45 : W2.cell? ⟨B2, 45, none⟩ = some (.int .i64 xn) := r2.cell 45
  have rowe : rowOf W2 (w.heap.size + 1) 0 45 = some (entC e) := (HRe.out.ext x2).all (ent_size _).symm (by omega)
  clear x2 r1 r2 row1 hlB1 HX1 HR1
  have hsz2 := HX2.out.size
  go_wp2_with (first
    | (go_at_call 18; refine (show Hid _ from ?_).out)
    | (go_at_call 19; refine (show Hid _ from ?_).out)
    | (go_at_call 17; refine (show Hid _ from ?_).out)
    | (go_at_call 20; refine (show Hid _ from ?_).out)
    | (go_at_call 21; refine (show Hid _ from ?_).out)
    | (go_at_call 22; refine (show Hid _ from ?_).out)
    | (go_at_call 23; refine (show Hid _ from ?_).out)
    | (go_at_call 24; refine (show Hid _ from ?_).out)
    | (go_at_call 9; refine (show Hid _ from ?_).out))
  refine Lib.hid ?_
  refine (HSm.out _).mono ?_
  rintro e' w' ⟨rfl, hxl⟩; obtain ⟨xc, rfl⟩ := hxl.asLater; clear hxl
  by_cases hz : xn = 0
  · subst hz
    have HVx := Lib.hid (HX0.out rfl)
    have HBx := Lib.hid (HXB.out rfl)
    go_wp2_with (first
      | (go_at_call 18; refine (show Hid _ from ?_).out)
      | (go_at_call 19; refine (show Hid _ from ?_).out)
      | (go_at_call 17; refine (show Hid _ from ?_).out)
      | (go_at_call 20; refine (show Hid _ from ?_).out)
      | (go_at_call 21; refine (show Hid _ from ?_).out)
      | (go_at_call 22; refine (show Hid _ from ?_).out)
      | (go_at_call 23; refine (show Hid _ from ?_).out)
      | (go_at_call 24; refine (show Hid _ from ?_).out)
      | (go_at_call 9; refine (show Hid _ from ?_).out))
    refine Lib.hid ?_
    refine (rvalidE_any x none 0 [] _ hxv (by decide) HXI.out.h1 HXI.out.h2 HXI.out.h3 (by have := HBx.out; omega) HXI.out.hb HXI.out.hby (RowAt.ext HRK.out ((HX00.out.trans HX2.out).onto _)) (Reads.nil _ _ _ _ _)).mono ?_
    rw [HVx.out]
    rintro e' w' ⟨rfl, hxl⟩; obtain ⟨xz, rfl⟩ := hxl.asLater; clear hxl
    go_wp2_with (first
      | (go_at_call 18; refine (show Hid _ from ?_).out)
      | (go_at_call 19; refine (show Hid _ from ?_).out)
      | (go_at_call 17; refine (show Hid _ from ?_).out)
      | (go_at_call 20; refine (show Hid _ from ?_).out)
      | (go_at_call 21; refine (show Hid _ from ?_).out)
      | (go_at_call 22; refine (show Hid _ from ?_).out)
      | (go_at_call 23; refine (show Hid _ from ?_).out)
      | (go_at_call 24; refine (show Hid _ from ?_).out)
      | (go_at_call 9; refine (show Hid _ from ?_).out))
    refine Lib.hid ?_
    refine calls_world (fun W => Ext w W ∧ RowAt W (w.heap.size + 1) (entC e) ∧ RowAt W (w.heap.size + 1 + 1) #[.int .i64 s1, .int .i64 s2]) ⟨(HX00.out.trans HX2.out).onto _, (HRe.out.ext HX2.out).later _, (HRp.out.ext HX2.out).later _⟩ ?_
    rintro W3 ⟨x3, r3e, r3p⟩
    have HX3 := Lib.hid x3
    have HR3e := Lib.hid r3e
    have HR3p := Lib.hid r3p
    have hl3e := r3e.lt
    have hl3p := r3p.lt
    have row3 : rowOf W3 (w.heap.size + 1) 0 45 = some (entC e) := r3e.all (ent_size _).symm (by omega)
    clear x3 r3e r3p
    cases hli : lightB e l.length with
    | false =>
      have HLi := Lib.hid hli
      clear hli
      refine (light_any e A l.length c _ HI.out.hv HI.out.h4 HI.out.hl HI.out.h1 HI.out.h2 HI.out.h3).mono ?_
      rw [HLi.out]
      rintro e' w' ⟨rfl, hxl⟩; obtain ⟨xd, rfl⟩ := hxl.asLater; clear hxl
      go_wp2_with (first
        | (go_at_call 18; refine (show Hid _ from ?_).out)
        | (go_at_call 19; refine (show Hid _ from ?_).out)
        | (go_at_call 17; refine (show Hid _ from ?_).out)
        | (go_at_call 20; refine (show Hid _ from ?_).out)
        | (go_at_call 21; refine (show Hid _ from ?_).out)
        | (go_at_call 22; refine (show Hid _ from ?_).out)
        | (go_at_call 23; refine (show Hid _ from ?_).out)
        | (go_at_call 24; refine (show Hid _ from ?_).out)
        | (go_at_call 9; refine (show Hid _ from ?_).out))
      refine Lib.hid ?_
      refine (sanity_ok _ (RowAt.ext HK.out (HX3.out.onto _)) (RowAt.ext HRK.out (HX3.out.onto _))).mono ?_
      rintro e' w' ⟨rfl, hxl⟩; obtain ⟨xe, rfl⟩ := hxl.asLater; clear hxl
      go_wp2
      go_ret
      exact ⟨rfl, HX3.out.onto _⟩
    | true =>
      have hlb := hli
      simp only [lightB, Bool.and_eq_true, decide_eq_true_eq] at hlb
      have HLi := Lib.hid hli
      clear hli
      refine (light_any e A l.length c _ HI.out.hv HI.out.h4 HI.out.hl HI.out.h1 HI.out.h2 HI.out.h3).mono ?_
      rw [HLi.out]
      rintro e' w' ⟨rfl, hxl⟩; obtain ⟨xd, rfl⟩ := hxl.asLater; clear hxl
      go_wp2_with (first
        | (go_at_call 18; refine (show Hid _ from ?_).out)
        | (go_at_call 19; refine (show Hid _ from ?_).out)
        | (go_at_call 17; refine (show Hid _ from ?_).out)
        | (go_at_call 20; refine (show Hid _ from ?_).out)
        | (go_at_call 21; refine (show Hid _ from ?_).out)
        | (go_at_call 22; refine (show Hid _ from ?_).out)
        | (go_at_call 23; refine (show Hid _ from ?_).out)
        | (go_at_call 24; refine (show Hid _ from ?_).out)
        | (go_at_call 9; refine (show Hid _ from ?_).out))
      refine Lib.hid ?_
      obtain ⟨vv, hvv⟩ : ∃ vv, validB e l = vv := ⟨_, rfl⟩
      have HVV := Lib.hid hvv
      clear hvv
      refine (rvalidE_any e A c l _ HI.out.hv (by omega) HI.out.h1 HI.out.h2 HI.out.h3 (by omega) HI.out.hb HI.out.hby (RowAt.ext HRK.out (HX3.out.onto _)) (HI.out.hr.on (HX3.out.onto _))).mono ?_
      rw [HVV.out]
      rintro e' w' ⟨rfl, hxl⟩; obtain ⟨xe, rfl⟩ := hxl.asLater; clear hxl
      go_wp2_with (first
        | (go_at_call 18; refine (show Hid _ from ?_).out)
        | (go_at_call 19; refine (show Hid _ from ?_).out)
        | (go_at_call 17; refine (show Hid _ from ?_).out)
        | (go_at_call 20; refine (show Hid _ from ?_).out)
        | (go_at_call 21; refine (show Hid _ from ?_).out)
        | (go_at_call 22; refine (show Hid _ from ?_).out)
        | (go_at_call 23; refine (show Hid _ from ?_).out)
        | (go_at_call 24; refine (show Hid _ from ?_).out)
        | (go_at_call 9; refine (show Hid _ from ?_).out))
      refine Lib.hid ?_
      refine (evalid_any e A c l _ HI.out.hv (by omega) HI.out.h1 HI.out.h2 HI.out.h3 (by omega) HI.out.hb HI.out.hby (RowAt.ext HK.out ((HX3.out.onto _).onto _)) (HI.out.hr.on ((HX3.out.onto _).onto _)) HI.out.z).mono ?_
      rw [HVV.out]
      rintro e' w' ⟨rfl, hxl⟩; obtain ⟨xg, rfl⟩ := hxl.asLater; clear hxl
      cases vv with
      | false =>
        go_wp2_with (first
          | (go_at_call 18; refine (show Hid _ from ?_).out)
          | (go_at_call 19; refine (show Hid _ from ?_).out)
          | (go_at_call 17; refine (show Hid _ from ?_).out)
          | (go_at_call 20; refine (show Hid _ from ?_).out)
          | (go_at_call 21; refine (show Hid _ from ?_).out)
          | (go_at_call 22; refine (show Hid _ from ?_).out)
          | (go_at_call 23; refine (show Hid _ from ?_).out)
          | (go_at_call 24; refine (show Hid _ from ?_).out)
          | (go_at_call 9; refine (show Hid _ from ?_).out))
        refine Lib.hid ?_
        refine (sanity_ok _ (RowAt.ext HK.out (HX3.out.onto _)) (RowAt.ext HRK.out (HX3.out.onto _))).mono ?_
        rintro e' w' ⟨rfl, hxl⟩; obtain ⟨xi, rfl⟩ := hxl.asLater; clear hxl
        go_wp2
        go_ret
        exact ⟨rfl, HX3.out.onto _⟩
      | true =>
        go_wp2_with (first
          | (go_at_call 18; refine (show Hid _ from ?_).out)
          | (go_at_call 19; refine (show Hid _ from ?_).out)
          | (go_at_call 17; refine (show Hid _ from ?_).out)
          | (go_at_call 20; refine (show Hid _ from ?_).out)
          | (go_at_call 21; refine (show Hid _ from ?_).out)
          | (go_at_call 22; refine (show Hid _ from ?_).out)
          | (go_at_call 23; refine (show Hid _ from ?_).out)
          | (go_at_call 24; refine (show Hid _ from ?_).out)
          | (go_at_call 9; refine (show Hid _ from ?_).out))
        refine Lib.hid ?_
        obtain ⟨r, hr⟩ : ∃ r, putN e l f more = r := ⟨_, rfl⟩
        have hval := val_iff.1 HVV.out
        have hvlen := hval.len
        have hpst := (put_st e l f more).1
        have hpv := put_val hval f more
        have HPa := Lib.hid (fun W hK hR => eput_any e A c l f more W HI.out.hv hval hf (by omega) HI.out.hb HI.out.hby hK HI.out.hA HI.out.z hR)
        have HPb := Lib.hid (fun W hK hR => rput_any e A c l f more W HI.out.hv hval hf (by omega) HI.out.hb HI.out.hby hK HI.out.hA HI.out.z hR)
        rw [hr] at hpst hpv HPa HPb
        obtain ⟨re, rl, rn⟩ := r
        have hrlen : rl.length ≤ 65536 := hpv.len
        have hrby : (re.bytes.size : Int) = re.st.size := hpv.bs
        have hrsz : re.st.size ≤ 65536 := hpv.sz
        have HRV : Hid (validB re rl = true) := Lib.hid (val_iff.2 hpv)
        have HST : Hid (re.st = e.st) := Lib.hid hpst
        have HSI : Hid (SetIn l e.st.size) := Lib.hid hval.si
        have hz0 := hval.z0
        have hz1 := hval.sz
        clear hval hpst hpv hr
        refine (HPa.out _ (RowAt.ext HK.out (HX3.out.onto _)) (HI.out.hr.on (HX3.out.onto _))).mono ?_
        rintro e' w' ⟨A1, c1, rfl, _, _, hr1, hx1⟩
        have HQ1 := Lib.hid hr1
        obtain ⟨xh, rfl⟩ := hx1.asLater
        obtain ⟨y, hy⟩ : ∃ y, ({ re with hv := .slice A1 rl.length c1 } : En) = y := ⟨_, rfl⟩
        have hvy : y.hv = .slice A1 rl.length c1 := by rw [← hy]
        have hfy : fitsRow 45 (entC y) = true := ent_fits_of hvy
        have HY := Lib.hid hy
        simp only [hy]
        clear hr1 hx1 hy HPa
        go_wp2_with (first
          | (go_at_call 18; refine (show Hid _ from ?_).out)
          | (go_at_call 19; refine (show Hid _ from ?_).out)
          | (go_at_call 17; refine (show Hid _ from ?_).out)
          | (go_at_call 20; refine (show Hid _ from ?_).out)
          | (go_at_call 21; refine (show Hid _ from ?_).out)
          | (go_at_call 22; refine (show Hid _ from ?_).out)
          | (go_at_call 23; refine (show Hid _ from ?_).out)
          | (go_at_call 24; refine (show Hid _ from ?_).out)
          | (go_at_call 9; refine (show Hid _ from ?_).out))
        refine Lib.hid ?_
        refine calls_world (fun W => Ext W3 W ∧ RowAt W (W3.heap.size + (((xd.comp xe).comp xg).comp xh).n) (entC y) ∧ ReadsSp W W.heap.size A1 rl) ⟨(by (repeat (first | with_reducible exact Ext.refl _ | with_reducible exact Ext.refl _ | with_reducible refine Ext.drew ?_ | with_reducible refine Ext.drewN ?_ _ | with_reducible refine Ext.alloc ?_ _ | with_reducible refine Ext.onto ?_ _ | (with_reducible refine Ext.setCells ?_ ?_ _ _; rotate_left; focus (first | omega | (simp; done) | (simp; omega))) | (with_reducible refine Ext.setCell ?_ ?_ _; rotate_left; focus (first | omega | (simp; done) | (simp; omega)))))), (RowAt.newAt (cs := entC noEn) (t := 31) (by simp [later_size])).store (by rw [ent_size, ent_size]), HQ1.out.on (Ext.setCells ((Ext.refl _).alloc _) (by simp only [later_size, Later.comp_n] <;> omega) _ _)⟩ ?_
        generalize W3.heap.size + (((xd.comp xe).comp xg).comp xh).n = B5
        rintro W4 ⟨x4, r4, q4⟩
        have HX4 := Lib.hid x4
        have HR4 := Lib.hid r4
        have HQ4 := Lib.hid q4
        have hl4 := r4.lt
        clear x4 r4 q4 HQ1
        refine (HPb.out _ (RowAt.ext HRK.out (HX3.out.trans HX4.out)) (HI.out.hr.on (HX3.out.trans HX4.out))).mono ?_
        rintro e' w' ⟨A2, c2, rfl, _, _, hr2, hx2⟩
        have HQ2 := Lib.hid hr2
        obtain ⟨xj, rfl⟩ := hx2.asLater
        obtain ⟨z, hzz⟩ : ∃ z, ({ re with hv := .slice A2 rl.length c2 } : En) = z := ⟨_, rfl⟩
        have hvz : z.hv = .slice A2 rl.length c2 := by rw [← hzz]
        have hfz : fitsRow 46 (gotC z rn) = true := got_fits_of rn hvz
        have HZz := Lib.hid hzz
        simp only [hzz]
        clear hr2 hx2 hzz HPb
        go_upto_region 17 with (fail)
        refine wp_world (fun W => Ext W4 W ∧ RowAt W (W4.heap.size + xj.n) (gotC z rn) ∧ ReadsSp W W.heap.size A2 rl) ⟨(by (repeat (first | with_reducible exact Ext.refl _ | with_reducible exact Ext.refl _ | with_reducible refine Ext.drew ?_ | with_reducible refine Ext.drewN ?_ _ | with_reducible refine Ext.alloc ?_ _ | with_reducible refine Ext.onto ?_ _ | (with_reducible refine Ext.setCells ?_ ?_ _ _; rotate_left; focus (first | omega | (simp; done) | (simp; omega))) | (with_reducible refine Ext.setCell ?_ ?_ _; rotate_left; focus (first | omega | (simp; done) | (simp; omega)))))), RowAt.store (RowAt.newAt (cs := gotC noEn 0) (t := 62) (by simp [later_size])) (by rw [got_size, got_size]), HQ2.out.on (Ext.setCells ((Ext.refl _).alloc _) (by simp only [later_size, Later.comp_n] <;> omega) _ _)⟩ ?_
        generalize W4.heap.size + xj.n = B6
        rintro W5 ⟨x5, r5, q5⟩
        have HX5 := Lib.hid x5
        have HR5 := Lib.hid r5
        have HQ5 := Lib.hid q5
        have HXa : Hid (Ext w W5) := Lib.hid ((HX3.out.trans HX4.out).trans x5)
        have row5 : rowOf W5 (w.heap.size + 1) 0 45 = some (entC e) := ((HR3e.out.ext HX4.out).ext x5).all (ent_size _).symm (by omega)
        have p0 : W5.cell? ⟨w.heap.size + 1 + 1, 0, none⟩ = some (.int .i64 s1) := ((HR3p.out.ext HX4.out).ext x5).cell 0
        have p1 : W5.cell? ⟨w.heap.size + 1 + 1, 1, none⟩ = some (.int .i64 s2) := ((HR3p.out.ext HX4.out).ext x5).cell 1
        have hl5 := r5.lt
        have hl5e := ((HR3p.out.ext HX4.out).ext x5).lt
        clear x5 r5 q5 HQ2 row3 hl3e hl3p
        obtain ⟨mm, hmm⟩ : ∃ mm, missN e l s1 s2 = mm := ⟨_, rfl⟩
        have HM1 := Lib.hid (fun W hR => emissE_any e A c l s1 s2 W HI.out.hv hz0 hz1 HSI.out.1 (HSI.out.bd2 (by omega)) hvlen hR HI.out.z)
        have HM2 := Lib.hid (fun W hR => rmissE_any e A c l s1 s2 W HI.out.hv hz0 hz1 hvlen hR)
        have hmlen : mm.length ≤ 65536 := by rw [← hmm]; exact missN_len e l s1 s2 hz0 hz1
        rw [hmm] at HM1 HM2
        clear hmm
        refine wp_region_soft 7 (putsSoft e mm s1 s2 W5.heap.size) (by kernel_rfl) (by kernel_rfl) (lt_cons ?_ (lt_cons ?_ (lt_cons ?_ (lt_cons ?_ (lt_cons ?_ (lt_cons ?_ (lt_cons ?_ lt_none))))))) ?_
        ·
          intro o ho xs W hW hd Q' hQ; obtain rfl := Option.some.inj ho; clear ho; simp only [fillAt, dstOf, List.getElem?_cons_zero, List.getElem?_cons_succ, Option.bind_some, Act.put, List.setIfInBounds_toArray, List.set_cons_zero, List.set_cons_succ, Nat.zero_add, Nat.reduceAdd] at hQ ⊢; have HQ := Lib.hid hQ; have HD := Lib.hid hd; have HW := Lib.hid hW; have hsW := hW.size; clear hQ hd hW
          have hrw : rowOf W (w.heap.size + 1) 0 45 = some (entC e) := (rowOf_congr (fun i _ => HW.out.cell (p := ⟨w.heap.size + 1, 0 + i, none⟩) (by show w.heap.size + 1 < _; omega))).trans row5
          go_wp2
          exact HQ.out _ _ (Ext.refl _) rfl
        ·
          intro o ho xs W hW hd Q' hQ; obtain rfl := Option.some.inj ho; clear ho; simp only [fillAt, dstOf, List.getElem?_cons_zero, List.getElem?_cons_succ, Option.bind_some, Act.put, List.setIfInBounds_toArray, List.set_cons_zero, List.set_cons_succ, Nat.zero_add, Nat.reduceAdd] at hQ ⊢; have HQ := Lib.hid hQ; have HD := Lib.hid hd; have HW := Lib.hid hW; have hsW := hW.size; clear hQ hd hW
          have hc0 : W.cell? ⟨w.heap.size + 1 + 1, 0, none⟩ = some (.int .i64 s1) := (HW.out.cell (p := ⟨w.heap.size + 1 + 1, 0, none⟩) hl5e).trans p0
          have hc1 : W.cell? ⟨w.heap.size + 1 + 1, 1, none⟩ = some (.int .i64 s2) := (HW.out.cell (p := ⟨w.heap.size + 1 + 1, 1, none⟩) hl5e).trans p1
          go_wp2
          exact HQ.out _ _ (Ext.refl _) rfl
        ·
          intro o ho xs W hW hd Q' hQ; obtain rfl := Option.some.inj ho; clear ho; simp only [fillAt, dstOf, List.getElem?_cons_zero, List.getElem?_cons_succ, Option.bind_some, Act.put, List.setIfInBounds_toArray, List.set_cons_zero, List.set_cons_succ, Nat.zero_add, Nat.reduceAdd] at hQ ⊢; have HQ := Lib.hid hQ; have HD := Lib.hid hd; have HW := Lib.hid hW; have hsW := hW.size; clear hQ hd hW
          have hd0 : xs 0 = .agg (entC e) := (HD.out 0 (of_decide_eq_true (by kernel_rfl)))
          generalize xs 0 = x0 at hd0 HQ ⊢; subst hd0
          have hd1 : xs 1 = .agg #[.int .i64 s1, .int .i64 s2] := (HD.out 1 (of_decide_eq_true (by kernel_rfl)))
          generalize xs 1 = x1 at hd1 HQ ⊢; subst hd1
          go_wp2_with (go_at_call 26; refine (HM1.out _ (HI.out.hr.on (HXa.out.trans HW.out))).mono ?_; rintro e1 w1 ⟨A5, c5, out, rfl, HO5, ho5, hx⟩)
          obtain rfl := HO5.out
          exact HQ.out _ _ hx ⟨A5, c5, rfl, ho5.lower hsW⟩
        ·
          intro o ho xs W hW hd Q' hQ; obtain rfl := Option.some.inj ho; clear ho; simp only [fillAt, dstOf, List.getElem?_cons_zero, List.getElem?_cons_succ, Option.bind_some, Act.put, List.setIfInBounds_toArray, List.set_cons_zero, List.set_cons_succ, Nat.zero_add, Nat.reduceAdd] at hQ ⊢; have HQ := Lib.hid hQ; have HD := Lib.hid hd; have HW := Lib.hid hW; have hsW := hW.size; clear hQ hd hW
          have hrw : rowOf W (w.heap.size + 1) 0 45 = some (entC e) := (rowOf_congr (fun i _ => HW.out.cell (p := ⟨w.heap.size + 1, 0 + i, none⟩) (by show w.heap.size + 1 < _; omega))).trans row5
          go_wp2
          exact HQ.out _ _ (Ext.refl _) rfl
        ·
          intro o ho xs W hW hd Q' hQ; obtain rfl := Option.some.inj ho; clear ho; simp only [fillAt, dstOf, List.getElem?_cons_zero, List.getElem?_cons_succ, Option.bind_some, Act.put, List.setIfInBounds_toArray, List.set_cons_zero, List.set_cons_succ, Nat.zero_add, Nat.reduceAdd] at hQ ⊢; have HQ := Lib.hid hQ; have HD := Lib.hid hd; have HW := Lib.hid hW; have hsW := hW.size; clear hQ hd hW
          have hc0 : W.cell? ⟨w.heap.size + 1 + 1, 0, none⟩ = some (.int .i64 s1) := (HW.out.cell (p := ⟨w.heap.size + 1 + 1, 0, none⟩) hl5e).trans p0
          have hc1 : W.cell? ⟨w.heap.size + 1 + 1, 1, none⟩ = some (.int .i64 s2) := (HW.out.cell (p := ⟨w.heap.size + 1 + 1, 1, none⟩) hl5e).trans p1
          go_wp2
          exact HQ.out _ _ (Ext.refl _) rfl
        ·
          intro o ho xs W hW hd Q' hQ; obtain rfl := Option.some.inj ho; clear ho; simp only [fillAt, dstOf, List.getElem?_cons_zero, List.getElem?_cons_succ, Option.bind_some, Act.put, List.setIfInBounds_toArray, List.set_cons_zero, List.set_cons_succ, Nat.zero_add, Nat.reduceAdd] at hQ ⊢; have HQ := Lib.hid hQ; have HD := Lib.hid hd; have HW := Lib.hid hW; have hsW := hW.size; clear hQ hd hW
          have hd3 : xs 3 = .agg (entC e) := (HD.out 3 (of_decide_eq_true (by kernel_rfl)))
          generalize xs 3 = x3 at hd3 HQ ⊢; subst hd3
          have hd4 : xs 4 = .agg #[.int .i64 s1, .int .i64 s2] := (HD.out 4 (of_decide_eq_true (by kernel_rfl)))
          generalize xs 4 = x4 at hd4 HQ ⊢; subst hd4
          go_wp2_with (go_at_call 27; refine (HM2.out _ (HI.out.hr.on (HXa.out.trans HW.out))).mono ?_; rintro e1 w1 ⟨A5, c5, out, rfl, HO5, ho5, hx⟩)
          obtain rfl := HO5.out
          exact HQ.out _ _ hx ⟨A5, c5, rfl, ho5.lower hsW⟩
        ·
          intro o ho xs W hW hd Q' hQ; obtain rfl := Option.some.inj ho; clear ho; simp only [fillAt, dstOf, List.getElem?_cons_zero, List.getElem?_cons_succ, Option.bind_some, Act.put, List.setIfInBounds_toArray, List.set_cons_zero, List.set_cons_succ, Nat.zero_add, Nat.reduceAdd] at hQ ⊢; have HQ := Lib.hid hQ; have HD := Lib.hid hd; have HW := Lib.hid hW; have hsW := hW.size; clear hQ hd hW
          obtain ⟨A5, c5, h2, ho2⟩ : (ownSoft mm W5.heap.size).S (xs 2) W := (HD.out 2 (of_decide_eq_true (by kernel_rfl)))
          generalize xs 2 = x2 at h2 HQ ⊢; subst h2
          obtain ⟨A6, c6, h5, ho5⟩ : (ownSoft mm W5.heap.size).S (xs 5) W := (HD.out 5 (of_decide_eq_true (by kernel_rfl)))
          generalize xs 5 = x5 at h5 HQ ⊢; subst h5
          have HO2 := Lib.hid ho2
          have HO5 := Lib.hid ho5
          clear ho2 ho5
          go_wp2_with (go_at_call 25; refine (rsame_any A5 A6 c5 c6 mm _ (by omega) (HO2.out.reads spE) (HO5.out.reads spE)).mono ?_; rintro e1 w1 ⟨rfl, hx⟩)
          exact HQ.out _ _ hx rfl
        ·
          intro xs W6 hW hSS
          have h6 : xs 6 = .bool true := hSS 6 (by omega)
          simp only [fillAt, dstOf, List.getElem?_cons_zero, List.getElem?_cons_succ, Option.bind_some, Act.put, List.setIfInBounds_toArray, List.set_cons_zero, List.set_cons_succ, Nat.zero_add, Nat.reduceAdd, List.drop_succ_cons, List.drop_zero]
          generalize xs 6 = x6 at *; subst h6
          clear hSS row5 p0 p1
          have HX6 : Hid (Ext w W6) := Lib.hid (HXa.out.trans hW)
          have hr6 := HR5.out.ext hW
          have hy6 := (HR4.out.ext HX5.out).ext hW
          have rowy : rowOf W6 B5 0 45 = some (entC y) := hy6.all (ent_size _).symm (by omega)
          have rowz : rowOf W6 B6 0 45 = some (entC z) := by rw [hr6.row, if_neg (by omega), got_ent]
          have c45' : W6.cell? ⟨B6, 45, none⟩ = some (.int .i64 rn) := hr6.cell 45
          have hl6 := hr6.lt
          have hl6y := hy6.lt
          have HQy : Hid (ReadsSp W6 W6.heap.size A1 rl) := Lib.hid (HQ4.out.on (HX5.out.trans hW))
          have HQz : Hid (ReadsSp W6 W6.heap.size A2 rl) := Lib.hid (HQ5.out.on hW)
          clear hr6 hy6 hW HM1 HM2
          go_wp2_with (first
            | (go_at_call 18; refine (show Hid _ from ?_).out)
            | (go_at_call 19; refine (show Hid _ from ?_).out)
            | (go_at_call 17; refine (show Hid _ from ?_).out)
            | (go_at_call 20; refine (show Hid _ from ?_).out)
            | (go_at_call 21; refine (show Hid _ from ?_).out)
            | (go_at_call 22; refine (show Hid _ from ?_).out)
            | (go_at_call 23; refine (show Hid _ from ?_).out)
            | (go_at_call 24; refine (show Hid _ from ?_).out)
            | (go_at_call 9; refine (show Hid _ from ?_).out))
          refine Lib.hid ?_
          refine (sanity_ok _ (RowAt.ext HK.out HX6.out) (RowAt.ext HRK.out HX6.out)).mono ?_
          rintro e' w' ⟨rfl, hxl⟩; obtain ⟨xk, rfl⟩ := hxl.asLater; clear hxl
          go_wp2_with (first
            | (go_at_call 18; refine (show Hid _ from ?_).out)
            | (go_at_call 19; refine (show Hid _ from ?_).out)
            | (go_at_call 17; refine (show Hid _ from ?_).out)
            | (go_at_call 20; refine (show Hid _ from ?_).out)
            | (go_at_call 21; refine (show Hid _ from ?_).out)
            | (go_at_call 22; refine (show Hid _ from ?_).out)
            | (go_at_call 23; refine (show Hid _ from ?_).out)
            | (go_at_call 24; refine (show Hid _ from ?_).out)
            | (go_at_call 9; refine (show Hid _ from ?_).out))
          refine Lib.hid ?_
          have hsm := same_any y A1 A2 c1 c2 rl (later W6 xk) hvy (by omega) (HQy.out.on (ext_later _ _)) (HQz.out.on (ext_later _ _))
          rw [show ({ y with hv := .slice A2 rl.length c2 } : En) = z by rw [← HY.out, ← HZz.out]] at hsm
          refine hsm.mono ?_
          clear hsm
          rintro e' w' ⟨rfl, hxl⟩; obtain ⟨xm, rfl⟩ := hxl.asLater; clear hxl
          go_wp2_with (first
            | (go_at_call 18; refine (show Hid _ from ?_).out)
            | (go_at_call 19; refine (show Hid _ from ?_).out)
            | (go_at_call 17; refine (show Hid _ from ?_).out)
            | (go_at_call 20; refine (show Hid _ from ?_).out)
            | (go_at_call 21; refine (show Hid _ from ?_).out)
            | (go_at_call 22; refine (show Hid _ from ?_).out)
            | (go_at_call 23; refine (show Hid _ from ?_).out)
            | (go_at_call 24; refine (show Hid _ from ?_).out)
            | (go_at_call 9; refine (show Hid _ from ?_).out))
          refine Lib.hid ?_
          have hyst : y.st = e.st := by rw [← HY.out]; exact HST.out
          have hyby : y.bytes.size = re.bytes.size := by rw [← HY.out]
          have hyv : validB y rl = true := by rw [← HY.out]; exact HRV.out
          refine (rvalidE_any y A1 c1 rl _ hvy (by omega) (by rw [hyst]; exact HI.out.h1) (by rw [hyst]; exact HI.out.h2) (by rw [hyst]; exact HI.out.h3) (by omega) (by rw [hyst]; exact HI.out.hb) (by rw [hyst]; exact HI.out.hby) (RowAt.ext HRK.out (HX6.out.onto _)) (HQy.out.on (ext_later _ _))).mono ?_
          rw [hyv]
          rintro e' w' ⟨rfl, hxl⟩; obtain ⟨xo, rfl⟩ := hxl.asLater; clear hxl
          go_wp2
          go_ret
          exact ⟨rfl, HX6.out.onto _⟩
  · have d0 : (xn == 0) = false := by simpa using hz
    clear hz
    go_wp2_with (first
      | (go_at_call 18; refine (show Hid _ from ?_).out)
      | (go_at_call 19; refine (show Hid _ from ?_).out)
      | (go_at_call 17; refine (show Hid _ from ?_).out)
      | (go_at_call 20; refine (show Hid _ from ?_).out)
      | (go_at_call 21; refine (show Hid _ from ?_).out)
      | (go_at_call 22; refine (show Hid _ from ?_).out)
      | (go_at_call 23; refine (show Hid _ from ?_).out)
      | (go_at_call 24; refine (show Hid _ from ?_).out)
      | (go_at_call 9; refine (show Hid _ from ?_).out))
    refine Lib.hid ?_
    refine calls_world (fun W => Ext w W ∧ RowAt W (w.heap.size + 1) (entC e) ∧ RowAt W (w.heap.size + 1 + 1) #[.int .i64 s1, .int .i64 s2]) ⟨(HX00.out.trans HX2.out).onto _, (HRe.out.ext HX2.out).later _, (HRp.out.ext HX2.out).later _⟩ ?_
    rintro W3 ⟨x3, r3e, r3p⟩
    have HX3 := Lib.hid x3
    have HR3e := Lib.hid r3e
    have HR3p := Lib.hid r3p
    have hl3e := r3e.lt
    have hl3p := r3p.lt
    have row3 : rowOf W3 (w.heap.size + 1) 0 45 = some (entC e) := r3e.all (ent_size _).symm (by omega)
    clear x3 r3e r3p
    cases hli : lightB e l.length with
    | false =>
      have HLi := Lib.hid hli
      clear hli
      refine (light_any e A l.length c _ HI.out.hv HI.out.h4 HI.out.hl HI.out.h1 HI.out.h2 HI.out.h3).mono ?_
      rw [HLi.out]
      rintro e' w' ⟨rfl, hxl⟩; obtain ⟨xd, rfl⟩ := hxl.asLater; clear hxl
      go_wp2_with (first
        | (go_at_call 18; refine (show Hid _ from ?_).out)
        | (go_at_call 19; refine (show Hid _ from ?_).out)
        | (go_at_call 17; refine (show Hid _ from ?_).out)
        | (go_at_call 20; refine (show Hid _ from ?_).out)
        | (go_at_call 21; refine (show Hid _ from ?_).out)
        | (go_at_call 22; refine (show Hid _ from ?_).out)
        | (go_at_call 23; refine (show Hid _ from ?_).out)
        | (go_at_call 24; refine (show Hid _ from ?_).out)
        | (go_at_call 9; refine (show Hid _ from ?_).out))
      refine Lib.hid ?_
      refine (sanity_ok _ (RowAt.ext HK.out (HX3.out.onto _)) (RowAt.ext HRK.out (HX3.out.onto _))).mono ?_
      rintro e' w' ⟨rfl, hxl⟩; obtain ⟨xe, rfl⟩ := hxl.asLater; clear hxl
      go_wp2
      go_ret
      exact ⟨rfl, HX3.out.onto _⟩
    | true =>
      have hlb := hli
      simp only [lightB, Bool.and_eq_true, decide_eq_true_eq] at hlb
      have HLi := Lib.hid hli
      clear hli
      refine (light_any e A l.length c _ HI.out.hv HI.out.h4 HI.out.hl HI.out.h1 HI.out.h2 HI.out.h3).mono ?_
      rw [HLi.out]
      rintro e' w' ⟨rfl, hxl⟩; obtain ⟨xd, rfl⟩ := hxl.asLater; clear hxl
      go_wp2_with (first
        | (go_at_call 18; refine (show Hid _ from ?_).out)
        | (go_at_call 19; refine (show Hid _ from ?_).out)
        | (go_at_call 17; refine (show Hid _ from ?_).out)
        | (go_at_call 20; refine (show Hid _ from ?_).out)
        | (go_at_call 21; refine (show Hid _ from ?_).out)
        | (go_at_call 22; refine (show Hid _ from ?_).out)
        | (go_at_call 23; refine (show Hid _ from ?_).out)
        | (go_at_call 24; refine (show Hid _ from ?_).out)
        | (go_at_call 9; refine (show Hid _ from ?_).out))
      refine Lib.hid ?_
      obtain ⟨vv, hvv⟩ : ∃ vv, validB e l = vv := ⟨_, rfl⟩
      have HVV := Lib.hid hvv
      clear hvv
      refine (rvalidE_any e A c l _ HI.out.hv (by omega) HI.out.h1 HI.out.h2 HI.out.h3 (by omega) HI.out.hb HI.out.hby (RowAt.ext HRK.out (HX3.out.onto _)) (HI.out.hr.on (HX3.out.onto _))).mono ?_
      rw [HVV.out]
      rintro e' w' ⟨rfl, hxl⟩; obtain ⟨xe, rfl⟩ := hxl.asLater; clear hxl
      go_wp2_with (first
        | (go_at_call 18; refine (show Hid _ from ?_).out)
        | (go_at_call 19; refine (show Hid _ from ?_).out)
        | (go_at_call 17; refine (show Hid _ from ?_).out)
        | (go_at_call 20; refine (show Hid _ from ?_).out)
        | (go_at_call 21; refine (show Hid _ from ?_).out)
        | (go_at_call 22; refine (show Hid _ from ?_).out)
        | (go_at_call 23; refine (show Hid _ from ?_).out)
        | (go_at_call 24; refine (show Hid _ from ?_).out)
        | (go_at_call 9; refine (show Hid _ from ?_).out))
      refine Lib.hid ?_
      refine (evalid_any e A c l _ HI.out.hv (by omega) HI.out.h1 HI.out.h2 HI.out.h3 (by omega) HI.out.hb HI.out.hby (RowAt.ext HK.out ((HX3.out.onto _).onto _)) (HI.out.hr.on ((HX3.out.onto _).onto _)) HI.out.z).mono ?_
      rw [HVV.out]
      rintro e' w' ⟨rfl, hxl⟩; obtain ⟨xg, rfl⟩ := hxl.asLater; clear hxl
      cases vv with
      | false =>
        go_wp2_with (first
          | (go_at_call 18; refine (show Hid _ from ?_).out)
          | (go_at_call 19; refine (show Hid _ from ?_).out)
          | (go_at_call 17; refine (show Hid _ from ?_).out)
          | (go_at_call 20; refine (show Hid _ from ?_).out)
          | (go_at_call 21; refine (show Hid _ from ?_).out)
          | (go_at_call 22; refine (show Hid _ from ?_).out)
          | (go_at_call 23; refine (show Hid _ from ?_).out)
          | (go_at_call 24; refine (show Hid _ from ?_).out)
          | (go_at_call 9; refine (show Hid _ from ?_).out))
        refine Lib.hid ?_
        refine (sanity_ok _ (RowAt.ext HK.out (HX3.out.onto _)) (RowAt.ext HRK.out (HX3.out.onto _))).mono ?_
        rintro e' w' ⟨rfl, hxl⟩; obtain ⟨xi, rfl⟩ := hxl.asLater; clear hxl
        go_wp2
        go_ret
        exact ⟨rfl, HX3.out.onto _⟩
      | true =>
        go_wp2_with (first
          | (go_at_call 18; refine (show Hid _ from ?_).out)
          | (go_at_call 19; refine (show Hid _ from ?_).out)
          | (go_at_call 17; refine (show Hid _ from ?_).out)
          | (go_at_call 20; refine (show Hid _ from ?_).out)
          | (go_at_call 21; refine (show Hid _ from ?_).out)
          | (go_at_call 22; refine (show Hid _ from ?_).out)
          | (go_at_call 23; refine (show Hid _ from ?_).out)
          | (go_at_call 24; refine (show Hid _ from ?_).out)
          | (go_at_call 9; refine (show Hid _ from ?_).out))
        refine Lib.hid ?_
        obtain ⟨r, hr⟩ : ∃ r, putN e l f more = r := ⟨_, rfl⟩
        have hval := val_iff.1 HVV.out
        have hvlen := hval.len
        have hpst := (put_st e l f more).1
        have hpv := put_val hval f more
        have HPa := Lib.hid (fun W hK hR => eput_any e A c l f more W HI.out.hv hval hf (by omega) HI.out.hb HI.out.hby hK HI.out.hA HI.out.z hR)
        have HPb := Lib.hid (fun W hK hR => rput_any e A c l f more W HI.out.hv hval hf (by omega) HI.out.hb HI.out.hby hK HI.out.hA HI.out.z hR)
        rw [hr] at hpst hpv HPa HPb
        obtain ⟨re, rl, rn⟩ := r
        have hrlen : rl.length ≤ 65536 := hpv.len
        have hrby : (re.bytes.size : Int) = re.st.size := hpv.bs
        have hrsz : re.st.size ≤ 65536 := hpv.sz
        have HRV : Hid (validB re rl = true) := Lib.hid (val_iff.2 hpv)
        have HST : Hid (re.st = e.st) := Lib.hid hpst
        have HSI : Hid (SetIn l e.st.size) := Lib.hid hval.si
        have hz0 := hval.z0
        have hz1 := hval.sz
        clear hval hpst hpv hr
        refine (HPa.out _ (RowAt.ext HK.out (HX3.out.onto _)) (HI.out.hr.on (HX3.out.onto _))).mono ?_
        rintro e' w' ⟨A1, c1, rfl, _, _, hr1, hx1⟩
        have HQ1 := Lib.hid hr1
        obtain ⟨xh, rfl⟩ := hx1.asLater
        obtain ⟨y, hy⟩ : ∃ y, ({ re with hv := .slice A1 rl.length c1 } : En) = y := ⟨_, rfl⟩
        have hvy : y.hv = .slice A1 rl.length c1 := by rw [← hy]
        have hfy : fitsRow 45 (entC y) = true := ent_fits_of hvy
        have HY := Lib.hid hy
        simp only [hy]
        clear hr1 hx1 hy HPa
        go_wp2_with (first
          | (go_at_call 18; refine (show Hid _ from ?_).out)
          | (go_at_call 19; refine (show Hid _ from ?_).out)
          | (go_at_call 17; refine (show Hid _ from ?_).out)
          | (go_at_call 20; refine (show Hid _ from ?_).out)
          | (go_at_call 21; refine (show Hid _ from ?_).out)
          | (go_at_call 22; refine (show Hid _ from ?_).out)
          | (go_at_call 23; refine (show Hid _ from ?_).out)
          | (go_at_call 24; refine (show Hid _ from ?_).out)
          | (go_at_call 9; refine (show Hid _ from ?_).out))
        refine Lib.hid ?_
        refine calls_world (fun W => Ext W3 W ∧ RowAt W (W3.heap.size + (((xd.comp xe).comp xg).comp xh).n) (entC y) ∧ ReadsSp W W.heap.size A1 rl) ⟨(by (repeat (first | with_reducible exact Ext.refl _ | with_reducible exact Ext.refl _ | with_reducible refine Ext.drew ?_ | with_reducible refine Ext.drewN ?_ _ | with_reducible refine Ext.alloc ?_ _ | with_reducible refine Ext.onto ?_ _ | (with_reducible refine Ext.setCells ?_ ?_ _ _; rotate_left; focus (first | omega | (simp; done) | (simp; omega))) | (with_reducible refine Ext.setCell ?_ ?_ _; rotate_left; focus (first | omega | (simp; done) | (simp; omega)))))), (RowAt.newAt (cs := entC noEn) (t := 31) (by simp [later_size])).store (by rw [ent_size, ent_size]), HQ1.out.on (Ext.setCells ((Ext.refl _).alloc _) (by simp only [later_size, Later.comp_n] <;> omega) _ _)⟩ ?_
        generalize W3.heap.size + (((xd.comp xe).comp xg).comp xh).n = B5
        rintro W4 ⟨x4, r4, q4⟩
        have HX4 := Lib.hid x4
        have HR4 := Lib.hid r4
        have HQ4 := Lib.hid q4
        have hl4 := r4.lt
        clear x4 r4 q4 HQ1
        refine (HPb.out _ (RowAt.ext HRK.out (HX3.out.trans HX4.out)) (HI.out.hr.on (HX3.out.trans HX4.out))).mono ?_
        rintro e' w' ⟨A2, c2, rfl, _, _, hr2, hx2⟩
        have HQ2 := Lib.hid hr2
        obtain ⟨xj, rfl⟩ := hx2.asLater
        obtain ⟨z, hzz⟩ : ∃ z, ({ re with hv := .slice A2 rl.length c2 } : En) = z := ⟨_, rfl⟩
        have hvz : z.hv = .slice A2 rl.length c2 := by rw [← hzz]
        have hfz : fitsRow 46 (gotC z rn) = true := got_fits_of rn hvz
        have HZz := Lib.hid hzz
        simp only [hzz]
        clear hr2 hx2 hzz HPb
        go_upto_region 17 with (fail)
        refine wp_world (fun W => Ext W4 W ∧ RowAt W (W4.heap.size + xj.n) (gotC z rn) ∧ ReadsSp W W.heap.size A2 rl) ⟨(by (repeat (first | with_reducible exact Ext.refl _ | with_reducible exact Ext.refl _ | with_reducible refine Ext.drew ?_ | with_reducible refine Ext.drewN ?_ _ | with_reducible refine Ext.alloc ?_ _ | with_reducible refine Ext.onto ?_ _ | (with_reducible refine Ext.setCells ?_ ?_ _ _; rotate_left; focus (first | omega | (simp; done) | (simp; omega))) | (with_reducible refine Ext.setCell ?_ ?_ _; rotate_left; focus (first | omega | (simp; done) | (simp; omega)))))), RowAt.store (RowAt.newAt (cs := gotC noEn 0) (t := 62) (by simp [later_size])) (by rw [got_size, got_size]), HQ2.out.on (Ext.setCells ((Ext.refl _).alloc _) (by simp only [later_size, Later.comp_n] <;> omega) _ _)⟩ ?_
        generalize W4.heap.size + xj.n = B6
        rintro W5 ⟨x5, r5, q5⟩
        have HX5 := Lib.hid x5
        have HR5 := Lib.hid r5
        have HQ5 := Lib.hid q5
        have HXa : Hid (Ext w W5) := Lib.hid ((HX3.out.trans HX4.out).trans x5)
        have row5 : rowOf W5 (w.heap.size + 1) 0 45 = some (entC e) := ((HR3e.out.ext HX4.out).ext x5).all (ent_size _).symm (by omega)
        have p0 : W5.cell? ⟨w.heap.size + 1 + 1, 0, none⟩ = some (.int .i64 s1) := ((HR3p.out.ext HX4.out).ext x5).cell 0
        have p1 : W5.cell? ⟨w.heap.size + 1 + 1, 1, none⟩ = some (.int .i64 s2) := ((HR3p.out.ext HX4.out).ext x5).cell 1
        have hl5 := r5.lt
        have hl5e := ((HR3p.out.ext HX4.out).ext x5).lt
        clear x5 r5 q5 HQ2 row3 hl3e hl3p
        obtain ⟨mm, hmm⟩ : ∃ mm, missN e l s1 s2 = mm := ⟨_, rfl⟩
        have HM1 := Lib.hid (fun W hR => emissE_any e A c l s1 s2 W HI.out.hv hz0 hz1 HSI.out.1 (HSI.out.bd2 (by omega)) hvlen hR HI.out.z)
        have HM2 := Lib.hid (fun W hR => rmissE_any e A c l s1 s2 W HI.out.hv hz0 hz1 hvlen hR)
        have hmlen : mm.length ≤ 65536 := by rw [← hmm]; exact missN_len e l s1 s2 hz0 hz1
        rw [hmm] at HM1 HM2
        clear hmm
        refine wp_region_soft 7 (putsSoft e mm s1 s2 W5.heap.size) (by kernel_rfl) (by kernel_rfl) (lt_cons ?_ (lt_cons ?_ (lt_cons ?_ (lt_cons ?_ (lt_cons ?_ (lt_cons ?_ (lt_cons ?_ lt_none))))))) ?_
        ·
          intro o ho xs W hW hd Q' hQ; obtain rfl := Option.some.inj ho; clear ho; simp only [fillAt, dstOf, List.getElem?_cons_zero, List.getElem?_cons_succ, Option.bind_some, Act.put, List.setIfInBounds_toArray, List.set_cons_zero, List.set_cons_succ, Nat.zero_add, Nat.reduceAdd] at hQ ⊢; have HQ := Lib.hid hQ; have HD := Lib.hid hd; have HW := Lib.hid hW; have hsW := hW.size; clear hQ hd hW
          have hrw : rowOf W (w.heap.size + 1) 0 45 = some (entC e) := (rowOf_congr (fun i _ => HW.out.cell (p := ⟨w.heap.size + 1, 0 + i, none⟩) (by show w.heap.size + 1 < _; omega))).trans row5
          go_wp2
          exact HQ.out _ _ (Ext.refl _) rfl
        ·
          intro o ho xs W hW hd Q' hQ; obtain rfl := Option.some.inj ho; clear ho; simp only [fillAt, dstOf, List.getElem?_cons_zero, List.getElem?_cons_succ, Option.bind_some, Act.put, List.setIfInBounds_toArray, List.set_cons_zero, List.set_cons_succ, Nat.zero_add, Nat.reduceAdd] at hQ ⊢; have HQ := Lib.hid hQ; have HD := Lib.hid hd; have HW := Lib.hid hW; have hsW := hW.size; clear hQ hd hW
          have hc0 : W.cell? ⟨w.heap.size + 1 + 1, 0, none⟩ = some (.int .i64 s1) := (HW.out.cell (p := ⟨w.heap.size + 1 + 1, 0, none⟩) hl5e).trans p0
          have hc1 : W.cell? ⟨w.heap.size + 1 + 1, 1, none⟩ = some (.int .i64 s2) := (HW.out.cell (p := ⟨w.heap.size + 1 + 1, 1, none⟩) hl5e).trans p1
          go_wp2
          exact HQ.out _ _ (Ext.refl _) rfl
        ·
          intro o ho xs W hW hd Q' hQ; obtain rfl := Option.some.inj ho; clear ho; simp only [fillAt, dstOf, List.getElem?_cons_zero, List.getElem?_cons_succ, Option.bind_some, Act.put, List.setIfInBounds_toArray, List.set_cons_zero, List.set_cons_succ, Nat.zero_add, Nat.reduceAdd] at hQ ⊢; have HQ := Lib.hid hQ; have HD := Lib.hid hd; have HW := Lib.hid hW; have hsW := hW.size; clear hQ hd hW
          have hd0 : xs 0 = .agg (entC e) := (HD.out 0 (of_decide_eq_true (by kernel_rfl)))
          generalize xs 0 = x0 at hd0 HQ ⊢; subst hd0
          have hd1 : xs 1 = .agg #[.int .i64 s1, .int .i64 s2] := (HD.out 1 (of_decide_eq_true (by kernel_rfl)))
          generalize xs 1 = x1 at hd1 HQ ⊢; subst hd1
          go_wp2_with (go_at_call 26; refine (HM1.out _ (HI.out.hr.on (HXa.out.trans HW.out))).mono ?_; rintro e1 w1 ⟨A5, c5, out, rfl, HO5, ho5, hx⟩)
          obtain rfl := HO5.out
          exact HQ.out _ _ hx ⟨A5, c5, rfl, ho5.lower hsW⟩
        ·
          intro o ho xs W hW hd Q' hQ; obtain rfl := Option.some.inj ho; clear ho; simp only [fillAt, dstOf, List.getElem?_cons_zero, List.getElem?_cons_succ, Option.bind_some, Act.put, List.setIfInBounds_toArray, List.set_cons_zero, List.set_cons_succ, Nat.zero_add, Nat.reduceAdd] at hQ ⊢; have HQ := Lib.hid hQ; have HD := Lib.hid hd; have HW := Lib.hid hW; have hsW := hW.size; clear hQ hd hW
          have hrw : rowOf W (w.heap.size + 1) 0 45 = some (entC e) := (rowOf_congr (fun i _ => HW.out.cell (p := ⟨w.heap.size + 1, 0 + i, none⟩) (by show w.heap.size + 1 < _; omega))).trans row5
          go_wp2
          exact HQ.out _ _ (Ext.refl _) rfl
        ·
          intro o ho xs W hW hd Q' hQ; obtain rfl := Option.some.inj ho; clear ho; simp only [fillAt, dstOf, List.getElem?_cons_zero, List.getElem?_cons_succ, Option.bind_some, Act.put, List.setIfInBounds_toArray, List.set_cons_zero, List.set_cons_succ, Nat.zero_add, Nat.reduceAdd] at hQ ⊢; have HQ := Lib.hid hQ; have HD := Lib.hid hd; have HW := Lib.hid hW; have hsW := hW.size; clear hQ hd hW
          have hc0 : W.cell? ⟨w.heap.size + 1 + 1, 0, none⟩ = some (.int .i64 s1) := (HW.out.cell (p := ⟨w.heap.size + 1 + 1, 0, none⟩) hl5e).trans p0
          have hc1 : W.cell? ⟨w.heap.size + 1 + 1, 1, none⟩ = some (.int .i64 s2) := (HW.out.cell (p := ⟨w.heap.size + 1 + 1, 1, none⟩) hl5e).trans p1
          go_wp2
          exact HQ.out _ _ (Ext.refl _) rfl
        ·
          intro o ho xs W hW hd Q' hQ; obtain rfl := Option.some.inj ho; clear ho; simp only [fillAt, dstOf, List.getElem?_cons_zero, List.getElem?_cons_succ, Option.bind_some, Act.put, List.setIfInBounds_toArray, List.set_cons_zero, List.set_cons_succ, Nat.zero_add, Nat.reduceAdd] at hQ ⊢; have HQ := Lib.hid hQ; have HD := Lib.hid hd; have HW := Lib.hid hW; have hsW := hW.size; clear hQ hd hW
          have hd3 : xs 3 = .agg (entC e) := (HD.out 3 (of_decide_eq_true (by kernel_rfl)))
          generalize xs 3 = x3 at hd3 HQ ⊢; subst hd3
          have hd4 : xs 4 = .agg #[.int .i64 s1, .int .i64 s2] := (HD.out 4 (of_decide_eq_true (by kernel_rfl)))
          generalize xs 4 = x4 at hd4 HQ ⊢; subst hd4
          go_wp2_with (go_at_call 27; refine (HM2.out _ (HI.out.hr.on (HXa.out.trans HW.out))).mono ?_; rintro e1 w1 ⟨A5, c5, out, rfl, HO5, ho5, hx⟩)
          obtain rfl := HO5.out
          exact HQ.out _ _ hx ⟨A5, c5, rfl, ho5.lower hsW⟩
        ·
          intro o ho xs W hW hd Q' hQ; obtain rfl := Option.some.inj ho; clear ho; simp only [fillAt, dstOf, List.getElem?_cons_zero, List.getElem?_cons_succ, Option.bind_some, Act.put, List.setIfInBounds_toArray, List.set_cons_zero, List.set_cons_succ, Nat.zero_add, Nat.reduceAdd] at hQ ⊢; have HQ := Lib.hid hQ; have HD := Lib.hid hd; have HW := Lib.hid hW; have hsW := hW.size; clear hQ hd hW
          obtain ⟨A5, c5, h2, ho2⟩ : (ownSoft mm W5.heap.size).S (xs 2) W := (HD.out 2 (of_decide_eq_true (by kernel_rfl)))
          generalize xs 2 = x2 at h2 HQ ⊢; subst h2
          obtain ⟨A6, c6, h5, ho5⟩ : (ownSoft mm W5.heap.size).S (xs 5) W := (HD.out 5 (of_decide_eq_true (by kernel_rfl)))
          generalize xs 5 = x5 at h5 HQ ⊢; subst h5
          have HO2 := Lib.hid ho2
          have HO5 := Lib.hid ho5
          clear ho2 ho5
          go_wp2_with (go_at_call 25; refine (rsame_any A5 A6 c5 c6 mm _ (by omega) (HO2.out.reads spE) (HO5.out.reads spE)).mono ?_; rintro e1 w1 ⟨rfl, hx⟩)
          exact HQ.out _ _ hx rfl
        ·
          intro xs W6 hW hSS
          have h6 : xs 6 = .bool true := hSS 6 (by omega)
          simp only [fillAt, dstOf, List.getElem?_cons_zero, List.getElem?_cons_succ, Option.bind_some, Act.put, List.setIfInBounds_toArray, List.set_cons_zero, List.set_cons_succ, Nat.zero_add, Nat.reduceAdd, List.drop_succ_cons, List.drop_zero]
          generalize xs 6 = x6 at *; subst h6
          clear hSS row5 p0 p1
          have HX6 : Hid (Ext w W6) := Lib.hid (HXa.out.trans hW)
          have hr6 := HR5.out.ext hW
          have hy6 := (HR4.out.ext HX5.out).ext hW
          have rowy : rowOf W6 B5 0 45 = some (entC y) := hy6.all (ent_size _).symm (by omega)
          have rowz : rowOf W6 B6 0 45 = some (entC z) := by rw [hr6.row, if_neg (by omega), got_ent]
          have c45' : W6.cell? ⟨B6, 45, none⟩ = some (.int .i64 rn) := hr6.cell 45
          have hl6 := hr6.lt
          have hl6y := hy6.lt
          have HQy : Hid (ReadsSp W6 W6.heap.size A1 rl) := Lib.hid (HQ4.out.on (HX5.out.trans hW))
          have HQz : Hid (ReadsSp W6 W6.heap.size A2 rl) := Lib.hid (HQ5.out.on hW)
          clear hr6 hy6 hW HM1 HM2
          go_wp2_with (first
            | (go_at_call 18; refine (show Hid _ from ?_).out)
            | (go_at_call 19; refine (show Hid _ from ?_).out)
            | (go_at_call 17; refine (show Hid _ from ?_).out)
            | (go_at_call 20; refine (show Hid _ from ?_).out)
            | (go_at_call 21; refine (show Hid _ from ?_).out)
            | (go_at_call 22; refine (show Hid _ from ?_).out)
            | (go_at_call 23; refine (show Hid _ from ?_).out)
            | (go_at_call 24; refine (show Hid _ from ?_).out)
            | (go_at_call 9; refine (show Hid _ from ?_).out))
          refine Lib.hid ?_
          refine (sanity_ok _ (RowAt.ext HK.out HX6.out) (RowAt.ext HRK.out HX6.out)).mono ?_
          rintro e' w' ⟨rfl, hxl⟩; obtain ⟨xk, rfl⟩ := hxl.asLater; clear hxl
          go_wp2_with (first
            | (go_at_call 18; refine (show Hid _ from ?_).out)
            | (go_at_call 19; refine (show Hid _ from ?_).out)
            | (go_at_call 17; refine (show Hid _ from ?_).out)
            | (go_at_call 20; refine (show Hid _ from ?_).out)
            | (go_at_call 21; refine (show Hid _ from ?_).out)
            | (go_at_call 22; refine (show Hid _ from ?_).out)
            | (go_at_call 23; refine (show Hid _ from ?_).out)
            | (go_at_call 24; refine (show Hid _ from ?_).out)
            | (go_at_call 9; refine (show Hid _ from ?_).out))
          refine Lib.hid ?_
          have hsm := same_any y A1 A2 c1 c2 rl (later W6 xk) hvy (by omega) (HQy.out.on (ext_later _ _)) (HQz.out.on (ext_later _ _))
          rw [show ({ y with hv := .slice A2 rl.length c2 } : En) = z by rw [← HY.out, ← HZz.out]] at hsm
          refine hsm.mono ?_
          clear hsm
          rintro e' w' ⟨rfl, hxl⟩; obtain ⟨xm, rfl⟩ := hxl.asLater; clear hxl
          go_wp2_with (first
            | (go_at_call 18; refine (show Hid _ from ?_).out)
            | (go_at_call 19; refine (show Hid _ from ?_).out)
            | (go_at_call 17; refine (show Hid _ from ?_).out)
            | (go_at_call 20; refine (show Hid _ from ?_).out)
            | (go_at_call 21; refine (show Hid _ from ?_).out)
            | (go_at_call 22; refine (show Hid _ from ?_).out)
            | (go_at_call 23; refine (show Hid _ from ?_).out)
            | (go_at_call 24; refine (show Hid _ from ?_).out)
            | (go_at_call 9; refine (show Hid _ from ?_).out))
          refine Lib.hid ?_
          have hyst : y.st = e.st := by rw [← HY.out]; exact HST.out
          have hyby : y.bytes.size = re.bytes.size := by rw [← HY.out]
          have hyv : validB y rl = true := by rw [← HY.out]; exact HRV.out
          refine (rvalidE_any y A1 c1 rl _ hvy (by omega) (by rw [hyst]; exact HI.out.h1) (by rw [hyst]; exact HI.out.h2) (by rw [hyst]; exact HI.out.h3) (by omega) (by rw [hyst]; exact HI.out.hb) (by rw [hyst]; exact HI.out.hby) (RowAt.ext HRK.out (HX6.out.onto _)) (HQy.out.on (ext_later _ _))).mono ?_
          rw [hyv]
          rintro e' w' ⟨rfl, hxl⟩; obtain ⟨xo, rfl⟩ := hxl.asLater; clear hxl
          go_wp2
          go_ret
          exact ⟨rfl, HX6.out.onto _⟩
end Go.Proofs.YtiacnoejlmaplaaGreatDoor
