/- Walks of entries: Hit, Part of the program and of the specification, SameEntry. -/
import Derived.Test.YtmjdnkeloolmdaaGreatDoorProg
import Derived.Test.YtmjdnkeloolmdaaGreatDoorExt
import Derived.WalkKit
import Derived.WalkSpells
import Derived.WalkLawsBesides
import Derived.Deep.QuietTactic
import Derived.BigQuiet
import Derived.Test.YtmjdnkeloolmdaaGreatDoorFb
set_option linter.unusedVariables false
set_option linter.unusedSimpArgs false
namespace Go.Proofs.YtmjdnkeloolmdaaGreatDoor
open Go.RowKit Go.Shelf
open Go.Proofs
open Go.Proofs.Sp (Sp)

def HitIs (e2 : Value → En) (l : List Sp) (ok : Bool) (w : World) (e' : Ending) (w' : World) : Prop := ∃ A' c', e' = .returned (.tuple #[.agg (entC (e2 (.slice A' l.length c'))), .bool ok]) ∧ OwnsSp w.heap.size w' A' c' l ∧ Ext w w'
set_option maxHeartbeats 1000000 in
theorem hit_fresh (e : En) (A : Option Addr) (c : Nat) (l : List Sp) (w : World) (hv : e.hv = .slice A l.length c) (hA : plainA A) (hlen : l.length * 16 ≤ 140737488355328) (hr : ReadsSp w w.heap.size A l) :
    Calls Tryz.prog 13 #[.agg (entC e), .int .i64 0] w (HitIs (fun v => { e with hv := v }) l true w) := by
  have hc42 : (entC e)[42]? = some (.slice A l.length c) := by rw [ent_g42, hv]
  have HR := Lib.hid hr
  have HA := Lib.hid hA
  have hf0 : fitsRow 45 (entC noEn) = true := ent_fits_of rfl
  clear hr hA
  go_enter Tryz.func13, Tryz.ntmps13
  go_wp2_with (go_at_call 41; refine (clone_any A c l _ HA.out hlen (HR.out.on (by (repeat (first | with_reducible exact Ext.refl _ | with_reducible exact Ext.refl _ | with_reducible refine Ext.drew ?_ | with_reducible refine Ext.drewN ?_ _ | with_reducible refine Ext.alloc ?_ _ | with_reducible refine Ext.onto ?_ _ | (with_reducible refine Ext.setCells ?_ ?_ _ _; rotate_left; focus (first | omega | (simp; done) | (simp; omega))) | (with_reducible refine Ext.setCell ?_ ?_ _; rotate_left; focus (first | omega | (simp; done) | (simp; omega)))))))).mono ?_; rintro e' w1 ⟨A', c', rfl, ho, hx⟩; obtain ⟨xl, rfl⟩ := hx.asLater; have HO := Lib.hid ho; clear ho hx)
  refine post_two (v1 := .agg (entC { e with hv := .slice A' l.length c' })) (v2 := .bool true) Tryz.results13 rfl ⟨_, rfl, ent_loaded (row_stored (RowAt.other (RowAt.later (RowAt.newAt (cs := entC noEn) (t := 31) (by simp)) _) (p := ⟨w.heap.size, 42, none⟩) (by show w.heap.size + 1 ≠ w.heap.size; omega) _) (ent_size _) (ent_size _))⟩ rfl ⟨A', c', rfl, ((HO.out.other (p := ⟨w.heap.size, 42, none⟩) (by simp <;> omega) _).others (by simp <;> omega) _ _).lower (by simp <;> omega), Ext.setCells (Ext.setCell (Ext.onto (((Ext.refl w).alloc _).alloc _) _) (p := ⟨w.heap.size, 42, none⟩) (Nat.le_refl _) _) (by omega) _ _⟩
set_option maxHeartbeats 1000000 in
theorem hit_stale (e : En) (A : Option Addr) (c : Nat) (l : List Sp) (w : World) (hv : e.hv = .slice A l.length c) (hA : plainA A) (hlen : l.length * 16 ≤ 140737488355328) (hr : ReadsSp w w.heap.size A l) :
    Calls Tryz.prog 13 #[.agg (entC e), .int .i64 1] w (HitIs (fun v => { e with hv := v, soft := true }) l true w) := by
  have hc42 : (entC e)[42]? = some (.slice A l.length c) := by rw [ent_g42, hv]
  have HR := Lib.hid hr
  have HA := Lib.hid hA
  have hf0 : fitsRow 45 (entC noEn) = true := ent_fits_of rfl
  clear hr hA
  go_enter Tryz.func13, Tryz.ntmps13
  go_wp2_with (go_at_call 41; refine (clone_any A c l _ HA.out hlen (HR.out.on (by (repeat (first | with_reducible exact Ext.refl _ | with_reducible exact Ext.refl _ | with_reducible refine Ext.drew ?_ | with_reducible refine Ext.drewN ?_ _ | with_reducible refine Ext.alloc ?_ _ | with_reducible refine Ext.onto ?_ _ | (with_reducible refine Ext.setCells ?_ ?_ _ _; rotate_left; focus (first | omega | (simp; done) | (simp; omega))) | (with_reducible refine Ext.setCell ?_ ?_ _; rotate_left; focus (first | omega | (simp; done) | (simp; omega)))))))).mono ?_; rintro e' w1 ⟨A', c', rfl, ho, hx⟩; obtain ⟨xl, rfl⟩ := hx.asLater; have HO := Lib.hid ho; clear ho hx)
  refine post_two (v1 := .agg (entC { e with hv := .slice A' l.length c', soft := true })) (v2 := .bool true) Tryz.results13 rfl ⟨_, rfl, ent_loaded (row_stored (RowAt.other (RowAt.other (RowAt.later (RowAt.newAt (cs := entC noEn) (t := 31) (by simp)) _) (p := ⟨w.heap.size, 42, none⟩) (by show w.heap.size + 1 ≠ w.heap.size; omega) _) (p := ⟨w.heap.size, 41, none⟩) (by show w.heap.size + 1 ≠ w.heap.size; omega) _) (ent_size _) (ent_size _))⟩ rfl ⟨A', c', rfl, (((HO.out.other (p := ⟨w.heap.size, 42, none⟩) (by simp <;> omega) _).other (p := ⟨w.heap.size, 41, none⟩) (by simp <;> omega) _).others (by simp <;> omega) _ _).lower (by simp <;> omega), Ext.setCells (Ext.setCell (Ext.setCell (Ext.onto (((Ext.refl w).alloc _).alloc _) _) (p := ⟨w.heap.size, 42, none⟩) (Nat.le_refl _) _) (p := ⟨w.heap.size, 41, none⟩) (Nat.le_refl _) _) (by omega) _ _⟩
set_option maxHeartbeats 1000000 in
theorem hit_gone (e : En) (A : Option Addr) (c : Nat) (l : List Sp) (w : World) (hv : e.hv = .slice A l.length c) (hA : plainA A) (hlen : l.length * 16 ≤ 140737488355328) (hr : ReadsSp w w.heap.size A l) :
    Calls Tryz.prog 13 #[.agg (entC e), .int .i64 2] w fun e' w' => e' = .returned (.tuple #[.agg (entC noEn), .bool false]) ∧ Ext w w' := by
  have hc42 : (entC e)[42]? = some (.slice A l.length c) := by rw [ent_g42, hv]
  have HR := Lib.hid hr
  have HA := Lib.hid hA
  have hf0 : fitsRow 45 (entC noEn) = true := ent_fits_of rfl
  clear hr hA
  go_enter Tryz.func13, Tryz.ntmps13
  go_wp2_with (go_at_call 41; refine (clone_any A c l _ HA.out hlen (HR.out.on (by (repeat (first | with_reducible exact Ext.refl _ | with_reducible exact Ext.refl _ | with_reducible refine Ext.drew ?_ | with_reducible refine Ext.drewN ?_ _ | with_reducible refine Ext.alloc ?_ _ | with_reducible refine Ext.onto ?_ _ | (with_reducible refine Ext.setCells ?_ ?_ _ _; rotate_left; focus (first | omega | (simp; done) | (simp; omega))) | (with_reducible refine Ext.setCell ?_ ?_ _; rotate_left; focus (first | omega | (simp; done) | (simp; omega)))))))).mono ?_; rintro e' w1 ⟨A', c', rfl, ho, hx⟩; obtain ⟨xl, rfl⟩ := hx.asLater; have HO := Lib.hid ho; clear ho hx)
  refine post_two (v1 := .agg (entC noEn)) (v2 := .bool false) Tryz.results13 rfl ⟨_, rfl, ent_loaded (row_stored (RowAt.other (RowAt.later (RowAt.newAt (cs := entC noEn) (t := 31) (by simp)) _) (p := ⟨w.heap.size, 42, none⟩) (by show w.heap.size + 1 ≠ w.heap.size; omega) _) (ent_size _) (ent_size _))⟩ rfl ⟨rfl, Ext.setCells (Ext.setCell (Ext.onto (((Ext.refl w).alloc _).alloc _) _) (p := ⟨w.heap.size, 42, none⟩) (Nat.le_refl _) _) (by omega) _ _⟩
def partN (e : En) (s1 s2 : Int) : ByteArray × Int :=
  if e.whole = false then (⟨#[]⟩, 4) else if s1 < 0 ∨ s2 < s1 ∨ e.st.size < s2 then (⟨#[]⟩, 70) else (e.bytes.extract s1.toNat s2.toNat, 0)
theorem part_any (e : En) (A : Option Addr) (n c : Nat) (s1 s2 : Int) (w : World) (hv : e.hv = .slice A n c) (hb : (e.bytes.size : Int) = e.st.size) (hm : e.bytes.size ≤ 140737488355328) :
    Calls Tryz.prog 14 #[.agg (entC e), .agg #[.int .i64 s1, .int .i64 s2]] w fun e' w' => e' = .returned (.tuple #[.string (partN e s1 s2).1, .int .i64 (partN e s1 s2).2]) ∧ Ext w w' := by
  have hf : fitsRow 45 (entC e) = true := ent_fits_of hv
  have HP : Hid (partN e s1 s2 = if e.whole = false then (⟨#[]⟩, 4) else if s1 < 0 ∨ s2 < s1 ∨ e.st.size < s2 then (⟨#[]⟩, 70) else (e.bytes.extract s1.toNat s2.toNat, 0)) := Lib.hid rfl
  generalize partN e s1 s2 = pp at *
  obtain ⟨p1, p2⟩ := pp
  by_cases hw : e.whole = false
  · obtain ⟨rfl, rfl⟩ := Prod.mk.inj (HP.out.trans (if_pos hw))
    go_enter Tryz.func14, Tryz.ntmps14
    go_wp2
    all_goals first | (exfalso; simp_all; done) | skip
    all_goals
      refine post_two (v1 := .string _) (v2 := .int .i64 _) Tryz.results14 rfl rfl rfl ⟨rfl, (by (repeat (first | with_reducible exact Ext.refl _ | with_reducible exact Ext.refl _ | with_reducible refine Ext.drew ?_ | with_reducible refine Ext.drewN ?_ _ | with_reducible refine Ext.alloc ?_ _ | with_reducible refine Ext.onto ?_ _ | (with_reducible refine Ext.setCells ?_ ?_ _ _; rotate_left; focus (first | omega | (simp; done) | (simp; omega))) | (with_reducible refine Ext.setCell ?_ ?_ _; rotate_left; focus (first | omega | (simp; done) | (simp; omega))))))⟩
  · have hw' : e.whole = true := by simpa using hw
    by_cases hc : s1 < 0 ∨ s2 < s1 ∨ e.st.size < s2
    · obtain ⟨rfl, rfl⟩ := Prod.mk.inj ((HP.out.trans (if_neg hw)).trans (if_pos hc))
      have HC := Lib.hid hc
      clear hc hw
      go_enter Tryz.func14, Tryz.ntmps14
      go_wp2
      all_goals first | (exfalso; simp_all; done) | (exfalso; have := HC.out; omega) | skip
      all_goals
        refine post_two (v1 := .string _) (v2 := .int .i64 _) Tryz.results14 rfl rfl rfl ⟨rfl, (by (repeat (first | with_reducible exact Ext.refl _ | with_reducible exact Ext.refl _ | with_reducible refine Ext.drew ?_ | with_reducible refine Ext.drewN ?_ _ | with_reducible refine Ext.alloc ?_ _ | with_reducible refine Ext.onto ?_ _ | (with_reducible refine Ext.setCells ?_ ?_ _ _; rotate_left; focus (first | omega | (simp; done) | (simp; omega))) | (with_reducible refine Ext.setCell ?_ ?_ _; rotate_left; focus (first | omega | (simp; done) | (simp; omega))))))⟩
    · obtain ⟨rfl, rfl⟩ := Prod.mk.inj ((HP.out.trans (if_neg hw)).trans (if_neg hc))
      have HC := Lib.hid hc
      have h1 : 0 ≤ s1 := by omega
      have h2 : s1 ≤ s2 := by omega
      have h3 : s2 ≤ e.st.size := by omega
      clear hc hw
      go_enter Tryz.func14, Tryz.ntmps14
      go_wp2
      all_goals first | (exfalso; simp_all; done) | (exfalso; have := HC.out; omega) | skip
      all_goals
        refine post_two (v1 := .string _) (v2 := .int .i64 _) Tryz.results14 rfl rfl rfl ⟨rfl, (by (repeat (first | with_reducible exact Ext.refl _ | with_reducible exact Ext.refl _ | with_reducible refine Ext.drew ?_ | with_reducible refine Ext.drewN ?_ _ | with_reducible refine Ext.alloc ?_ _ | with_reducible refine Ext.onto ?_ _ | (with_reducible refine Ext.setCells ?_ ?_ _ _; rotate_left; focus (first | omega | (simp; done) | (simp; omega))) | (with_reducible refine Ext.setCell ?_ ?_ _; rotate_left; focus (first | omega | (simp; done) | (simp; omega))))))⟩
theorem rpart_any (e : En) (A : Option Addr) (n c : Nat) (s1 s2 : Int) (w : World) (hv : e.hv = .slice A n c) (hb : (e.bytes.size : Int) = e.st.size) (hm : e.bytes.size ≤ 140737488355328) :
    Calls Tryz.prog 15 #[.agg (entC e), .agg #[.int .i64 s1, .int .i64 s2]] w fun e' w' => e' = .returned (.agg #[.string (partN e s1 s2).1, .int .i64 (partN e s1 s2).2]) ∧ Ext w w' := by
  have hf : fitsRow 45 (entC e) = true := ent_fits_of hv
  have HP : Hid (partN e s1 s2 = if e.whole = false then (⟨#[]⟩, 4) else if s1 < 0 ∨ s2 < s1 ∨ e.st.size < s2 then (⟨#[]⟩, 70) else (e.bytes.extract s1.toNat s2.toNat, 0)) := Lib.hid rfl
  generalize partN e s1 s2 = pp at *
  obtain ⟨p1, p2⟩ := pp
  by_cases hw : e.whole = false
  · obtain ⟨rfl, rfl⟩ := Prod.mk.inj (HP.out.trans (if_pos hw))
    go_enter Tryz.func15, Tryz.ntmps15
    go_wp2
    all_goals first | (exfalso; simp_all; done) | skip
    all_goals
      (refine bodyPost_ret (v := .agg #[.string _, .int .i64 _]) ?_ rfl ⟨rfl, (by (repeat (first | with_reducible exact Ext.refl _ | with_reducible exact Ext.refl _ | with_reducible refine Ext.drew ?_ | with_reducible refine Ext.drewN ?_ _ | with_reducible refine Ext.alloc ?_ _ | with_reducible refine Ext.onto ?_ _ | (with_reducible refine Ext.setCells ?_ ?_ _ _; rotate_left; focus (first | omega | (simp; done) | (simp; omega))) | (with_reducible refine Ext.setCell ?_ ?_ _; rotate_left; focus (first | omega | (simp; done) | (simp; omega))))))⟩; simp [results, Tryz.results15, go_sem, ↓IntWalk.iteOmega])
  · have hw' : e.whole = true := by simpa using hw
    by_cases hc : s1 < 0 ∨ s2 < s1 ∨ e.st.size < s2
    · obtain ⟨rfl, rfl⟩ := Prod.mk.inj ((HP.out.trans (if_neg hw)).trans (if_pos hc))
      have HC := Lib.hid hc
      clear hc hw
      go_enter Tryz.func15, Tryz.ntmps15
      go_wp2
      all_goals first | (exfalso; simp_all; done) | (exfalso; have := HC.out; omega) | skip
      all_goals
        (refine bodyPost_ret (v := .agg #[.string _, .int .i64 _]) ?_ rfl ⟨rfl, (by (repeat (first | with_reducible exact Ext.refl _ | with_reducible exact Ext.refl _ | with_reducible refine Ext.drew ?_ | with_reducible refine Ext.drewN ?_ _ | with_reducible refine Ext.alloc ?_ _ | with_reducible refine Ext.onto ?_ _ | (with_reducible refine Ext.setCells ?_ ?_ _ _; rotate_left; focus (first | omega | (simp; done) | (simp; omega))) | (with_reducible refine Ext.setCell ?_ ?_ _; rotate_left; focus (first | omega | (simp; done) | (simp; omega))))))⟩; simp [results, Tryz.results15, go_sem, ↓IntWalk.iteOmega])
    · obtain ⟨rfl, rfl⟩ := Prod.mk.inj ((HP.out.trans (if_neg hw)).trans (if_neg hc))
      have HC := Lib.hid hc
      have h1 : 0 ≤ s1 := by omega
      have h2 : s1 ≤ s2 := by omega
      have h3 : s2 ≤ e.st.size := by omega
      clear hc hw
      go_enter Tryz.func15, Tryz.ntmps15
      go_wp2
      all_goals first | (exfalso; simp_all; done) | (exfalso; have := HC.out; omega) | skip
      all_goals
        (refine bodyPost_ret (v := .agg #[.string _, .int .i64 _]) ?_ rfl ⟨rfl, (by (repeat (first | with_reducible exact Ext.refl _ | with_reducible exact Ext.refl _ | with_reducible refine Ext.drew ?_ | with_reducible refine Ext.drewN ?_ _ | with_reducible refine Ext.alloc ?_ _ | with_reducible refine Ext.onto ?_ _ | (with_reducible refine Ext.setCells ?_ ?_ _ _; rotate_left; focus (first | omega | (simp; done) | (simp; omega))) | (with_reducible refine Ext.setCell ?_ ?_ _; rotate_left; focus (first | omega | (simp; done) | (simp; omega))))))⟩; simp [results, Tryz.results15, go_sem, ↓IntWalk.iteOmega])
theorem dg_self (a0 a1 a2 a3 a4 a5 a6 a7 a8 a9 a10 a11 a12 a13 a14 a15 : Int) (W : World) : (Op.equalIn 9999 23 (.agg #[.int .u8 a0, .int .u8 a1, .int .u8 a2, .int .u8 a3, .int .u8 a4, .int .u8 a5, .int .u8 a6, .int .u8 a7, .int .u8 a8, .int .u8 a9, .int .u8 a10, .int .u8 a11, .int .u8 a12, .int .u8 a13, .int .u8 a14, .int .u8 a15]) (.agg #[.int .u8 a0, .int .u8 a1, .int .u8 a2, .int .u8 a3, .int .u8 a4, .int .u8 a5, .int .u8 a6, .int .u8 a7, .int .u8 a8, .int .u8 a9, .int .u8 a10, .int .u8 a11, .int .u8 a12, .int .u8 a13, .int .u8 a14, .int .u8 a15])).run Tryz.prog W = .ok true W := by
  have hc : Tryz.prog.cellsOf 5 = 1 := by kernel_rfl
  have hr : List.range 16 = [0, 1, 2, 3, 4, 5, 6, 7, 8, 9, 10, 11, 12, 13, 14, 15] := by decide
  have hinf : (Tryz.prog.info? 5).map (fun i => (i.zero, i.size, i.bytes)) = some (some (.int .u8 0), 1, 1) := by kernel_rfl
  obtain ⟨i, hi, _, _, _⟩ := info_parts hinf
  rw [run_equalIn_array W 9998 (t := 23) (e := 5) (n := 16) _ _ (by kernel_rfl) hi, hc, hr]
  simp [Op.eqItems, go_sem]
theorem sl_self (a0 a1 a2 a3 a4 a5 a6 a7 a8 a9 a10 a11 a12 a13 a14 a15 : Int) (W : World) : (Op.equalIn 9999 26 (.agg #[.int .u8 a0, .int .u8 a1, .int .u8 a2, .int .u8 a3, .int .u8 a4, .int .u8 a5, .int .u8 a6, .int .u8 a7, .int .u8 a8, .int .u8 a9, .int .u8 a10, .int .u8 a11, .int .u8 a12, .int .u8 a13, .int .u8 a14, .int .u8 a15]) (.agg #[.int .u8 a0, .int .u8 a1, .int .u8 a2, .int .u8 a3, .int .u8 a4, .int .u8 a5, .int .u8 a6, .int .u8 a7, .int .u8 a8, .int .u8 a9, .int .u8 a10, .int .u8 a11, .int .u8 a12, .int .u8 a13, .int .u8 a14, .int .u8 a15])).run Tryz.prog W = .ok true W := by
  have hc : Tryz.prog.cellsOf 5 = 1 := by kernel_rfl
  have hr : List.range 16 = [0, 1, 2, 3, 4, 5, 6, 7, 8, 9, 10, 11, 12, 13, 14, 15] := by decide
  have hinf : (Tryz.prog.info? 5).map (fun i => (i.zero, i.size, i.bytes)) = some (some (.int .u8 0), 1, 1) := by kernel_rfl
  obtain ⟨i, hi, _, _, _⟩ := info_parts hinf
  rw [run_equalIn_array W 9998 (t := 26) (e := 5) (n := 16) _ _ (by kernel_rfl) hi, hc, hr]
  simp [Op.eqItems, go_sem]
theorem stm_self (s : St) (W : World) : (binOp .neq 28 (.agg (stmC s)) (.agg (stmC s))).run Tryz.prog W = .ok (.bool false) W := by
  rw [run_neq_struct]
  simp [go_sem, stmC, stmL, dgC, dg_self, sl_self]
attribute [go_sem ↓] stm_self
set_option maxRecDepth 100000 in
set_option maxHeartbeats 1000000 in
theorem same_any (e : En) (A B : Option Addr) (c d : Nat) (l : List Sp) (w : World) (hv : e.hv = .slice A l.length c) (hm : l.length ≤ 140737488355328) (hr1 : ReadsSp w w.heap.size A l) (hr2 : ReadsSp w w.heap.size B l) :
    Calls Tryz.prog 19 #[.agg (entC e), .agg (entC { e with hv := .slice B l.length d })] w fun e' w' => e' = .returned (.bool true) ∧ Ext w w' := by
  have hc42 : (entC e)[42]? = some (.slice A l.length c) := by rw [ent_g42, hv]
  have HR1 := Lib.hid hr1
  have HR2 := Lib.hid hr2
  clear hr1 hr2
  have hc42b : (entC { e with hv := .slice B l.length d })[42]? = some (.slice B l.length d) := ent_g42 _
  go_enter Tryz.func19, Tryz.ntmps19
  go_wp2
  refine wp_world (fun W => Ext w W ∧ RowAt W w.heap.size (entC e) ∧ RowAt W (w.heap.size + 1) (entC { e with hv := .slice B l.length d })) ⟨(by (repeat (first | with_reducible exact Ext.refl _ | with_reducible exact Ext.refl _ | with_reducible refine Ext.drew ?_ | with_reducible refine Ext.drewN ?_ _ | with_reducible refine Ext.alloc ?_ _ | with_reducible refine Ext.onto ?_ _ | (with_reducible refine Ext.setCells ?_ ?_ _ _; rotate_left; focus (first | omega | (simp; done) | (simp; omega))) | (with_reducible refine Ext.setCell ?_ ?_ _; rotate_left; focus (first | omega | (simp; done) | (simp; omega)))))), (RowAt.new _ _ _).alloc _, RowAt.newAt (by simp)⟩ ?_
  rintro W ⟨hx0, h1, h2⟩
  have HX0 := Lib.hid hx0
  have H1 := Lib.hid h1
  have H2 := Lib.hid h2
  clear hx0 h1 h2
  go_loopw [5] (fun i wr => ∃ k : Nat, k ≤ l.length ∧ i = .int .i64 k ∧ Ext W wr) (fun i _ => l.length - (intOf i).toNat)
  case atStart => exact ⟨0, Nat.zero_le _, rfl, Ext.refl _⟩
  case round =>
    obtain ⟨k, hk, rfl, hx⟩ := hrel
    have HX := Lib.hid hx
    have c1 : wr.cell? ⟨w.heap.size, 42, none⟩ = some (.slice A l.length c) := ((H1.out.ext hx).cell 42).trans hc42
    have c2 : wr.cell? ⟨w.heap.size + 1, 42, none⟩ = some (.slice B l.length d) := ((H2.out.ext hx).cell 42).trans hc42b
    have hl2 := (H2.out.ext hx).lt
    by_cases hlt : k < l.length
    · obtain ⟨b1, o1, rfl, hb1, y1, y2⟩ := ReadsSp.cell (HR1.out.on (HX0.out.trans hx)) k hlt
      obtain ⟨b2, o2, rfl, hb2, z1, z2⟩ := ReadsSp.cell (HR2.out.on (HX0.out.trans hx)) k hlt
      generalize l[k] = s at *
      obtain ⟨s1, s2⟩ := s
      simp only [] at y1 y2 z1 z2
      clear hx
      go_wp2
      refine wp_region_later (by kernel_rfl) (by kernel_rfl) ?_
      repeat (first | go_big_quiet_step (fail) | quiet_step (fail))
      refine wpQuiet_nil ?_
      rintro _ ⟨xq, rfl⟩
      go_wp2
      go_roundw
      case rel => exact ⟨k + 1, by omega, by go_num, (by (repeat (first | with_reducible exact HX.out | with_reducible exact Ext.refl _ | with_reducible refine Ext.drew ?_ | with_reducible refine Ext.drewN ?_ _ | with_reducible refine Ext.alloc ?_ _ | with_reducible refine Ext.onto ?_ _ | (with_reducible refine Ext.setCells ?_ ?_ _ _; rotate_left; focus (first | omega | (simp; done) | (simp; omega))) | (with_reducible refine Ext.setCell ?_ ?_ _; rotate_left; focus (first | omega | (simp; done) | (simp; omega))))))⟩
      case measure => simp [intOf]; omega
    · clear hx
      go_wp2
      go_ret
      exact ⟨rfl, HX0.out.trans HX.out⟩
end Go.Proofs.YtmjdnkeloolmdaaGreatDoor
