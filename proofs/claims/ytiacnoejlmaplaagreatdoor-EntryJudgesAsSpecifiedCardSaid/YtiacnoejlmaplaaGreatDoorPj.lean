/- PROVED: weirgatelaw35.EntryJudgesAsSpecified returns true for every entry, rule, period, mode and span, and leaves its arguments as they were; the two tables of constants of the hashes hold what the program's text lays (the card ties them). No other condition. -/
import Derived.Test.YtiacnoejlmaplaaGreatDoorProg
import Derived.Test.YtiacnoejlmaplaaGreatDoorExt
import Derived.WalkKit
import Derived.WalkSpells
import Derived.WalkLawsBesides
import Derived.Deep.QuietTactic
import Derived.BigQuiet
import Derived.Test.YtiacnoejlmaplaaGreatDoorLg
import Derived.Test.YtiacnoejlmaplaaGreatDoorOe
import Derived.Test.YtiacnoejlmaplaaGreatDoorTie
import Derived.Test.YtiacnoejlmaplaaGreatDoorCards
import Derived.ProofKit
import Derived.Lay
import Derived.SevenTiedAt
import Derived.Stop.Joined
set_option linter.unusedVariables false
set_option linter.unusedSimpArgs false
namespace Go.Proofs.YtiacnoejlmaplaaGreatDoor
open Go.RowKit Go.Shelf
open Go.Proofs
open Go.Proofs.Sp (Sp)

theorem fineB_sz {e : En} {l : List Sp} (h : fineB e l = true) : (e.bytes.size : Int) = e.st.size ∧ e.bytes.size ≤ 2000 := by
  simp only [fineB, lightB, validB, rightB, Bool.and_eq_true, decide_eq_true_eq, beq_iff_eq] at h
  omega
set_option maxRecDepth 100000 in
set_option maxHeartbeats 4000000 in
theorem judges_arg (e : En) (A : Option Addr) (c : Nat) (l : List Sp) (r : Ru) (a b mode s1 s2 : Int) (w : World) (hi : EntIn e A c l w) (hru : (ruC r).size = 18) (hk : Konst 0 w) (hrk : RKonst w)
    (h : ¬ (fineB e l = true ∧ fairB r = true ∧ perB a b = true)) :
    Calls Tryz.prog 4 #[.agg (entC e), .agg (ruC r), .agg #[.int .i64 a, .int .i64 b], .int .i64 mode, .agg #[.int .i64 s1, .int .i64 s2]] w fun e' w' => e' = .returned (.bool true) ∧ Ext w w' := by
  have HI := Lib.hid hi
  have HK := Lib.hid hk
  have HRK := Lib.hid hrk
  have hra := ru_all r hru
  clear hi hk hrk
  have HH : Hid ((((!fineB e l) || (!fairB r)) || (!perB a b)) = true) := Lib.hid (by
    cases k1 : fineB e l <;> cases k2 : fairB r <;> cases k3 : perB a b <;> simp_all)
  clear h
  obtain ⟨f1, e1⟩ : ∃ f, fineB e l = f := ⟨_, rfl⟩
  obtain ⟨f2, e2⟩ : ∃ f, fairB r = f := ⟨_, rfl⟩
  obtain ⟨f3, e3⟩ : ∃ f, perB a b = f := ⟨_, rfl⟩
  rw [e1, e2, e3] at HH
  have H1 := Lib.hid e1
  have H2 := Lib.hid e2
  have H3 := Lib.hid e3
  have hh := HH.out
  clear e1 e2 e3 HH
  go_enter Tryz.func4, Tryz.ntmps4
  go_wp2_with (first
    | (go_at_call 6; refine (fine_any e A c l _ HI.out.hv HI.out.hl HI.out.h1 HI.out.h2 HI.out.h3 HI.out.h4 HI.out.hb HI.out.hby (RowAt.ext HRK.out (by (repeat (first | with_reducible exact Ext.refl _ | with_reducible exact Ext.refl _ | with_reducible refine Ext.drew ?_ | with_reducible refine Ext.drewN ?_ _ | with_reducible refine Ext.alloc ?_ _ | with_reducible refine Ext.onto ?_ _ | (with_reducible refine Ext.setCells ?_ ?_ _ _; rotate_left; focus (first | omega | (simp; done) | (simp; omega))) | (with_reducible refine Ext.setCell ?_ ?_ _; rotate_left; focus (first | omega | (simp; done) | (simp; omega))))))) (HI.out.hr.on (by (repeat (first | with_reducible exact Ext.refl _ | with_reducible exact Ext.refl _ | with_reducible refine Ext.drew ?_ | with_reducible refine Ext.drewN ?_ _ | with_reducible refine Ext.alloc ?_ _ | with_reducible refine Ext.onto ?_ _ | (with_reducible refine Ext.setCells ?_ ?_ _ _; rotate_left; focus (first | omega | (simp; done) | (simp; omega))) | (with_reducible refine Ext.setCell ?_ ?_ _; rotate_left; focus (first | omega | (simp; done) | (simp; omega)))))))).mono ?_; rw [H1.out]; rintro e w' ⟨rfl, hxl⟩; obtain ⟨xl, rfl⟩ := hxl.asLater; clear hxl)
    | (go_at_call 7; refine (fair_any r _).mono ?_; rw [H2.out]; rintro e w' ⟨rfl, hxl⟩; obtain ⟨xl, rfl⟩ := hxl.asLater; clear hxl)
    | (go_at_call 8; refine (rrt_any a b _).mono ?_; rw [H3.out]; rintro e w' ⟨rfl, hxl⟩; obtain ⟨xl, rfl⟩ := hxl.asLater; clear hxl)
    | (go_at_call 9; refine (sanity_ok _ (RowAt.ext HK.out (by (repeat (first | with_reducible exact Ext.refl _ | with_reducible exact Ext.refl _ | with_reducible refine Ext.drew ?_ | with_reducible refine Ext.drewN ?_ _ | with_reducible refine Ext.alloc ?_ _ | with_reducible refine Ext.onto ?_ _ | (with_reducible refine Ext.setCells ?_ ?_ _ _; rotate_left; focus (first | omega | (simp; done) | (simp; omega))) | (with_reducible refine Ext.setCell ?_ ?_ _; rotate_left; focus (first | omega | (simp; done) | (simp; omega))))))) (RowAt.ext HRK.out (by (repeat (first | with_reducible exact Ext.refl _ | with_reducible exact Ext.refl _ | with_reducible refine Ext.drew ?_ | with_reducible refine Ext.drewN ?_ _ | with_reducible refine Ext.alloc ?_ _ | with_reducible refine Ext.onto ?_ _ | (with_reducible refine Ext.setCells ?_ ?_ _ _; rotate_left; focus (first | omega | (simp; done) | (simp; omega))) | (with_reducible refine Ext.setCell ?_ ?_ _; rotate_left; focus (first | omega | (simp; done) | (simp; omega)))))))).mono ?_; rintro e w' ⟨rfl, hxl⟩; obtain ⟨xl, rfl⟩ := hxl.asLater; clear hxl))
  all_goals first
    | (exfalso; simp_all; done)
    | (go_ret; exact ⟨rfl, (by (repeat (first | with_reducible exact Ext.refl _ | with_reducible exact Ext.refl _ | with_reducible refine Ext.drew ?_ | with_reducible refine Ext.drewN ?_ _ | with_reducible refine Ext.alloc ?_ _ | with_reducible refine Ext.onto ?_ _ | (with_reducible refine Ext.setCells ?_ ?_ _ _; rotate_left; focus (first | omega | (simp; done) | (simp; omega))) | (with_reducible refine Ext.setCell ?_ ?_ _; rotate_left; focus (first | omega | (simp; done) | (simp; omega))))))⟩)
attribute [local go_sem ↓] setCells_cell_or
attribute [local go_sem ↓ 2000] alloc_setCells_cell
set_option maxRecDepth 100000 in
set_option maxHeartbeats 8000000 in
theorem judges_ok (st : St) (so : Bool) (by_ : ByteArray) (wh : Bool) (A : Option Addr) (c : Nat) (l : List Sp) (r : Ru) (a b mode s1 s2 : Int) (w : World) (hi : EntIn ⟨st, so, .slice A l.length c, by_, wh⟩ A c l w) (hru : (ruC r).size = 18) (hk : Konst 0 w) (hrk : RKonst w)
    (h1 : fineB ⟨st, so, .slice A l.length c, by_, wh⟩ l = true) (h2 : fairB r = true) (h3 : perB a b = true) :
    Calls Tryz.prog 4 #[.agg (entC ⟨st, so, .slice A l.length c, by_, wh⟩), .agg (ruC r), .agg #[.int .i64 a, .int .i64 b], .int .i64 mode, .agg #[.int .i64 s1, .int .i64 s2]] w fun e' w' => e' = .returned (.bool true) ∧ Ext w w' := by
  have HI := Lib.hid hi
  have HK := Lib.hid hk
  have HRK := Lib.hid hrk
  have hra := ru_all r hru
  have hfe : fitsRow 45 (entC ⟨st, so, .slice A l.length c, by_, wh⟩) = true := ent_fits_of rfl
  obtain ⟨q1, q2, q3, q4⟩ := fineB_bd h1
  obtain ⟨q5, q6⟩ := fineB_sz h1
  have HR := Lib.hid (fairB_R h2)
  obtain ⟨p1, p2, p3⟩ := perB_iff.1 h3
  have H1 := Lib.hid h1
  have H2 := Lib.hid h2
  have H3 := Lib.hid h3
  have hpa := fun W => part_any ⟨st, so, .slice A l.length c, by_, wh⟩ A l.length c s1 s2 W rfl q5 (by omega)
  have hpb := fun W => rpart_any ⟨st, so, .slice A l.length c, by_, wh⟩ A l.length c s1 s2 W rfl q5 (by omega)
  generalize partN ⟨st, so, .slice A l.length c, by_, wh⟩ s1 s2 = pp at hpa hpb
  obtain ⟨pp1, pp2⟩ := pp
  simp only [] at hpa hpb
  have HPA := Lib.hid hpa
  have HPB := Lib.hid hpb
  obtain ⟨ag, hag⟩ : ∃ ag, ageN ⟨st, so, .slice A l.length c, by_, wh⟩ b = ag := ⟨_, rfl⟩
  obtain ⟨x, hx⟩ : ∃ x, stateN ⟨st, so, .slice A l.length c, by_, wh⟩ r ag mode = x := ⟨_, rfl⟩
  have HAG := Lib.hid hag
  have HA1 := Lib.hid (fun W => age_any ⟨st, so, .slice A l.length c, by_, wh⟩ a b W q2 (Int.le_trans q3 q4) (by omega) (by omega))
  have HA2 := Lib.hid (fun W => rage_any ⟨st, so, .slice A l.length c, by_, wh⟩ a b W q2 (Int.le_trans q3 q4) (by omega) (by omega))
  have HS1 := Lib.hid (fun W => state_at ⟨st, so, .slice A l.length c, by_, wh⟩ r a b mode ag W q2 (Int.le_trans q3 q4) (by omega) (by omega) (fairB_R h2) HAG)
  have HS2 := Lib.hid (fun W => rstate_at ⟨st, so, .slice A l.length c, by_, wh⟩ r a b mode ag W q2 (Int.le_trans q3 q4) (by omega) (by omega) (fairB_R h2) HAG)
  rw [hag] at HA1 HA2
  rw [hx] at HS1 HS2
  clear hi hk hrk h1 h2 h3 hpa hpb hag hx
  go_enter Tryz.func4, Tryz.ntmps4
  go_wp2_with (first
    | (go_at_call 6; refine (fine_any _ A c l _ HI.out.hv HI.out.hl HI.out.h1 HI.out.h2 HI.out.h3 HI.out.h4 HI.out.hb HI.out.hby (RowAt.ext HRK.out (by (repeat (first | with_reducible exact Ext.refl _ | with_reducible exact Ext.refl _ | with_reducible refine Ext.drew ?_ | with_reducible refine Ext.drewN ?_ _ | with_reducible refine Ext.alloc ?_ _ | with_reducible refine Ext.onto ?_ _ | (with_reducible refine Ext.setCells ?_ ?_ _ _; rotate_left; focus (first | omega | (simp; done) | (simp; omega))) | (with_reducible refine Ext.setCell ?_ ?_ _; rotate_left; focus (first | omega | (simp; done) | (simp; omega))))))) (HI.out.hr.on (by (repeat (first | with_reducible exact Ext.refl _ | with_reducible exact Ext.refl _ | with_reducible refine Ext.drew ?_ | with_reducible refine Ext.drewN ?_ _ | with_reducible refine Ext.alloc ?_ _ | with_reducible refine Ext.onto ?_ _ | (with_reducible refine Ext.setCells ?_ ?_ _ _; rotate_left; focus (first | omega | (simp; done) | (simp; omega))) | (with_reducible refine Ext.setCell ?_ ?_ _; rotate_left; focus (first | omega | (simp; done) | (simp; omega)))))))).mono ?_; rw [H1.out]; rintro e' w' ⟨rfl, hxl⟩; obtain ⟨xa, rfl⟩ := hxl.asLater; clear hxl)
    | (go_at_call 7; refine (fair_any r _).mono ?_; rw [H2.out]; rintro e' w' ⟨rfl, hxl⟩; obtain ⟨xb, rfl⟩ := hxl.asLater; clear hxl)
    | (go_at_call 8; refine (rrt_any a b _).mono ?_; rw [H3.out]; rintro e' w' ⟨rfl, hxl⟩; obtain ⟨xc, rfl⟩ := hxl.asLater; clear hxl)
    | (go_at_call 12; refine (HPA.out _).mono ?_; rintro e' w' ⟨rfl, hxl⟩; obtain ⟨xd, rfl⟩ := hxl.asLater; clear hxl)
    | (go_at_call 13; refine (HPB.out _).mono ?_; rintro e' w' ⟨rfl, hxl⟩; obtain ⟨xe, rfl⟩ := hxl.asLater; clear hxl))
  refine wp_world (fun W => Ext w W ∧ RowAt W w.heap.size (entC ⟨st, so, .slice A l.length c, by_, wh⟩) ∧ RowAt W (w.heap.size + 1) (ruC r) ∧ RowAt W (w.heap.size + 1 + 1) #[.int .i64 a, .int .i64 b] ∧ RowAt W (w.heap.size + 1 + 1 + 1 + 1 + ((((xa.comp xb).comp xc).comp xd).comp xe).n) #[.string pp1, .int .i64 pp2]) ⟨(by (repeat (first | with_reducible exact Ext.refl _ | with_reducible exact Ext.refl _ | with_reducible refine Ext.drew ?_ | with_reducible refine Ext.drewN ?_ _ | with_reducible refine Ext.alloc ?_ _ | with_reducible refine Ext.onto ?_ _ | (with_reducible refine Ext.setCells ?_ ?_ _ _; rotate_left; focus (first | omega | (simp; done) | (simp; omega))) | (with_reducible refine Ext.setCell ?_ ?_ _; rotate_left; focus (first | omega | (simp; done) | (simp; omega)))))), (by (repeat (first | with_reducible exact RowAt.new _ _ _ | with_reducible refine RowAt.drew ?_ | with_reducible refine RowAt.later ?_ _ | with_reducible exact RowAt.newAt (by first | rfl | omega | (simp [later_size, setCells_size]; done) | (simp [later_size, setCells_size]; omega)) | with_reducible refine RowAt.alloc ?_ _ | with_reducible apply RowAt.store | with_reducible refine RowAt.others ?_ ?_ _ _ | with_reducible refine RowAt.other ?_ ?_ _)); all_goals first | omega | (simp; done) | (simp; omega) | (simp [go_sem]; done)), (by (repeat (first | with_reducible exact RowAt.new _ _ _ | with_reducible refine RowAt.drew ?_ | with_reducible refine RowAt.later ?_ _ | with_reducible exact RowAt.newAt (by first | rfl | omega | (simp [later_size, setCells_size]; done) | (simp [later_size, setCells_size]; omega)) | with_reducible refine RowAt.alloc ?_ _ | with_reducible apply RowAt.store | with_reducible refine RowAt.others ?_ ?_ _ _ | with_reducible refine RowAt.other ?_ ?_ _)); all_goals first | omega | (simp; done) | (simp; omega) | (simp [go_sem]; done)), (by (repeat (first | with_reducible exact RowAt.new _ _ _ | with_reducible refine RowAt.drew ?_ | with_reducible refine RowAt.later ?_ _ | with_reducible exact RowAt.newAt (by first | rfl | omega | (simp [later_size, setCells_size]; done) | (simp [later_size, setCells_size]; omega)) | with_reducible refine RowAt.alloc ?_ _ | with_reducible apply RowAt.store | with_reducible refine RowAt.others ?_ ?_ _ _ | with_reducible refine RowAt.other ?_ ?_ _)); all_goals first | omega | (simp; done) | (simp; omega) | (simp [go_sem]; done)), (by (repeat (first | with_reducible exact RowAt.new _ _ _ | with_reducible refine RowAt.drew ?_ | with_reducible refine RowAt.later ?_ _ | with_reducible exact RowAt.newAt (by first | rfl | omega | (simp [later_size, setCells_size]; done) | (simp [later_size, setCells_size]; omega)) | with_reducible refine RowAt.alloc ?_ _ | with_reducible apply RowAt.store | with_reducible refine RowAt.others ?_ ?_ _ _ | with_reducible refine RowAt.other ?_ ?_ _)); all_goals first | omega | (simp; done) | (simp; omega) | (simp [go_sem]; done))⟩ ?_
  rintro W ⟨hx0, r1, r2, r3, r4⟩
  generalize w.heap.size + 1 + 1 + 1 + 1 + ((((xa.comp xb).comp xc).comp xd).comp xe).n = B4 at *
  have HX0 := Lib.hid hx0
  have HR1 := Lib.hid r1
  have rowE : rowOf W w.heap.size 0 45 = some (entC ⟨st, so, .slice A l.length c, by_, wh⟩) := r1.all (ent_size _).symm (by omega)
  have rowR : rowOf W (w.heap.size + 1) 0 18 = some (ruC r) := r2.all hru.symm (by omega)
  have k0 : W.cell? ⟨w.heap.size + 1 + 1, 0, none⟩ = some (.int .i64 a) := r3.cell 0
  have k1 : W.cell? ⟨w.heap.size + 1 + 1, 1, none⟩ = some (.int .i64 b) := r3.cell 1
  have k2 : W.cell? ⟨B4, 0, none⟩ = some (.string pp1) := r4.cell 0
  have k3 : W.cell? ⟨B4, 1, none⟩ = some (.int .i64 pp2) := r4.cell 1
  have hl3 := r3.lt
  have hl4 := r4.lt
  clear hx0 r1 r2 r3 r4
  refine wp_region_later (by kernel_rfl) (by kernel_rfl) ?_
  repeat (first | go_big_quiet_step ((first | (go_at_call 14; exact quietE (HA1.out _)) | (go_at_call 15; exact quietE (HA2.out _)) | (go_at_call 10; exact quietE (HS1.out _)) | (go_at_call 16; exact quietE (HS2.out _)))) | quiet_step ((first | (go_at_call 14; exact quietE (HA1.out _)) | (go_at_call 15; exact quietE (HA2.out _)) | (go_at_call 10; exact quietE (HS1.out _)) | (go_at_call 16; exact quietE (HS2.out _)))))
  refine wpQuiet_nil ?_
  rintro _ ⟨xq, rfl⟩
  go_wp2_with (first
    | (go_at_call 11; refine (show Hid _ from ?_).out)
    | (go_at_call 17; refine (show Hid _ from ?_).out)
    | (go_at_call 9; refine (show Hid _ from ?_).out))
  refine Lib.hid ?_
  refine (hit_fresh ⟨st, so, .slice A l.length c, by_, wh⟩ A c l _ rfl HI.out.hA (by omega) (HI.out.hr.on (HX0.out.onto _))).mono ?_
  rintro e' w' ⟨A1, c1, rfl, ho, hxl⟩
  have hrd1 := ho.reads spE
  obtain ⟨xf, rfl⟩ := hxl.asLater
  clear hxl ho
  have hf1 : fitsRow 45 (entC ⟨st, so, .slice A1 l.length c1, by_, wh⟩) = true := ent_fits_of rfl
  have HD1 := Lib.hid hrd1
  clear hrd1
  go_wp2_with (first
    | (go_at_call 11; refine (show Hid _ from ?_).out)
    | (go_at_call 17; refine (show Hid _ from ?_).out)
    | (go_at_call 9; refine (show Hid _ from ?_).out))
  refine Lib.hid ?_
  refine calls_world (fun W1 => Ext W W1 ∧ RowAt W1 (W.heap.size + (xq.comp xf).n) (entC ⟨st, so, .slice A1 l.length c1, by_, wh⟩) ∧ ReadsSp W1 W1.heap.size A1 l) ⟨(by (repeat (first | with_reducible exact Ext.refl _ | with_reducible exact Ext.refl _ | with_reducible refine Ext.drew ?_ | with_reducible refine Ext.drewN ?_ _ | with_reducible refine Ext.alloc ?_ _ | with_reducible refine Ext.onto ?_ _ | (with_reducible refine Ext.setCells ?_ ?_ _ _; rotate_left; focus (first | omega | (simp; done) | (simp; omega))) | (with_reducible refine Ext.setCell ?_ ?_ _; rotate_left; focus (first | omega | (simp; done) | (simp; omega)))))), (RowAt.newAt (cs := entC noEn) (t := 31) (by simp [later_size])).store (by rw [ent_size, ent_size]), HD1.out.on (Ext.setCells ((Ext.refl _).alloc _) (by show (later (later W xq) xf).heap.size ≤ _; simp only [later_size, Later.comp_n]; omega) _ _)⟩ ?_
  rintro W1 ⟨hx1, f1, hrd1⟩
  generalize W.heap.size + (xq.comp xf).n = F1 at *
  have HX1 := Lib.hid hx1
  have HF1 := Lib.hid f1
  have HD1' := Lib.hid hrd1
  have hsz1 := hx1.size
  have rowE1 : rowOf W1 w.heap.size 0 45 = some (entC ⟨st, so, .slice A l.length c, by_, wh⟩) := (HR1.out.ext hx1).all (ent_size _).symm (by omega)
  clear hx1 f1 hrd1 HD1 hf1 rowE rowR k0 k1 k2 k3
  refine (hit_stale ⟨st, so, .slice A l.length c, by_, wh⟩ A c l _ rfl HI.out.hA (by omega) (HI.out.hr.on (HX0.out.trans HX1.out))).mono ?_
  rintro e' w' ⟨A2, c2, rfl, ho, hxl⟩
  have hrd2 := ho.reads spE
  obtain ⟨xg, rfl⟩ := hxl.asLater
  clear hxl ho
  have hf2 : fitsRow 45 (entC ⟨st, true, .slice A2 l.length c2, by_, wh⟩) = true := ent_fits_of rfl
  have HD2 := Lib.hid hrd2
  clear hrd2
  go_wp2_with (first
    | (go_at_call 11; refine (show Hid _ from ?_).out)
    | (go_at_call 17; refine (show Hid _ from ?_).out)
    | (go_at_call 9; refine (show Hid _ from ?_).out))
  refine Lib.hid ?_
  refine calls_world (fun W2 => Ext W1 W2 ∧ RowAt W2 (W1.heap.size + xg.n) (entC ⟨st, true, .slice A2 l.length c2, by_, wh⟩) ∧ ReadsSp W2 W2.heap.size A2 l) ⟨(by (repeat (first | with_reducible exact Ext.refl _ | with_reducible exact Ext.refl _ | with_reducible refine Ext.drew ?_ | with_reducible refine Ext.drewN ?_ _ | with_reducible refine Ext.alloc ?_ _ | with_reducible refine Ext.onto ?_ _ | (with_reducible refine Ext.setCells ?_ ?_ _ _; rotate_left; focus (first | omega | (simp; done) | (simp; omega))) | (with_reducible refine Ext.setCell ?_ ?_ _; rotate_left; focus (first | omega | (simp; done) | (simp; omega)))))), (RowAt.newAt (cs := entC noEn) (t := 31) (by simp [later_size])).store (by rw [ent_size, ent_size]), HD2.out.on (Ext.setCells ((Ext.refl _).alloc _) (by simp only [later_size]; omega) _ _)⟩ ?_
  rintro W2 ⟨hx2, f2, hrd2⟩
  generalize W1.heap.size + xg.n = F2 at *
  have HX2 := Lib.hid hx2
  have HF2 := Lib.hid f2
  have HD2' := Lib.hid hrd2
  have hsz2 := hx2.size
  have rowE2 : rowOf W2 w.heap.size 0 45 = some (entC ⟨st, so, .slice A l.length c, by_, wh⟩) := ((HR1.out.ext HX1.out).ext hx2).all (ent_size _).symm (by omega)
  have hf0 : fitsRow 45 (entC noEn) = true := ent_fits_of rfl
  clear hx2 f2 hrd2 HD2 hf2 rowE1
  refine (hit_gone ⟨st, so, .slice A l.length c, by_, wh⟩ A c l _ rfl HI.out.hA (by omega) (HI.out.hr.on ((HX0.out.trans HX1.out).trans HX2.out))).mono ?_
  rintro e' w' ⟨rfl, hxl⟩
  obtain ⟨xh, rfl⟩ := hxl.asLater
  clear hxl
  go_wp2_with (first
    | (go_at_call 11; refine (show Hid _ from ?_).out)
    | (go_at_call 17; refine (show Hid _ from ?_).out)
    | (go_at_call 9; refine (show Hid _ from ?_).out))
  refine Lib.hid ?_
  refine calls_world (fun W3 => Ext W2 W3 ∧ RowAt W3 (W2.heap.size + xh.n) (entC noEn) ∧ RowAt W3 (W2.heap.size + xh.n + 1) (entC ⟨st, true, .slice A l.length c, by_, wh⟩)) ⟨Ext.setCell (Ext.setCells (Ext.alloc (Ext.setCells ((ext_later W2 xh).alloc _) (by omega) _ _) _) (by omega) _ _) (p := ⟨W2.heap.size + xh.n + 1, 41, none⟩) (by show W2.heap.size ≤ W2.heap.size + xh.n + 1; omega) _,
    RowAt.other (RowAt.others (RowAt.alloc ((RowAt.newAt (cs := entC noEn) (t := 31) (by simp [later_size])).store rfl) _) (by omega) _ _) (p := ⟨W2.heap.size + xh.n + 1, 41, none⟩) (by show W2.heap.size + xh.n ≠ W2.heap.size + xh.n + 1; omega) _,
    by
      rw [show entC ⟨st, true, .slice A l.length c, by_, wh⟩ = (entC ⟨st, so, .slice A l.length c, by_, wh⟩).setIfInBounds 41 (.bool true) from (ent_set41 ⟨st, so, .slice A l.length c, by_, wh⟩ true).symm]
      exact RowAt.set (RowAt.store (RowAt.newAt (cs := entC noEn) (t := 31) (by simp [later_size, setCells_size])) (by simp only [ent_size])) 41 _⟩ ?_
  rintro W3 ⟨hx3, f3, f4⟩
  generalize W2.heap.size + xh.n = F3 at *
  have HX3 := Lib.hid hx3
  have HX : Hid (Ext w W3) := Lib.hid (((HX0.out.trans HX1.out).trans HX2.out).trans hx3)
  have hsz3 := hx3.size
  have g1 := HF1.out.lt
  have g2 := HF2.out.lt
  have g3 := f3.lt
  have g4 := f4.lt
  have row0 : rowOf W3 w.heap.size 0 45 = some (entC ⟨st, so, .slice A l.length c, by_, wh⟩) := (((HR1.out.ext HX1.out).ext HX2.out).ext hx3).all (ent_size _).symm (by omega)
  have row1 : rowOf W3 F1 0 45 = some (entC ⟨st, so, .slice A1 l.length c1, by_, wh⟩) := ((HF1.out.ext HX2.out).ext hx3).all (ent_size _).symm (by omega)
  have row2 : rowOf W3 F2 0 45 = some (entC ⟨st, true, .slice A2 l.length c2, by_, wh⟩) := (HF2.out.ext hx3).all (ent_size _).symm (by omega)
  have row3 : rowOf W3 F3 0 45 = some (entC noEn) := f3.all (ent_size _).symm (by omega)
  have row4 : rowOf W3 (F3 + 1) 0 45 = some (entC ⟨st, true, .slice A l.length c, by_, wh⟩) := f4.all (ent_size _).symm (by omega)
  clear hx3 f3 f4 rowE2 hf0 hfe
  refine (sanity_ok _ (RowAt.ext HK.out HX.out) (RowAt.ext HRK.out HX.out)).mono ?_
  rintro e' w' ⟨rfl, hxl⟩; obtain ⟨xi, rfl⟩ := hxl.asLater; clear hxl
  go_wp2_with (first
    | (go_at_call 11; refine (show Hid _ from ?_).out)
    | (go_at_call 17; refine (show Hid _ from ?_).out)
    | (go_at_call 9; refine (show Hid _ from ?_).out))
  refine Lib.hid ?_
  refine (same_any ⟨st, so, .slice A1 l.length c1, by_, wh⟩ A1 A c1 c l _ rfl (by omega) (HD1'.out.on ((HX2.out.trans HX3.out).onto _)) (HI.out.hr.on (HX.out.onto _))).mono ?_
  rintro e' w' ⟨rfl, hxl⟩; obtain ⟨xj, rfl⟩ := hxl.asLater; clear hxl
  go_wp2_with (first
    | (go_at_call 11; refine (show Hid _ from ?_).out)
    | (go_at_call 17; refine (show Hid _ from ?_).out)
    | (go_at_call 9; refine (show Hid _ from ?_).out))
  refine Lib.hid ?_
  refine (same_any ⟨st, true, .slice A2 l.length c2, by_, wh⟩ A2 A c2 c l _ rfl (by omega) (HD2'.out.on (HX3.out.onto _)) (HI.out.hr.on (HX.out.onto _))).mono ?_
  rintro e' w' ⟨rfl, hxl⟩; obtain ⟨xk, rfl⟩ := hxl.asLater; clear hxl
  go_wp2_with (first
    | (go_at_call 11; refine (show Hid _ from ?_).out)
    | (go_at_call 17; refine (show Hid _ from ?_).out)
    | (go_at_call 9; refine (show Hid _ from ?_).out))
  refine Lib.hid ?_
  refine (same_any noEn none none 0 0 [] _ rfl (by decide) (Reads.nil _ _ _ _ _) (Reads.nil _ _ _ _ _)).mono ?_
  rintro e' w' ⟨rfl, hxl⟩; obtain ⟨xm, rfl⟩ := hxl.asLater; clear hxl
  go_wp2
  go_ret
  exact ⟨rfl, HX.out.onto _⟩
end Go.Proofs.YtiacnoejlmaplaaGreatDoor

namespace Go.Proofs.YtiacnoejlmaplaaGreatDoor
open Go.ChangeShapes Go.WideShapes Go.ChangeAt Go.RowKit
open Go.Proofs

set_option maxRecDepth 100000 in
theorem open_span {H : Type} {enc : TypeId × Value → H} {w : World} {base : Nat} {spare : Nat → Bool} {held : Bool} {r : Reach} {b0 : Nat} {v : Value} {d : DataW H} {p : List MemPlace} (hv : Value.okWide Tryz.prog w r b0 49 v) (h : DataW.Trod enc Tryz.prog w base spare held 49 v d p) :
    ∃ a b : Int, v = .agg #[.int .i64 a, .int .i64 b] := by
  obtain ⟨c0, c1, y0, y1, m, rfl, _, _, hy0, hy1⟩ := Go.Joins.open_agg2 Tryz.underlying49 (by kernel_rfl) (by kernel_rfl) hv h
  obtain ⟨a, e0, _, wa⟩ := DataW.trod_int Tryz.underlying3 hy0
  obtain ⟨b, e1, _, wb⟩ := DataW.trod_int Tryz.underlying3 hy1
  simp at e0 e1
  subst e0 e1
  exact ⟨a, b, rfl⟩
theorem laid35j {W : World} (h : laidMetH Tryz.prog Rows.entryJudgesAsSpecifiedRow.laid W) : Konst 0 W ∧ RKonst W := by
  rw [MakeChecks.laidMetH_plain _ _ _ (by kernel_rfl)] at h
  obtain ⟨ps, ⟨g0, t0, cs0, f0, p0, q0, hg0, ht0, hv0, hd0, ⟨g1, t1, cs1, f1, p1, q1, hg1, ht1, hv1, hd1, _, rfl⟩, rfl⟩, _, hf⟩ := h
  obtain rfl := Option.some.inj ((show Tryz.prog.globalNamed "weirgate/weirgateref02.constants" = some 1 by kernel_rfl).symm.trans hg0)
  obtain rfl := Option.some.inj ((show Tryz.prog.globalNamed "weirgate/hash.constants" = some 0 by kernel_rfl).symm.trans hg1)
  obtain rfl := Option.some.inj ((show (Tryz.prog.globals[(1 : Nat)]?).map (·.type) = some 155 by kernel_rfl).symm.trans ht0)
  obtain rfl := Option.some.inj ((show (Tryz.prog.globals[(0 : Nat)]?).map (·.type) = some 155 by kernel_rfl).symm.trans ht1)
  rw [laidRK] at hd0
  rw [laidK] at hd1
  exact ⟨table_at hg1 hv1 hd1 (fun x hx => by simp [hx]) hf, table_at hg0 hv0 hd0 (fun x hx => by simp [hx]) hf⟩

set_option maxRecDepth 100000 in
theorem entryJudgesAsSpecified_lifted (os : Os) (started : os.Started) (H : Type) (enc : TypeId × Value → H) :
    ReturnsInHanded {} Tryz.checked os 4 .any (fun w args => (Rows.entryJudgesAsSpecifiedSpec.pre enc Tryz.prog Tryz.f4 Rows.entryJudgesAsSpecifiedRow.domain false w args ∧ laidMetH Tryz.prog Rows.entryJudgesAsSpecifiedRow.laid w) ∧ sizedMet enc Tryz.prog Tryz.f4 (OpenSpec.ofChange Rows.entryJudgesAsSpecifiedSpec) false w args)
      (Rows.entryJudgesAsSpecifiedSpec.post enc Tryz.prog Tryz.f4 false true false false) := by
  refine returnsInHanded_of_change_and (C := Tryz.checked) (X := fun w _ => laidMetH Tryz.prog Rows.entryJudgesAsSpecifiedRow.laid w) (fun _ _ _ hh h => h.of_heap hh) Tryz.own started (by kernel_rfl) Tryz.func4
    (ChangeSpec.witness_shaped (enc := enc) (C := Tryz.checked) (os := os) (X := fun w _ => laidMetH Tryz.prog Rows.entryJudgesAsSpecifiedRow.laid w) false (World.laidAll Tryz.prog os Rows.entryJudgesAsSpecifiedRow.laid) #[.agg (entC noEn), .agg (ruC noRu), .agg #[.int .i64 0, .int .i64 0], .int .i64 0, .agg #[.int .i64 0, .int .i64 0]] 8 (World.laidAll_os _ _ _)
      (World.shaped_of_ZipB (by kernel_rfl) (by kernel_rfl)) (by kernel_rfl) (by kernel_rfl) (by kernel_rfl)
      (by rw [MakeChecks.laidMetH_plain _ _ _ (by kernel_rfl)]; exact laidMet_laidAll _ (by kernel_rfl) (by kernel_rfl))) ?_
  intro W base args ds gs before hval0 hW hcnd _ hL _
  have hval : ∀ (j : Nat) t v, Tryz.f4.params[j]? = some t → args[j]? = some v → Value.okWide Tryz.prog W .any base t v := hval0
  have hW' := hW
  obtain ⟨p, q, hA0, hV, rfl, hfz, hnd⟩ := hW
  have hA : DataW.TrodAll enc Tryz.prog W 0 (fun _ => true) true Tryz.f4.params.toList args.toList ds p := hA0
  rw [Tryz.params4] at hA hval
  obtain ⟨rfl, rfl⟩ := trodVars_none hV
  clear hA0 hval0 hcnd
  obtain ⟨v0, vs0, d0, ds0, p0, q0, ea0, rfl, rfl, h0, hA⟩ := trodAll_cons hA
  obtain ⟨v1, vs1, d1, ds1, p1, q1, rfl, rfl, rfl, h1, hA⟩ := trodAll_cons hA
  obtain ⟨v2, vs2, d2, ds2, p2, q2, rfl, rfl, rfl, h2, hA⟩ := trodAll_cons hA
  obtain ⟨v3, vs3, d3, ds3, p3, q3, rfl, rfl, rfl, h3, hA⟩ := trodAll_cons hA
  obtain ⟨v4, vs4, d4, ds4, p4, q4, rfl, rfl, rfl, h4, hA⟩ := trodAll_cons hA
  obtain ⟨rfl, rfl, rfl⟩ := trodAll_nil hA
  obtain rfl : args = #[v0, v1, v2, v3, v4] := by cases args; simp_all
  obtain ⟨hk, hrk⟩ := laid35j hL
  obtain ⟨e, A, c, l, rfl, hin⟩ := open_entry (hval 0 31 v0 rfl rfl) h0
  obtain ⟨r, rfl, hru⟩ := open_rule (hval 1 38 v1 rfl rfl) h1
  obtain ⟨a, b, rfl, _, _⟩ := open_period (hval 2 25 v2 rfl rfl) h2
  obtain ⟨mode, rfl, _, _, _⟩ := open_int Tryz.underlying3 (hval 3 3 v3 rfl rfl) h3
  obtain ⟨s1, s2, rfl⟩ := open_span (hval 4 49 v4 rfl rfl) h4
  have main : Calls Tryz.prog 4 #[.agg (entC e), .agg (ruC r), .agg #[.int .i64 a, .int .i64 b], .int .i64 mode, .agg #[.int .i64 s1, .int .i64 s2]] W fun e' w' => e' = .returned (.bool true) ∧ Ext W w' := by
    by_cases hc : fineB e l = true ∧ fairB r = true ∧ perB a b = true
    · obtain ⟨st, so, hv, by_, wh⟩ := e
      have : hv = .slice A l.length c := hin.hv
      subst this
      exact judges_ok st so by_ wh A c l r a b mode s1 s2 W hin hru hk hrk hc.1 hc.2.1 hc.2.2
    · exact judges_arg e A c l r a b mode s1 s2 W hin hru hk hrk hc
  refine main.mono fun e' W' ⟨he, hx⟩ => ?_
  subst he
  exact ⟨_, rfl, law_post Tryz.laidOut (by kernel_rfl) rfl hW' hx 4 (by kernel_rfl) Tryz.underlying4 rfl rfl rfl⟩

theorem entryJudgesAsSpecified_holds : Rows.EntryJudgesAsSpecifiedSaid :=
  OpenClaim.holds_of_wide 4 Tryz.f4 rfl rfl rfl rfl rfl rfl rfl ⟨rfl, rfl, rfl, rfl, rfl⟩ rfl rfl rfl rfl rfl (by kernel_rfl) Tryz.func4 (by kernel_rfl)
    (of_decide_eq_true (by kernel_rfl)) (by unfold Func.isWrapper; first | (rw [if_pos (by decide +kernel)]; kernel_rfl) | (rw [if_neg (by decide +kernel)]; exact ⟨rfl, rfl⟩))
    (fun os started H enc _ => entryJudgesAsSpecified_lifted os started H enc)
theorem entryJudgesAsSpecified_card : Rows.EntryJudgesAsSpecifiedCardSaid :=
  Claim7.holds_tied_plain_at .later [] [.data, .data] true (true, "2871ac4b45b9498930140d65cbf4682331741e4557a9af76684163170be13575") false
    entryJudgesAsSpecified_holds (fun _ h => by cases h) (by kernel_rfl) (fun _ h => by cases h) entryJudgesAsSpecified_row_tie rfl ⟨rfl, rfl⟩ (by kernel_rfl) rfl
    (fun f fn hf hfn => by
      obtain rfl : f = 4 := Option.some.inj ((show Tryz.prog.funcNamed "weirgate/weirgatelaw35.EntryJudgesAsSpecified" = some 4 by kernel_rfl).symm.trans hf) |>.symm
      obtain rfl : fn = Tryz.f4 := (Option.some.inj (Tryz.func4.symm.trans hfn)).symm
      exact ⟨by kernel_rfl, fun j t ht => by
        rw [Tryz.params4] at ht
        have hm : t ∈ [31, 38, 25, 3, 49] := by simpa using Array.mem_of_getElem? ht
        have hall : ([31, 38, 25, 3, 49].all fun u => !Tryz.prog.wantsStandIn u) = true := by kernel_rfl
        exact (show Tryz.prog.wantsStandIn t = false by simpa using List.all_eq_true.1 hall t hm)⟩)
    (by kernel_rfl)
#print axioms entryJudgesAsSpecified_card
end Go.Proofs.YtiacnoejlmaplaaGreatDoor
