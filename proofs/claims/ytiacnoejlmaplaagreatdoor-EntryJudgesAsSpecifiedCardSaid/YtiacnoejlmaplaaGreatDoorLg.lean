/- The law EntryOnlyGrowsOld, walked: it returns true. -/
import Derived.Test.YtiacnoejlmaplaaGreatDoorProg
import Derived.Test.YtiacnoejlmaplaaGreatDoorExt
import Derived.WalkKit
import Derived.WalkSpells
import Derived.WalkLawsBesides
import Derived.Deep.QuietTactic
import Derived.BigQuiet
import Derived.Test.YtiacnoejlmaplaaGreatDoorMn
import Derived.Test.YtiacnoejlmaplaaGreatDoorFd
import Derived.Test.YtiacnoejlmaplaaGreatDoorEt
set_option linter.unusedVariables false
set_option linter.unusedSimpArgs false
namespace Go.Proofs.YtiacnoejlmaplaaGreatDoor
open Go.RowKit Go.Shelf
open Go.Proofs
open Go.Proofs.Sp (Sp)

theorem state_mono (e : En) (r : Ru) (h1 h2 m : Int) (h : h1 ≤ h2) : (stateN e r (ageN e h2) m = 1 → stateN e r (ageN e h1) m = 1) ∧ (stateN e r (ageN e h1) m = 0 → stateN e r (ageN e h2) m = 0) := by
  have ha : ageN e h1 ≤ ageN e h2 := by unfold ageN; omega
  generalize ageN e h1 = a at *
  generalize ageN e h2 = b at *
  unfold stateN
  generalize (if e.st.status = 200 then r.fresh else r.neg) = y
  constructor
  · intro k
    split at k
    · omega
    · rename_i hw
      split at k
      · rename_i hs
        rw [if_neg hw, if_pos ⟨hs.1, by omega⟩]
      · split at k <;> omega
  · intro k
    split at k
    · rename_i hw
      rw [if_pos hw]
    · rename_i hw
      rw [if_neg hw]
      split at k
      · omega
      · rename_i hs
        split at k
        · omega
        · rename_i hm
          rw [if_neg (fun q => hs ⟨q.1, by omega⟩), if_neg (fun q => hm ⟨q.1, q.2.imp (fun t => ⟨t.1, by omega⟩) (fun t => ⟨t.1, by omega⟩)⟩)]
theorem state_soft (e : En) (r : Ru) (a m : Int) (h : e.soft = true) : stateN e r a m ≠ 1 := by
  unfold stateN
  by_cases hw : e.whole = false
  · rw [if_pos hw]; decide
  · rw [if_neg hw, if_neg (by simp [h])]
    split <;> decide
theorem state_later (e f : En) (r : Ru) (h m : Int) (hs : f.soft = e.soft) (hw : f.whole = e.whole) (ht : f.st.status = e.st.status) (hl : e.st.lo ≤ f.st.lo) : (stateN e r (ageN e h) m = 1 → stateN f r (ageN f h) m = 1) ∧ (stateN f r (ageN f h) m = 0 → stateN e r (ageN e h) m = 0) := by
  have ha : ageN f h ≤ ageN e h := by unfold ageN; omega
  generalize ageN e h = b at *
  generalize ageN f h = a at *
  unfold stateN
  rw [hs, hw, ht]
  generalize (if e.st.status = 200 then r.fresh else r.neg) = y
  constructor
  · intro k
    split at k
    · omega
    · rename_i hw
      split at k
      · rename_i hs
        rw [if_neg hw, if_pos ⟨hs.1, by omega⟩]
      · split at k <;> omega
  · intro k
    split at k
    · rename_i hw
      rw [if_pos hw]
    · rename_i hw
      rw [if_neg hw]
      split at k
      · omega
      · rename_i hs
        split at k
        · omega
        · rename_i hm
          rw [if_neg (fun q => hs ⟨q.1, by omega⟩), if_neg (fun q => hm ⟨q.1, q.2.imp (fun t => ⟨t.1, by omega⟩) (fun t => ⟨t.1, by omega⟩)⟩)]
set_option maxRecDepth 100000 in
set_option maxHeartbeats 4000000 in
theorem grows_arg (e : En) (A : Option Addr) (c : Nat) (l : List Sp) (r : Ru) (a1 b1 a2 b2 mode n : Int) (w : World) (hi : EntIn e A c l w) (hru : (ruC r).size = 18) (hk : Konst 0 w) (hrk : RKonst w)
    (h : ¬ (fineB e l = true ∧ fairB r = true ∧ perB a1 b1 = true ∧ perB a2 b2 = true ∧ b1 ≤ b2)) :
    Calls Tryz.prog 3 #[.agg (entC e), .agg (ruC r), .agg #[.int .i64 a1, .int .i64 b1], .agg #[.int .i64 a2, .int .i64 b2], .int .i64 mode, .int .u16 n] w fun e' w' => e' = .returned (.bool true) ∧ Ext w w' := by
  have HI := Lib.hid hi
  have HK := Lib.hid hk
  have HRK := Lib.hid hrk
  have hra := ru_all r hru
  clear hi hk hrk
  have HH : Hid (((((!fineB e l) || (!fairB r)) || (!perB a1 b1)) || (!perB a2 b2) || decide (b2 < b1)) = true) := Lib.hid (by
    cases k1 : fineB e l <;> cases k2 : fairB r <;> cases k3 : perB a1 b1 <;> cases k4 : perB a2 b2 <;> simp_all)
  clear h
  obtain ⟨f1, e1⟩ : ∃ f, fineB e l = f := ⟨_, rfl⟩
  obtain ⟨f2, e2⟩ : ∃ f, fairB r = f := ⟨_, rfl⟩
  obtain ⟨f3, e3⟩ : ∃ f, perB a1 b1 = f := ⟨_, rfl⟩
  obtain ⟨f4, e4⟩ : ∃ f, perB a2 b2 = f := ⟨_, rfl⟩
  rw [e1, e2, e3, e4] at HH
  have H1 := Lib.hid e1
  have H2 := Lib.hid e2
  have H3 := Lib.hid e3
  have H4 := Lib.hid e4
  have hh := HH.out
  clear e1 e2 e3 e4 HH
  go_enter Tryz.func3, Tryz.ntmps3
  go_wp2_with (first
    | (go_at_call 6; refine (fine_any e A c l _ HI.out.hv HI.out.hl HI.out.h1 HI.out.h2 HI.out.h3 HI.out.h4 HI.out.hb HI.out.hby (RowAt.ext HRK.out (by (repeat (first | with_reducible exact Ext.refl _ | with_reducible exact Ext.refl _ | with_reducible refine Ext.drew ?_ | with_reducible refine Ext.drewN ?_ _ | with_reducible refine Ext.alloc ?_ _ | with_reducible refine Ext.onto ?_ _ | (with_reducible refine Ext.setCells ?_ ?_ _ _; rotate_left; focus (first | omega | (simp; done) | (simp; omega))) | (with_reducible refine Ext.setCell ?_ ?_ _; rotate_left; focus (first | omega | (simp; done) | (simp; omega))))))) (HI.out.hr.on (by (repeat (first | with_reducible exact Ext.refl _ | with_reducible exact Ext.refl _ | with_reducible refine Ext.drew ?_ | with_reducible refine Ext.drewN ?_ _ | with_reducible refine Ext.alloc ?_ _ | with_reducible refine Ext.onto ?_ _ | (with_reducible refine Ext.setCells ?_ ?_ _ _; rotate_left; focus (first | omega | (simp; done) | (simp; omega))) | (with_reducible refine Ext.setCell ?_ ?_ _; rotate_left; focus (first | omega | (simp; done) | (simp; omega)))))))).mono ?_; rw [H1.out]; rintro e w' ⟨rfl, hxl⟩; obtain ⟨xl, rfl⟩ := hxl.asLater; clear hxl)
    | (go_at_call 7; refine (fair_any r _).mono ?_; rw [H2.out]; rintro e w' ⟨rfl, hxl⟩; obtain ⟨xl, rfl⟩ := hxl.asLater; clear hxl)
    | (go_at_call 8; refine (rrt_any a1 b1 _).mono ?_; rw [H3.out]; rintro e w' ⟨rfl, hxl⟩; obtain ⟨xl, rfl⟩ := hxl.asLater; clear hxl)
    | (go_at_call 8; refine (rrt_any a2 b2 _).mono ?_; rw [H4.out]; rintro e w' ⟨rfl, hxl⟩; obtain ⟨xl, rfl⟩ := hxl.asLater; clear hxl)
    | (go_at_call 9; refine (sanity_ok _ (RowAt.ext HK.out (by (repeat (first | with_reducible exact Ext.refl _ | with_reducible exact Ext.refl _ | with_reducible refine Ext.drew ?_ | with_reducible refine Ext.drewN ?_ _ | with_reducible refine Ext.alloc ?_ _ | with_reducible refine Ext.onto ?_ _ | (with_reducible refine Ext.setCells ?_ ?_ _ _; rotate_left; focus (first | omega | (simp; done) | (simp; omega))) | (with_reducible refine Ext.setCell ?_ ?_ _; rotate_left; focus (first | omega | (simp; done) | (simp; omega))))))) (RowAt.ext HRK.out (by (repeat (first | with_reducible exact Ext.refl _ | with_reducible exact Ext.refl _ | with_reducible refine Ext.drew ?_ | with_reducible refine Ext.drewN ?_ _ | with_reducible refine Ext.alloc ?_ _ | with_reducible refine Ext.onto ?_ _ | (with_reducible refine Ext.setCells ?_ ?_ _ _; rotate_left; focus (first | omega | (simp; done) | (simp; omega))) | (with_reducible refine Ext.setCell ?_ ?_ _; rotate_left; focus (first | omega | (simp; done) | (simp; omega)))))))).mono ?_; rintro e w' ⟨rfl, hxl⟩; obtain ⟨xl, rfl⟩ := hxl.asLater; clear hxl))
  all_goals first
    | (exfalso; simp_all; done)
    | (exfalso; simp_all; omega)
    | (go_ret; exact ⟨rfl, (by (repeat (first | with_reducible exact Ext.refl _ | with_reducible exact Ext.refl _ | with_reducible refine Ext.drew ?_ | with_reducible refine Ext.drewN ?_ _ | with_reducible refine Ext.alloc ?_ _ | with_reducible refine Ext.onto ?_ _ | (with_reducible refine Ext.setCells ?_ ?_ _ _; rotate_left; focus (first | omega | (simp; done) | (simp; omega))) | (with_reducible refine Ext.setCell ?_ ?_ _; rotate_left; focus (first | omega | (simp; done) | (simp; omega))))))⟩)
theorem state_val (e : En) (r : Ru) (lo hi mode x : Int) (w : World) (h0 : 0 ≤ e.st.lo) (h1 : e.st.lo ≤ 1099511627776) (h2 : 0 ≤ hi) (h3 : hi ≤ 1099511627776) (hr : RuR r) (h : stateN e r (ageN e hi) mode = x) :
    Calls Tryz.prog 10 #[.agg (entC e), .agg (ruC r), .agg #[.int .i64 lo, .int .i64 hi], .int .i64 mode] w fun e' w' => e' = .returned (.int .i64 x) ∧ Ext w w' := by
  subst h
  exact state_any e r lo hi mode w h0 h1 h2 h3 hr
attribute [local go_sem ↓] setCells_cell_or
attribute [local go_sem ↓ 2000] alloc_setCells_cell
set_option maxRecDepth 100000 in
set_option maxHeartbeats 8000000 in
theorem grows_ok (e : En) (A : Option Addr) (c : Nat) (l : List Sp) (r : Ru) (a1 b1 a2 b2 mode : Int) (n : Nat) (w : World) (hi : EntIn e A c l w) (hru : (ruC r).size = 18) (hk : Konst 0 w) (hrk : RKonst w) (hn : n < 65536)
    (h1 : fineB e l = true) (h2 : fairB r = true) (h3 : perB a1 b1 = true) (h4 : perB a2 b2 = true) (h5 : b1 ≤ b2) :
    Calls Tryz.prog 3 #[.agg (entC e), .agg (ruC r), .agg #[.int .i64 a1, .int .i64 b1], .agg #[.int .i64 a2, .int .i64 b2], .int .i64 mode, .int .u16 n] w fun e' w' => e' = .returned (.bool true) ∧ Ext w w' := by
  have HI := Lib.hid hi
  have HK := Lib.hid hk
  have HRK := Lib.hid hrk
  have hra := ru_all r hru
  have hfe : fitsRow 45 (entC e) = true := ent_fits_of hi.hv
  obtain ⟨q1, q2, q3, q4⟩ := fineB_bd h1
  have HR := Lib.hid (fairB_R h2)
  obtain ⟨p1, p2, p3⟩ := perB_iff.1 h3
  obtain ⟨p4, p5, p6⟩ := perB_iff.1 h4
  have H1 := Lib.hid h1
  have H2 := Lib.hid h2
  have H3 := Lib.hid h3
  have H4 := Lib.hid h4
  obtain ⟨x, hx⟩ : ∃ x, stateN e r (ageN e b1) mode = x := ⟨_, rfl⟩
  obtain ⟨y, hy⟩ : ∃ y, stateN e r (ageN e b2) mode = y := ⟨_, rfl⟩
  have HXY := Lib.hid (state_mono e r b1 b2 mode h5)
  rw [hx, hy] at HXY
  have HX := Lib.hid hx
  have HY := Lib.hid hy
  clear hi hk hrk h1 h2 h3 h4 hx hy
  go_enter Tryz.func3, Tryz.ntmps3
  go_wp2_with (first
    | (go_at_call 6; refine (fine_any e A c l _ HI.out.hv HI.out.hl HI.out.h1 HI.out.h2 HI.out.h3 HI.out.h4 HI.out.hb HI.out.hby (RowAt.ext HRK.out (by (repeat (first | with_reducible exact Ext.refl _ | with_reducible exact Ext.refl _ | with_reducible refine Ext.drew ?_ | with_reducible refine Ext.drewN ?_ _ | with_reducible refine Ext.alloc ?_ _ | with_reducible refine Ext.onto ?_ _ | (with_reducible refine Ext.setCells ?_ ?_ _ _; rotate_left; focus (first | omega | (simp; done) | (simp; omega))) | (with_reducible refine Ext.setCell ?_ ?_ _; rotate_left; focus (first | omega | (simp; done) | (simp; omega))))))) (HI.out.hr.on (by (repeat (first | with_reducible exact Ext.refl _ | with_reducible exact Ext.refl _ | with_reducible refine Ext.drew ?_ | with_reducible refine Ext.drewN ?_ _ | with_reducible refine Ext.alloc ?_ _ | with_reducible refine Ext.onto ?_ _ | (with_reducible refine Ext.setCells ?_ ?_ _ _; rotate_left; focus (first | omega | (simp; done) | (simp; omega))) | (with_reducible refine Ext.setCell ?_ ?_ _; rotate_left; focus (first | omega | (simp; done) | (simp; omega)))))))).mono ?_; rw [H1.out]; rintro e w' ⟨rfl, hxl⟩; obtain ⟨xl, rfl⟩ := hxl.asLater; clear hxl)
    | (go_at_call 7; refine (fair_any r _).mono ?_; rw [H2.out]; rintro e w' ⟨rfl, hxl⟩; obtain ⟨xl, rfl⟩ := hxl.asLater; clear hxl)
    | (go_at_call 8; refine (rrt_any a1 b1 _).mono ?_; rw [H3.out]; rintro e w' ⟨rfl, hxl⟩; obtain ⟨xl, rfl⟩ := hxl.asLater; clear hxl)
    | (go_at_call 8; refine (rrt_any a2 b2 _).mono ?_; rw [H4.out]; rintro e w' ⟨rfl, hxl⟩; obtain ⟨xl, rfl⟩ := hxl.asLater; clear hxl)
    | (go_at_call 10; refine (show Hid _ from ?_).out))
  refine Lib.hid ?_
  refine (state_val e r a1 b1 mode x _ q2 (by omega) (by omega) (by omega) HR.out HX.out).mono ?_
  rintro e w' ⟨rfl, hxl⟩; obtain ⟨xl, rfl⟩ := hxl.asLater; clear hxl
  go_wp2_with (first
    | (go_at_call 10; refine (show Hid _ from ?_).out))
  refine Lib.hid ?_
  refine (state_val e r a2 b2 mode y _ q2 (by omega) (by omega) (by omega) HR.out HY.out).mono ?_
  rintro e w' ⟨rfl, hxl⟩; obtain ⟨xl, rfl⟩ := hxl.asLater; clear hxl
  go_wp2_with (first
    | (go_at_call 11; refine (show Hid _ from ?_).out))
  all_goals first
    | (exfalso; rename_i k1 k2; exact k2 (HXY.out.1 k1))
    | (exfalso; rename_i k1 k2; have := HXY.out.2 k1; rw [this] at k2; cases k2)
    | skip
  all_goals
    refine Lib.hid ?_
    refine (hit_stale e A c l _ HI.out.hv HI.out.hA (by omega) (HI.out.hr.on (by (repeat (first | with_reducible exact Ext.refl _ | with_reducible exact Ext.refl _ | with_reducible refine Ext.drew ?_ | with_reducible refine Ext.drewN ?_ _ | with_reducible refine Ext.alloc ?_ _ | with_reducible refine Ext.onto ?_ _ | (with_reducible refine Ext.setCells ?_ ?_ _ _; rotate_left; focus (first | omega | (simp; done) | (simp; omega))) | (with_reducible refine Ext.setCell ?_ ?_ _; rotate_left; focus (first | omega | (simp; done) | (simp; omega)))))))).mono ?_
    rintro e' w' ⟨A', c', rfl, ho, hxl⟩
    obtain ⟨xl, rfl⟩ := hxl.asLater
    clear hxl ho
    have hfs : fitsRow 45 (entC { e with hv := .slice A' l.length c', soft := true }) = true := ent_fits_of rfl
    go_wp2_with (first
      | (go_at_call 10; refine (show Hid _ from ?_).out)
      | (go_at_call 9; refine (show Hid _ from ?_).out))
    refine Lib.hid ?_
    refine calls_world (fun W => Ext w W ∧ RowAt W w.heap.size (entC e) ∧ RowAt W (w.heap.size + 1) (ruC r) ∧ RowAt W (w.heap.size + 1 + 1) #[.int .i64 a1, .int .i64 b1]) ⟨(by (repeat (first | with_reducible exact Ext.refl _ | with_reducible exact Ext.refl _ | with_reducible refine Ext.drew ?_ | with_reducible refine Ext.drewN ?_ _ | with_reducible refine Ext.alloc ?_ _ | with_reducible refine Ext.onto ?_ _ | (with_reducible refine Ext.setCells ?_ ?_ _ _; rotate_left; focus (first | omega | (simp; done) | (simp; omega))) | (with_reducible refine Ext.setCell ?_ ?_ _; rotate_left; focus (first | omega | (simp; done) | (simp; omega)))))), (by (repeat (first | with_reducible exact RowAt.new _ _ _ | with_reducible refine RowAt.drew ?_ | with_reducible refine RowAt.later ?_ _ | with_reducible exact RowAt.newAt (by first | rfl | omega | (simp [later_size, setCells_size]; done) | (simp [later_size, setCells_size]; omega)) | with_reducible refine RowAt.alloc ?_ _ | with_reducible apply RowAt.store | with_reducible refine RowAt.others ?_ ?_ _ _ | with_reducible refine RowAt.other ?_ ?_ _)); all_goals first | omega | (simp; done) | (simp; omega) | (simp [go_sem]; done)), (by (repeat (first | with_reducible exact RowAt.new _ _ _ | with_reducible refine RowAt.drew ?_ | with_reducible refine RowAt.later ?_ _ | with_reducible exact RowAt.newAt (by first | rfl | omega | (simp [later_size, setCells_size]; done) | (simp [later_size, setCells_size]; omega)) | with_reducible refine RowAt.alloc ?_ _ | with_reducible apply RowAt.store | with_reducible refine RowAt.others ?_ ?_ _ _ | with_reducible refine RowAt.other ?_ ?_ _)); all_goals first | omega | (simp; done) | (simp; omega) | (simp [go_sem]; done)), (by (repeat (first | with_reducible exact RowAt.new _ _ _ | with_reducible refine RowAt.drew ?_ | with_reducible refine RowAt.later ?_ _ | with_reducible exact RowAt.newAt (by first | rfl | omega | (simp [later_size, setCells_size]; done) | (simp [later_size, setCells_size]; omega)) | with_reducible refine RowAt.alloc ?_ _ | with_reducible apply RowAt.store | with_reducible refine RowAt.others ?_ ?_ _ _ | with_reducible refine RowAt.other ?_ ?_ _)); all_goals first | omega | (simp; done) | (simp; omega) | (simp [go_sem]; done))⟩ ?_
    rintro W ⟨hx0, r1, r2, r3⟩
    have HX0 := Lib.hid hx0
    have rowE : rowOf W w.heap.size 0 45 = some (entC e) := r1.all (ent_size e).symm (by omega)
    have rowR : rowOf W (w.heap.size + 1) 0 18 = some (ruC r) := r2.all hru.symm (by omega)
    have k0 : W.cell? ⟨w.heap.size + 1 + 1, 0, none⟩ = some (.int .i64 a1) := r3.cell 0
    have k1 : W.cell? ⟨w.heap.size + 1 + 1, 1, none⟩ = some (.int .i64 b1) := r3.cell 1
    have k21 : W.cell? ⟨w.heap.size, 21, none⟩ = some (.int .i64 e.st.lo) := (r1.cell 21).trans (ent_g21 e)
    have k22 : W.cell? ⟨w.heap.size, 22, none⟩ = some (.int .i64 e.st.hi) := (r1.cell 22).trans (ent_g22 e)
    have hl3 := r3.lt
    clear hx0 r1 r2 r3 hfs
    obtain ⟨s, hs⟩ : ∃ s, stateN { e with hv := .slice A' l.length c', soft := true } r (ageN { e with hv := .slice A' l.length c', soft := true } b1) mode = s := ⟨_, rfl⟩
    have HS1 : Hid (s ≠ 1) := Lib.hid (by rw [← hs]; exact state_soft _ r _ mode rfl)
    refine (state_val { e with hv := .slice A' l.length c', soft := true } r a1 b1 mode s _ q2 (by show e.st.lo ≤ _; omega) (by omega) (by omega) HR.out hs).mono ?_
    clear hs
    rintro e w' ⟨rfl, hxl⟩; obtain ⟨xl, rfl⟩ := hxl.asLater; clear hxl
    go_wp2_with (first
      | (go_at_call 10; refine (show Hid _ from ?_).out)
      | (go_at_call 9; refine (show Hid _ from ?_).out))
  all_goals first
    | (exfalso; rename_i kk; exact HS1.out (by simpa using kk))
    | skip
  all_goals
    refine Lib.hid ?_
    obtain ⟨z, hz⟩ : ∃ z, stateN { e with st := { e.st with lo := min (e.st.lo + (n : Int)) e.st.hi } } r (ageN { e with st := { e.st with lo := min (e.st.lo + (n : Int)) e.st.hi } } b1) mode = z := ⟨_, rfl⟩
    have HZ := Lib.hid (state_later e { e with st := { e.st with lo := min (e.st.lo + (n : Int)) e.st.hi } } r b1 mode rfl rfl rfl (by show e.st.lo ≤ min (e.st.lo + (n : Int)) e.st.hi; omega))
    rw [HX.out, hz] at HZ
    refine (state_val { e with st := { e.st with lo := min (e.st.lo + (n : Int)) e.st.hi } } r a1 b1 mode z _ (by show 0 ≤ min (e.st.lo + (n : Int)) e.st.hi; omega) (by show min (e.st.lo + (n : Int)) e.st.hi ≤ _; omega) (by omega) (by omega) HR.out hz).mono ?_
    clear hz
    rintro e w' ⟨rfl, hxl⟩; obtain ⟨xl, rfl⟩ := hxl.asLater; clear hxl
    go_wp2_with (first
      | (go_at_call 10; refine (show Hid _ from ?_).out)
      | (go_at_call 9; refine (show Hid _ from ?_).out))
    refine Lib.hid ?_
    refine (sanity_ok _ (RowAt.ext HK.out (HX0.out.trans (by (repeat (first | with_reducible exact Ext.refl _ | with_reducible exact Ext.refl _ | with_reducible refine Ext.drew ?_ | with_reducible refine Ext.drewN ?_ _ | with_reducible refine Ext.alloc ?_ _ | with_reducible refine Ext.onto ?_ _ | (with_reducible refine Ext.setCells ?_ ?_ _ _; rotate_left; focus (first | omega | (simp; done) | (simp; omega))) | (with_reducible refine Ext.setCell ?_ ?_ _; rotate_left; focus (first | omega | (simp; done) | (simp; omega)))))))) (RowAt.ext HRK.out (HX0.out.trans (by (repeat (first | with_reducible exact Ext.refl _ | with_reducible exact Ext.refl _ | with_reducible refine Ext.drew ?_ | with_reducible refine Ext.drewN ?_ _ | with_reducible refine Ext.alloc ?_ _ | with_reducible refine Ext.onto ?_ _ | (with_reducible refine Ext.setCells ?_ ?_ _ _; rotate_left; focus (first | omega | (simp; done) | (simp; omega))) | (with_reducible refine Ext.setCell ?_ ?_ _; rotate_left; focus (first | omega | (simp; done) | (simp; omega))))))))).mono ?_
    rintro e w' ⟨rfl, hxl⟩; obtain ⟨xl, rfl⟩ := hxl.asLater; clear hxl
    go_wp2
  all_goals first
    | (exfalso; rename_i kz; exact kz (HZ.out.1 (by assumption)))
    | (go_ret
       refine ⟨ret_bool ?_, HX0.out.trans (by (repeat (first | with_reducible exact Ext.refl _ | with_reducible exact Ext.refl _ | with_reducible refine Ext.drew ?_ | with_reducible refine Ext.drewN ?_ _ | with_reducible refine Ext.alloc ?_ _ | with_reducible refine Ext.onto ?_ _ | (with_reducible refine Ext.setCells ?_ ?_ _ _; rotate_left; focus (first | omega | (simp; done) | (simp; omega))) | (with_reducible refine Ext.setCell ?_ ?_ _; rotate_left; focus (first | omega | (simp; done) | (simp; omega))))))⟩
       have hq := HZ.out
       clear HX HY HXY HZ HS1 HX0 HR H1 H2 H3 H4 HI HK HRK
       first | rfl | (simp_all; done))
end Go.Proofs.YtiacnoejlmaplaaGreatDoor
