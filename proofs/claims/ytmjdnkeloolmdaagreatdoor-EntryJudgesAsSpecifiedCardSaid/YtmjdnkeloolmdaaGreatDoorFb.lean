/- Walks of entries: Put of a whole one, Begin, Missing, the stamp of the example. -/
import Derived.Test.YtmjdnkeloolmdaaGreatDoorProg
import Derived.Test.YtmjdnkeloolmdaaGreatDoorExt
import Derived.WalkKit
import Derived.WalkSpells
import Derived.WalkLawsBesides
import Derived.Deep.QuietTactic
import Derived.BigQuiet
import Derived.Test.YtmjdnkeloolmdaaGreatDoorFa
set_option linter.unusedVariables false
set_option linter.unusedSimpArgs false
namespace Go.Proofs.YtmjdnkeloolmdaaGreatDoor
open Go.RowKit Go.Shelf
open Go.Proofs
open Go.Proofs.Sp (Sp)

set_option maxHeartbeats 1000000 in
theorem put_whole (e : En) (A : Option Addr) (n c : Nat) (f : Int) (more : ByteArray) (w : World) (hv : e.hv = .slice A n c) (hw : e.whole = true) :
    Calls Tryz.prog 39 #[.agg (entC e), .int .i64 f, .string more] w fun e' w' => e' = .returned (.tuple #[.agg (entC e), .int .i64 4]) ∧ Ext w w' := by
  have hc44 : (entC e)[44]? = some (.bool true) := by rw [ent_g44, hw]
  have hf : fitsRow 45 (entC e) = true := ent_fits_of hv
  go_enter Tryz.func39, Tryz.ntmps39
  go_wp2
  refine post_two (v1 := .agg (entC e)) (v2 := .int .i64 4) Tryz.results39 rfl ⟨_, rfl, ent_loaded (row_stored (RowAt.newAt (cs := entC noEn) (t := 31) (by simp)) (ent_size _) (ent_size _))⟩ rfl ⟨rfl, (by (repeat (first | with_reducible exact Ext.refl _ | with_reducible exact Ext.refl _ | with_reducible refine Ext.drew ?_ | with_reducible refine Ext.drewN ?_ _ | with_reducible refine Ext.alloc ?_ _ | with_reducible refine Ext.onto ?_ _ | (with_reducible refine Ext.setCells ?_ ?_ _ _; rotate_left; focus (first | omega | (simp; done) | (simp; omega))) | (with_reducible refine Ext.setCell ?_ ?_ _; rotate_left; focus (first | omega | (simp; done) | (simp; omega))))))⟩
set_option maxHeartbeats 1000000 in
theorem begin_any (s : St) (w : World) (h1 : s.addr.size ≤ 4096) (h2 : s.var.size ≤ 4096) (h3 : s.tags.size ≤ 4096) (h : rightB s = true) (h4 : 0 < s.size) (h5 : s.size ≤ 65536) :
    Calls Tryz.prog 37 #[.agg (stmC s)] w fun e' w' => e' = .returned (.tuple #[.agg (entC (emptyEn s false)), .int .i64 0]) ∧ Ext w w' := by
  have H := Lib.hid h
  have hne : (s.size == 0) = false := by rw [beq_eq_false_iff_ne]; omega
  have d1 : decide (65536 < s.size) = false := by simp <;> omega
  have hf : fitsRow 45 (entC (emptyEn s false)) = true := ent_fits_of rfl
  clear h
  go_enter Tryz.func37, Tryz.ntmps37
  go_wp2_with (go_at_call 59; refine (right_ok s _ h1 h2 h3 H.out).mono ?_; rintro e w' ⟨rfl, hxl⟩; obtain ⟨xl, rfl⟩ := hxl.asLater; clear hxl)
  refine wp_region_later (by kernel_rfl) (by kernel_rfl) ?_
  repeat (first | go_big_quiet_step (fail) | quiet_step (fail))
  refine wpQuiet_nil ?_
  rintro _ ⟨xq, rfl⟩
  go_wp2_with (go_at_call 60; refine (empty_any s false _ (by omega) h5).mono ?_; rintro e w' ⟨rfl, hxl⟩; obtain ⟨xl, rfl⟩ := hxl.asLater; clear hxl)
  refine post_two (v1 := .agg (entC (emptyEn s false))) (v2 := .int .i64 0) Tryz.results37 rfl ⟨_, rfl, ent_loaded (row_stored ((by (repeat (first | with_reducible exact RowAt.newAt (cs := entC noEn) (t := 31) (by simp) | with_reducible refine RowAt.drew ?_ | with_reducible refine RowAt.later ?_ _ | with_reducible exact RowAt.newAt (by first | rfl | omega | (simp [later_size, setCells_size]; done) | (simp [later_size, setCells_size]; omega)) | with_reducible refine RowAt.alloc ?_ _ | with_reducible apply RowAt.store | with_reducible refine RowAt.others ?_ ?_ _ _ | with_reducible refine RowAt.other ?_ ?_ _)); all_goals first | omega | (simp; done) | (simp; omega) | (simp [go_sem]; done))) (ent_size _) (ent_size _))⟩ rfl ⟨rfl, (by (repeat (first | with_reducible exact Ext.refl _ | with_reducible exact Ext.refl _ | with_reducible refine Ext.drew ?_ | with_reducible refine Ext.drewN ?_ _ | with_reducible refine Ext.alloc ?_ _ | with_reducible refine Ext.onto ?_ _ | (with_reducible refine Ext.setCells ?_ ?_ _ _; rotate_left; focus (first | omega | (simp; done) | (simp; omega))) | (with_reducible refine Ext.setCell ?_ ?_ _; rotate_left; focus (first | omega | (simp; done) | (simp; omega))))))⟩
set_option maxHeartbeats 1000000 in
theorem emissing_any (e : En) (A : Option Addr) (c : Nat) (l : List Sp) (s1 s2 : Int) (w : World) (hv : e.hv = .slice A l.length c) (h0 : 0 ≤ s1) (h1 : s1 < e.st.size) (h2 : e.st.size ≤ s2) (h3 : e.st.size ≤ 65536)
    (hs : Sp.IsSet l) (hb : bd2 l) (hlen : l.length * 32 ≤ 140737488340000) (hr : ReadsSp w w.heap.size A l) (z : A = none → c = 0) :
    Calls Tryz.prog 40 #[.agg (entC e), .agg #[.int .i64 s1, .int .i64 s2]] w fun e' w' => ∃ A' c' out, e' = .returned (.slice A' out.length c') ∧ Hid (SetOf (fun x => (s1 ≤ x ∧ x < e.st.size) ∧ ¬ Sp.mem l x) out) ∧ OwnsSp w.heap.size w' A' c' out ∧ Ext w w' := by
  have hc42 : (entC e)[42]? = some (.slice A l.length c) := by rw [ent_g42, hv]
  have HR := Lib.hid hr
  have HZ := Lib.hid z
  have HS := Lib.hid hs
  have HB := Lib.hid hb
  have hmx : max s1 0 = s1 := by omega
  have hmn : min s2 e.st.size = e.st.size := by omega
  clear hr z hs hb
  go_enter Tryz.func40, Tryz.ntmps40
  go_wp2
  go_region
  all_goals
    go_wp2_with (go_at_call 63; refine (missing_any A c l (s1, e.st.size) _ HS.out HB.out ⟨⟨by show _ ≤ s1; omega, by show s1 ≤ _; omega⟩, by show _ ≤ e.st.size; omega, by show e.st.size ≤ _; omega⟩ (by omega) (HR.out.on (by (repeat (first | with_reducible exact Ext.refl _ | with_reducible exact Ext.refl _ | with_reducible refine Ext.drew ?_ | with_reducible refine Ext.drewN ?_ _ | with_reducible refine Ext.alloc ?_ _ | with_reducible refine Ext.onto ?_ _ | (with_reducible refine Ext.setCells ?_ ?_ _ _; rotate_left; focus (first | omega | (simp; done) | (simp; omega))) | (with_reducible refine Ext.setCell ?_ ?_ _; rotate_left; focus (first | omega | (simp; done) | (simp; omega))))))) HZ.out).mono ?_; rintro e' w2 ⟨A2, c2, out, rfl, HS2, hol2, ho2, hx2⟩; have HO2 := Lib.hid ho2; have HX2 := Lib.hid hx2; clear ho2 hx2)
    go_ret
    exact ⟨A2, c2, out, rfl, HS2, HO2.out.lower (by simp <;> omega), Ext.trans (by (repeat (first | with_reducible exact Ext.refl _ | with_reducible exact Ext.refl _ | with_reducible refine Ext.drew ?_ | with_reducible refine Ext.drewN ?_ _ | with_reducible refine Ext.alloc ?_ _ | with_reducible refine Ext.onto ?_ _ | (with_reducible refine Ext.setCells ?_ ?_ _ _; rotate_left; focus (first | omega | (simp; done) | (simp; omega))) | (with_reducible refine Ext.setCell ?_ ?_ _; rotate_left; focus (first | omega | (simp; done) | (simp; omega)))))) HX2.out⟩
def stmBuild (a b c d p g s : Value) : Sem Next := do pure (.value (← Instr.build 28 #[(0, a), (2, b), (3, c), (4, d), (6, p), (7, g), (8, s)]))
theorem stmBuild_x (ρ : Operand → Value) (dst : Option Tmp) (x0 x2 x3 x4 x6 x7 x8 : Operand) (t : TypeId) (pos : String) (after : Array Edge) (guard : Option (Nat × Bool)) : execOp ρ { dst, op := .build 28 #[(0, x0), (2, x2), (3, x3), (4, x4), (6, x6), (7, x7), (8, x8)], type := t, pos, after, guard } = stmBuild (ρ x0) (ρ x2) (ρ x3) (ρ x4) (ρ x6) (ρ x7) (ρ x8) := by kernel_rfl
theorem stmBuild_run (a : ByteArray) (st sz : Int) (D : List Int) (lo hi g s : Int) (W : World) : (stmBuild (.string a) (.int .i64 st) (.int .i64 sz) (.agg (dgC D)) (.agg #[.int .i64 lo, .int .i64 hi]) (.int .i64 g) (.int .i64 s)).run Tryz.prog W = .ok (.value (.agg (stmC ⟨a, ByteArray.empty, st, sz, D, ByteArray.empty, lo, hi, g, s, zeros32 16⟩))) W := by kernel_rfl
attribute [go_sem ↓] stmBuild_x
attribute [go_sem] stmBuild_run
def abcdef : ByteArray := ⟨#[97, 98, 99, 100, 101, 102]⟩
def theSt (D : List Int) : St := ⟨⟨#[47, 97]⟩, ByteArray.empty, 200, 6, D, ByteArray.empty, 100, 110, 7, 1, zeros32 16⟩
theorem rdigest_d (s : ByteArray) (D : List Int) (w : World) (hk : RKonst w) (hl : s.size ≤ 140737488351200) (h : Wire.digest 34 [bts s] = D) (h16 : D.length = 16) :
    Calls Tryz.prog 49 #[.string s] w fun e w' => e = .returned (.agg (dgC D)) ∧ Ext w w' := by
  rw [dgC_cells h16]; exact rdigest_is s D w hk hl h
set_option maxHeartbeats 1000000 in
theorem stamp_ok (D : List Int) (w : World) (hk : RKonst w) (hD : Wire.digest 34 [bts abcdef] = D) (h16 : D.length = 16) : Calls Tryz.prog 38 #[] w fun e' w' => e' = .returned (.agg (stmC (theSt D))) ∧ Ext w w' := by
  have HK := Lib.hid hk
  have HD : Hid (Wire.digest 34 [bts ⟨#[97, 98, 99, 100, 101, 102]⟩] = D) := Lib.hid hD
  have H16 := Lib.hid h16
  clear hk hD h16
  go_enter Tryz.func38, Tryz.ntmps38
  go_wp2_with (go_at_call 49; refine (rdigest_d ⟨#[97, 98, 99, 100, 101, 102]⟩ D _ (HK.out.alloc _) (by decide) HD.out H16.out).mono ?_; rintro e w' ⟨rfl, hxl⟩; obtain ⟨xl, rfl⟩ := hxl.asLater; clear hxl)
  have h1 : RowAt (later (w.alloc (.cells (stmC noSt) 28)) xl) w.heap.size (stmC noSt) := RowAt.later (RowAt.new _ _ _) _
  refine post_row stm_ty Tryz.results38 rfl rfl (h1.stored (n := 41) rfl rfl (by omega)) ⟨rfl, (by (repeat (first | with_reducible exact Ext.refl _ | with_reducible exact Ext.refl _ | with_reducible refine Ext.drew ?_ | with_reducible refine Ext.drewN ?_ _ | with_reducible refine Ext.alloc ?_ _ | with_reducible refine Ext.onto ?_ _ | (with_reducible refine Ext.setCells ?_ ?_ _ _; rotate_left; focus (first | omega | (simp; done) | (simp; omega))) | (with_reducible refine Ext.setCell ?_ ?_ _; rotate_left; focus (first | omega | (simp; done) | (simp; omega))))))⟩
end Go.Proofs.YtmjdnkeloolmdaaGreatDoor
