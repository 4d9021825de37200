/- Walks of entries: right, within, all, empty. -/
import Derived.Test.YtmjdnkeloolmdaaGreatDoorProg
import Derived.Test.YtmjdnkeloolmdaaGreatDoorExt
import Derived.WalkKit
import Derived.WalkSpells
import Derived.WalkLawsBesides
import Derived.Deep.QuietTactic
import Derived.BigQuiet
import Derived.Test.YtmjdnkeloolmdaaGreatDoorCz
set_option linter.unusedVariables false
set_option linter.unusedSimpArgs false
namespace Go.Proofs.YtmjdnkeloolmdaaGreatDoor
open Go.RowKit Go.Shelf
open Go.Proofs
open Go.Proofs.Sp (Sp)

theorem spTy : RowTy Tryz.prog 49 2 := ⟨by kernel_rfl, by kernel_rfl⟩
theorem within_any (n lo hi : Int) (w : World) : Calls Tryz.prog 87 #[.int .i64 n, .int .i64 lo, .int .i64 hi] w fun e' w' => e' = .returned (.bool (decide (lo ≤ n) && decide (n ≤ hi))) ∧ w = w' := by
  go_enter Tryz.func87, Tryz.ntmps87
  go_wp2
  all_goals
    go_ret
    refine ⟨ret_bool ?_, rfl⟩
    rw [Bool.eq_iff_iff]
    simp only [Bool.and_eq_true, decide_eq_true_eq, Bool.false_eq_true, false_iff]
    omega
theorem all_any (e : En) (w : World) : Calls Tryz.prog 90 #[.agg (entC e)] w fun e' w' => e' = .returned (.agg #[.int .i64 0, .int .i64 e.st.size]) ∧ Ext w w' := by
  go_enter Tryz.func90, Tryz.ntmps90
  go_wp2
  refine post_row spTy Tryz.results90 rfl rfl (rowOf_some rfl ?_) ⟨rfl, (by (repeat (first | with_reducible exact Ext.refl _ | with_reducible exact Ext.refl _ | with_reducible refine Ext.drew ?_ | with_reducible refine Ext.drewN ?_ _ | with_reducible refine Ext.alloc ?_ _ | with_reducible refine Ext.onto ?_ _ | (with_reducible refine Ext.setCells ?_ ?_ _ _; rotate_left; focus (first | omega | (simp; done) | (simp; omega))) | (with_reducible refine Ext.setCell ?_ ?_ _; rotate_left; focus (first | omega | (simp; done) | (simp; omega))))))⟩
  intro i hi
  have h3 : i = 0 ∨ i = 1 := by omega
  rcases h3 with h3 | h3 <;> subst h3 <;> simp [go_sem]
set_option maxHeartbeats 2000000 in
theorem right_ok (s : St) (w : World) (h1 : s.addr.size ≤ 4096) (h2 : s.var.size ≤ 4096) (h3 : s.tags.size ≤ 4096) (h : rightB s = true) :
    Calls Tryz.prog 59 #[.agg (stmC s)] w fun e' w' => e' = .returned (.bool true) ∧ Ext w w' := by
  simp only [rightB, Bool.and_eq_true, decide_eq_true_eq] at h
  obtain ⟨⟨⟨⟨⟨⟨⟨⟨⟨⟨⟨⟨⟨a1, a2⟩, a3⟩, a4⟩, a5⟩, a6⟩, a7⟩, a8⟩, a9⟩, a10⟩, a11⟩, a12⟩, a13⟩, a14⟩ := h
  go_enter Tryz.func59, Tryz.ntmps59
  go_wp2_with (go_at_call 87; refine (within_any _ _ _ _).mono ?_; rintro e w' ⟨rfl, rfl⟩)
  all_goals
    go_ret
    exact ⟨rfl, (by (repeat (first | with_reducible exact Ext.refl _ | with_reducible exact Ext.refl _ | with_reducible refine Ext.drew ?_ | with_reducible refine Ext.drewN ?_ _ | with_reducible refine Ext.alloc ?_ _ | with_reducible refine Ext.onto ?_ _ | (with_reducible refine Ext.setCells ?_ ?_ _ _; rotate_left; focus (first | omega | (simp; done) | (simp; omega))) | (with_reducible refine Ext.setCell ?_ ?_ _; rotate_left; focus (first | omega | (simp; done) | (simp; omega))))))⟩
def zb (n : Nat) : ByteArray := ⟨(Lib.repeatL [0] n).toArray⟩
theorem repExtra : Builder.Extra Tryz.prog Tryz.repeatS_ren where
  sizeBuilder := by kernel_rfl
  liesBuilder := by kernel_rfl
  t5 := by kernel_rfl
  a5 := fun w => by kernel_rfl
  z5 := fun w => by kernel_rfl
  v5 := fun w => by kernel_rfl
  infoByte := by kernel_rfl
  cellsByte := by kernel_rfl
  sizeByte := by kernel_rfl
  neB5 := by decide
theorem repeat0 (n : Nat) (m : Int) (hm : m = n) (w : World) (hn : n ≤ 140737488355328) : Calls Tryz.prog 88 #[.string ⟨#[0]⟩, .int .i64 m] w fun e w' => e = .returned (.string (zb n)) ∧ Ext w w' := by
  subst hm
  by_cases h0 : n = 0
  · subst h0
    have h := Any.strings_Repeat_zero Tryz.repeatS ⟨#[0]⟩ w
    change Calls Tryz.prog 88 _ _ _ at h
    refine h.mono ?_
    rintro e w' ⟨rfl, rfl⟩
    exact ⟨rfl, Ext.refl _⟩
  · by_cases h1 : n = 1
    · subst h1
      have h := Any.strings_Repeat_one Tryz.repeatS ⟨#[0]⟩ w
      change Calls Tryz.prog 88 _ _ _ at h
      refine h.mono ?_
      rintro e w' ⟨rfl, rfl⟩
      exact ⟨rfl, Ext.refl _⟩
    · have h := Any.strings_Repeat_main Tryz.repeatS repExtra ⟨#[0]⟩ n w (by omega) (by omega) (by show 1 * n ≤ _; omega) (by decide)
      change Calls Tryz.prog 88 _ _ _ at h
      refine h.mono ?_
      rintro e w' ⟨rfl, hb⟩
      exact ⟨rfl, hb⟩
def emptyEn (s : St) (soft : Bool) : En := ⟨s, soft, .slice none 0 0, zb s.size.toNat, decide (s.size = 0)⟩
theorem build_ent (s : St) (soft : Bool) (b : ByteArray) (wh : Bool) (W : World) : (Instr.build 31 #[(0, .agg (stmC s)), (1, .bool soft), (3, .string b), (4, .bool wh)]).run Tryz.prog W = .ok (.agg (entC ⟨s, soft, .slice none 0 0, b, wh⟩)) W := by kernel_rfl
theorem build_ent0 (W : World) : (Instr.build 31 #[]).run Tryz.prog W = .ok (.agg (entC noEn)) W := by kernel_rfl
def entBuild (a b c d : Value) : Sem Next := do pure (.value (← Instr.build 31 #[(0, a), (1, b), (3, c), (4, d)]))
theorem entBuild_x (ρ : Operand → Value) (dst : Option Tmp) (x0 x1 x3 x4 : Operand) (t : TypeId) (pos : String) (after : Array Edge) (guard : Option (Nat × Bool)) : execOp ρ { dst, op := .build 31 #[(0, x0), (1, x1), (3, x3), (4, x4)], type := t, pos, after, guard } = entBuild (ρ x0) (ρ x1) (ρ x3) (ρ x4) := by kernel_rfl
theorem entBuild_run (s : St) (soft : Bool) (b : ByteArray) (wh : Bool) (W : World) : (entBuild (.agg (stmC s)) (.bool soft) (.string b) (.bool wh)).run Tryz.prog W = .ok (.value (.agg (entC ⟨s, soft, .slice none 0 0, b, wh⟩))) W := by kernel_rfl
def entBuild0 : Sem Next := do pure (.value (← Instr.build 31 #[]))
theorem entBuild0_x (ρ : Operand → Value) (dst : Option Tmp) (t : TypeId) (pos : String) (after : Array Edge) (guard : Option (Nat × Bool)) : execOp ρ { dst, op := .build 31 #[], type := t, pos, after, guard } = entBuild0 := by kernel_rfl
theorem entBuild0_run (W : World) : entBuild0.run Tryz.prog W = .ok (.value (.agg (entC noEn))) W := by kernel_rfl
attribute [go_sem ↓] entBuild_x entBuild0_x
attribute [go_sem] entBuild_run entBuild0_run
theorem ent_fits (s : St) (soft : Bool) (A : Option Addr) (n c : Nat) (b : ByteArray) (wh : Bool) : fitsRow 45 (entC ⟨s, soft, .slice A n c, b, wh⟩) = true := by kernel_rfl
theorem ent_fits_of {e : En} {A : Option Addr} {n c : Nat} (h : e.hv = .slice A n c) : fitsRow 45 (entC e) = true := by
  obtain ⟨a, b, v, d, f⟩ := e
  simp only at h
  subst h
  exact ent_fits _ _ _ _ _ _ _
theorem stm_fits (s : St) : fitsRow 41 (stmC s) = true := by kernel_rfl
attribute [go_sem] ent_fits stm_fits
theorem row_stored {w : World} {b : Nat} {cs ds : Array Value} (h : RowAt w b cs) (hn : cs.size = 45) (hd : ds.size = 45) : rowOf (w.setCells b 0 ds.toList) b 0 45 = some ds := h.stored (n := 45) (by rw [hn, hd]) hd.symm (by omega)
set_option maxHeartbeats 1000000 in
theorem empty_any (s : St) (soft : Bool) (w : World) (h0 : 0 ≤ s.size) (h1 : s.size ≤ 65536) : Calls Tryz.prog 60 #[.agg (stmC s), .bool soft] w fun e' w' => e' = .returned (.agg (entC (emptyEn s soft))) ∧ Ext w w' := by
  go_enter Tryz.func60, Tryz.ntmps60
  go_wp2
  refine wp_region_later_tail 9 (by kernel_rfl) (by kernel_rfl) ?_
  simp only [List.take_succ_cons, List.take_zero, List.drop_succ_cons, List.drop_zero]
  repeat (first | go_big_quiet_step ((go_at_call 88; exact quietE (repeat0 s.size.toNat _ (by omega) _ (by omega)))) | quiet_step ((go_at_call 88; exact quietE (repeat0 s.size.toNat _ (by omega) _ (by omega)))))
  refine wpQuiet_nil ?_
  rintro _ ⟨xq, rfl⟩
  go_wp2
  have h1 : RowAt (later ((w.alloc (.cells (stmC s) 28)).alloc (.cells (entC noEn) 31)) xq) (w.heap.size + 1) (entC noEn) := RowAt.later (RowAt.newAt (by simp)) _
  refine post_row ent_ty Tryz.results60 rfl rfl (row_stored h1 (ent_size _) (ent_size _)) ⟨?_, (by (repeat (first | with_reducible exact Ext.refl _ | with_reducible exact Ext.refl _ | with_reducible refine Ext.drew ?_ | with_reducible refine Ext.drewN ?_ _ | with_reducible refine Ext.alloc ?_ _ | with_reducible refine Ext.onto ?_ _ | (with_reducible refine Ext.setCells ?_ ?_ _ _; rotate_left; focus (first | omega | (simp; done) | (simp; omega))) | (with_reducible refine Ext.setCell ?_ ?_ _; rotate_left; focus (first | omega | (simp; done) | (simp; omega))))))⟩
  unfold emptyEn
  congr 4
end Go.Proofs.YtmjdnkeloolmdaaGreatDoor
