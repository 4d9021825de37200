/- Walks of entries: Put. -/
import Derived.Test.YtiacnoejlmaplaaGreatDoorProg
import Derived.Test.YtiacnoejlmaplaaGreatDoorExt
import Derived.WalkKit
import Derived.WalkSpells
import Derived.WalkLawsBesides
import Derived.Deep.QuietTactic
import Derived.BigQuiet
import Derived.Test.YtiacnoejlmaplaaGreatDoorMs
import Derived.Test.YtiacnoejlmaplaaGreatDoorEt
import Derived.Lib.ConvBytes
set_option linter.unusedVariables false
set_option linter.unusedSimpArgs false
namespace Go.Proofs.YtiacnoejlmaplaaGreatDoor
open Go.RowKit Go.Shelf
open Go.Proofs
open Go.Proofs.Sp (Sp)

theorem spTy : RowTy Tryz.prog 49 2 := ⟨by kernel_rfl, by kernel_rfl⟩
theorem within_any (n lo hi : Int) (w : World) : Calls Tryz.prog 51 #[.int .i64 n, .int .i64 lo, .int .i64 hi] w fun e' w' => e' = .returned (.bool (decide (lo ≤ n) && decide (n ≤ hi))) ∧ w = w' := by
  go_enter Tryz.func51, Tryz.ntmps51
  go_wp2
  all_goals
    go_ret
    refine ⟨ret_bool ?_, rfl⟩
    rw [Bool.eq_iff_iff]
    simp only [Bool.and_eq_true, decide_eq_true_eq, Bool.false_eq_true, false_iff]
    omega
theorem all_any (e : En) (w : World) : Calls Tryz.prog 42 #[.agg (entC e)] w fun e' w' => e' = .returned (.agg #[.int .i64 0, .int .i64 e.st.size]) ∧ Ext w w' := by
  go_enter Tryz.func42, Tryz.ntmps42
  go_wp2
  refine post_row spTy Tryz.results42 rfl rfl (rowOf_some rfl ?_) ⟨rfl, (by (repeat (first | with_reducible exact Ext.refl _ | with_reducible exact Ext.refl _ | with_reducible refine Ext.drew ?_ | with_reducible refine Ext.drewN ?_ _ | with_reducible refine Ext.alloc ?_ _ | with_reducible refine Ext.onto ?_ _ | (with_reducible refine Ext.setCells ?_ ?_ _ _; rotate_left; focus (first | omega | (simp; done) | (simp; omega))) | (with_reducible refine Ext.setCell ?_ ?_ _; rotate_left; focus (first | omega | (simp; done) | (simp; omega))))))⟩
  intro i hi
  have h3 : i = 0 ∨ i = 1 := by omega
  rcases h3 with h3 | h3 <;> subst h3 <;> simp [go_sem]
set_option maxHeartbeats 2000000 in
theorem right_ok (s : St) (w : World) (h1 : s.addr.size ≤ 4096) (h2 : s.var.size ≤ 4096) (h3 : s.tags.size ≤ 4096) (h : rightB s = true) :
    Calls Tryz.prog 31 #[.agg (stmC s)] w fun e' w' => e' = .returned (.bool true) ∧ Ext w w' := by
  simp only [rightB, Bool.and_eq_true, decide_eq_true_eq] at h
  obtain ⟨⟨⟨⟨⟨⟨⟨⟨⟨⟨⟨⟨⟨a1, a2⟩, a3⟩, a4⟩, a5⟩, a6⟩, a7⟩, a8⟩, a9⟩, a10⟩, a11⟩, a12⟩, a13⟩, a14⟩ := h
  go_enter Tryz.func31, Tryz.ntmps31
  go_wp2_with (go_at_call 51; refine (within_any _ _ _ _).mono ?_; rintro e w' ⟨rfl, rfl⟩)
  all_goals
    go_ret
    exact ⟨rfl, (by (repeat (first | with_reducible exact Ext.refl _ | with_reducible exact Ext.refl _ | with_reducible refine Ext.drew ?_ | with_reducible refine Ext.drewN ?_ _ | with_reducible refine Ext.alloc ?_ _ | with_reducible refine Ext.onto ?_ _ | (with_reducible refine Ext.setCells ?_ ?_ _ _; rotate_left; focus (first | omega | (simp; done) | (simp; omega))) | (with_reducible refine Ext.setCell ?_ ?_ _; rotate_left; focus (first | omega | (simp; done) | (simp; omega))))))⟩
def zb (n : Nat) : ByteArray := ⟨(Lib.repeatL [0] n).toArray⟩
theorem repExtra : Builder.Extra Tryz.prog Tryz.repeatS_ren where
  sizeBuilder := by kernel_rfl
  liesBuilder := by kernel_rfl
  t5 := by kernel_rfl
  a5 := fun w => by kernel_rfl
  z5 := fun w => by kernel_rfl
  v5 := fun w => by kernel_rfl
  infoByte := by kernel_rfl
  cellsByte := by kernel_rfl
  sizeByte := by kernel_rfl
  neB5 := by decide
theorem repeat0 (n : Nat) (m : Int) (hm : m = n) (w : World) (hn : n ≤ 140737488355328) : Calls Tryz.prog 53 #[.string ⟨#[0]⟩, .int .i64 m] w fun e w' => e = .returned (.string (zb n)) ∧ Ext w w' := by
  subst hm
  by_cases h0 : n = 0
  · subst h0
    have h := Any.strings_Repeat_zero Tryz.repeatS ⟨#[0]⟩ w
    change Calls Tryz.prog 53 _ _ _ at h
    refine h.mono ?_
    rintro e w' ⟨rfl, rfl⟩
    exact ⟨rfl, Ext.refl _⟩
  · by_cases h1 : n = 1
    · subst h1
      have h := Any.strings_Repeat_one Tryz.repeatS ⟨#[0]⟩ w
      change Calls Tryz.prog 53 _ _ _ at h
      refine h.mono ?_
      rintro e w' ⟨rfl, rfl⟩
      exact ⟨rfl, Ext.refl _⟩
    · have h := Any.strings_Repeat_main Tryz.repeatS repExtra ⟨#[0]⟩ n w (by omega) (by omega) (by show 1 * n ≤ _; omega) (by decide)
      change Calls Tryz.prog 53 _ _ _ at h
      refine h.mono ?_
      rintro e w' ⟨rfl, hb⟩
      exact ⟨rfl, hb⟩
def emptyEn (s : St) (soft : Bool) : En := ⟨s, soft, .slice none 0 0, zb s.size.toNat, decide (s.size = 0)⟩
theorem build_ent (s : St) (soft : Bool) (b : ByteArray) (wh : Bool) (W : World) : (Instr.build 31 #[(0, .agg (stmC s)), (1, .bool soft), (3, .string b), (4, .bool wh)]).run Tryz.prog W = .ok (.agg (entC ⟨s, soft, .slice none 0 0, b, wh⟩)) W := by kernel_rfl
theorem build_ent0 (W : World) : (Instr.build 31 #[]).run Tryz.prog W = .ok (.agg (entC noEn)) W := by kernel_rfl
def entBuild (a b c d : Value) : Sem Next := do pure (.value (← Instr.build 31 #[(0, a), (1, b), (3, c), (4, d)]))
theorem entBuild_x (ρ : Operand → Value) (dst : Option Tmp) (x0 x1 x3 x4 : Operand) (t : TypeId) (pos : String) (after : Array Edge) (guard : Option (Nat × Bool)) : execOp ρ { dst, op := .build 31 #[(0, x0), (1, x1), (3, x3), (4, x4)], type := t, pos, after, guard } = entBuild (ρ x0) (ρ x1) (ρ x3) (ρ x4) := by kernel_rfl
theorem entBuild_run (s : St) (soft : Bool) (b : ByteArray) (wh : Bool) (W : World) : (entBuild (.agg (stmC s)) (.bool soft) (.string b) (.bool wh)).run Tryz.prog W = .ok (.value (.agg (entC ⟨s, soft, .slice none 0 0, b, wh⟩))) W := by kernel_rfl
def entBuild0 : Sem Next := do pure (.value (← Instr.build 31 #[]))
theorem entBuild0_x (ρ : Operand → Value) (dst : Option Tmp) (t : TypeId) (pos : String) (after : Array Edge) (guard : Option (Nat × Bool)) : execOp ρ { dst, op := .build 31 #[], type := t, pos, after, guard } = entBuild0 := by kernel_rfl
theorem entBuild0_run (W : World) : entBuild0.run Tryz.prog W = .ok (.value (.agg (entC noEn))) W := by kernel_rfl
attribute [go_sem ↓] entBuild_x entBuild0_x
attribute [go_sem] entBuild_run entBuild0_run
theorem ent_fits (s : St) (soft : Bool) (A : Option Addr) (n c : Nat) (b : ByteArray) (wh : Bool) : fitsRow 45 (entC ⟨s, soft, .slice A n c, b, wh⟩) = true := by kernel_rfl
theorem ent_fits_of {e : En} {A : Option Addr} {n c : Nat} (h : e.hv = .slice A n c) : fitsRow 45 (entC e) = true := by
  obtain ⟨a, b, v, d, f⟩ := e
  simp only at h
  subst h
  exact ent_fits _ _ _ _ _ _ _
theorem stm_fits (s : St) : fitsRow 41 (stmC s) = true := by kernel_rfl
attribute [go_sem] ent_fits stm_fits
theorem row_stored {w : World} {b : Nat} {cs ds : Array Value} (h : RowAt w b cs) (hn : cs.size = 45) (hd : ds.size = 45) : rowOf (w.setCells b 0 ds.toList) b 0 45 = some ds := h.stored (n := 45) (by rw [hn, hd]) hd.symm (by omega)
set_option maxHeartbeats 1000000 in
theorem empty_any (s : St) (soft : Bool) (w : World) (h0 : 0 ≤ s.size) (h1 : s.size ≤ 65536) : Calls Tryz.prog 33 #[.agg (stmC s), .bool soft] w fun e' w' => e' = .returned (.agg (entC (emptyEn s soft))) ∧ Ext w w' := by
  go_enter Tryz.func33, Tryz.ntmps33
  go_wp2
  refine wp_region_later_tail 9 (by kernel_rfl) (by kernel_rfl) ?_
  simp only [List.take_succ_cons, List.take_zero, List.drop_succ_cons, List.drop_zero]
  repeat (first | go_big_quiet_step ((go_at_call 53; exact quietE (repeat0 s.size.toNat _ (by omega) _ (by omega)))) | quiet_step ((go_at_call 53; exact quietE (repeat0 s.size.toNat _ (by omega) _ (by omega)))))
  refine wpQuiet_nil ?_
  rintro _ ⟨xq, rfl⟩
  go_wp2
  have h1 : RowAt (later ((w.alloc (.cells (stmC s) 28)).alloc (.cells (entC noEn) 31)) xq) (w.heap.size + 1) (entC noEn) := RowAt.later (RowAt.newAt (by simp)) _
  refine post_row ent_ty Tryz.results33 rfl rfl (row_stored h1 (ent_size _) (ent_size _)) ⟨?_, (by (repeat (first | with_reducible exact Ext.refl _ | with_reducible exact Ext.refl _ | with_reducible refine Ext.drew ?_ | with_reducible refine Ext.drewN ?_ _ | with_reducible refine Ext.alloc ?_ _ | with_reducible refine Ext.onto ?_ _ | (with_reducible refine Ext.setCells ?_ ?_ _ _; rotate_left; focus (first | omega | (simp; done) | (simp; omega))) | (with_reducible refine Ext.setCell ?_ ?_ _; rotate_left; focus (first | omega | (simp; done) | (simp; omega))))))⟩
  unfold emptyEn
  congr 4
end Go.Proofs.YtiacnoejlmaplaaGreatDoor

namespace Go.Proofs.YtiacnoejlmaplaaGreatDoor
open Go.RowKit Go.Shelf
open Go.Proofs
open Go.Proofs.Sp (Sp)

theorem odigest_is (s : ByteArray) (D : List Int) (w : World) (hk : Konst 0 w) (hl : s.size ≤ 140737488351200) (h : Wire.digest 34 [bts s] = D) :
    Calls Tryz.prog 32 #[.string s] w fun e w' => e = .returned (.agg (cells8 D)) ∧ Ext w w' := by subst h; exact odigest_ok s w hk hl
theorem ent_set42 (e : En) (v : Value) : (entC e).setIfInBounds 42 v = entC { e with hv := v } := by kernel_rfl
theorem ent_set43 (e : En) (v : ByteArray) : (entC e).setIfInBounds 43 (.string v) = entC { e with bytes := v } := by kernel_rfl
theorem ent_set44 (e : En) (v : Bool) : (entC e).setIfInBounds 44 (.bool v) = entC { e with whole := v } := by kernel_rfl
theorem ent_set41 (e : En) (v : Bool) : (entC e).setIfInBounds 41 (.bool v) = entC { e with soft := v } := by kernel_rfl
theorem ent_set21 (e : En) (v : Int) : (entC e).setIfInBounds 21 (.int .i64 v) = entC { e with st := { e.st with lo := v } } := by kernel_rfl

theorem ent_loaded {w : World} {b : Nat} {cs : Array Value} (h : rowOf w b 0 45 = some cs) : (loadVar 31 ⟨b, 0, none⟩).run Tryz.prog w = .ok (.agg cs) w := by rw [ent_lv, h]; rfl
attribute [go_sem] ent_set42 ent_set43 ent_set44 ent_set41 ent_set21

set_option maxRecDepth 100000 in
set_option maxHeartbeats 2000000 in
theorem settle_no (e : En) (Ae : Option Addr) (ne ce : Nat) (A : Option Addr) (c : Nat) (l : List Sp) (Ab : Option Addr) (cb : Nat) (bl : List Int) (w : World) (hv : e.hv = .slice Ae ne ce) (h0 : 0 ≤ e.st.size) (h1 : e.st.size ≤ 65536)
    (hs : Sp.IsSet l) (hb : bd2 l) (hlen : l.length * 32 ≤ 140737488330000) (hr : ReadsSp w w.heap.size A l) (z : A = none → c = 0) (hbl : 0 < bl.length) (hbl2 : bl.length ≤ 65536) (hrb : ReadsB w w.heap.size Ab bl) (hk : Konst 0 w) (hc : coversB l (0, e.st.size) false) :
    Calls Tryz.prog 45 #[.agg (entC e), .slice A l.length c, .slice Ab bl.length cb] w fun e' w' => e' = .returned (.tuple #[.agg (entC { e with hv := .slice A l.length c, bytes := strOfNums bl }), .int .i64 0]) ∧ Ext w w' := by
  have HA := Lib.hid hr
  have HZ := Lib.hid z
  have HS := Lib.hid hs
  have HBd := Lib.hid hb
  have HK := Lib.hid hk
  have HRb := Lib.hid hrb
  have HHv := Lib.hid hv
  have HC := Lib.hid hc
  have hcv1 := conv_bytes (w := ((w.alloc (.cells (entC e) 31)).alloc (.cells (entC noEn) 31)).drew) cb (HRb.out.on ((((Ext.refl w).alloc _).alloc _).drew)) hbl
  have hcv2 := conv_bytes (w := ((w.alloc (.cells (entC { e with hv := .slice A l.length c }) 31)).alloc (.cells (entC noEn) 31)).drew) cb (HRb.out.on ((((Ext.refl w).alloc _).alloc _).drew)) hbl
  clear hr z hs hb hk hrb hv hc
  have hf : fitsRow 45 (entC { e with hv := .slice A l.length c, bytes := strOfNums bl }) = true := ent_fits_of rfl
  have hsb := strOfNums_size bl
  have hsz : (strOfNums bl).size ≤ 65536 := by rw [hsb]; exact hbl2
  clear hsb
  obtain ⟨e2, he2⟩ : ∃ e2 : En, { e with hv := .slice A l.length c, bytes := strOfNums bl } = e2 := ⟨_, rfl⟩
  have hst : e2.st = e.st := by rw [← he2]
  have hso : e2.soft = e.soft := by rw [← he2]
  have hby : e2.bytes = strOfNums bl := by rw [← he2]
  go_enter Tryz.func45, Tryz.ntmps45
  go_wp2
  go_region
  have hxW : Ext w (((w.alloc (.cells (entC e2) 31)).alloc (.cells (entC noEn) 31)).drew) := (((Ext.refl w).alloc _).alloc _).drew
  have hr1 : RowAt (((w.alloc (.cells (entC e2) 31)).alloc (.cells (entC noEn) 31)).drew) w.heap.size (entC e2) := RowAt.drew (RowAt.alloc (RowAt.new _ _ _) _)
  have hr2 : RowAt (((w.alloc (.cells (entC e2) 31)).alloc (.cells (entC noEn) 31)).drew) (w.heap.size + 1) (entC noEn) := RowAt.drew (RowAt.newAt (by simp))
  generalize (((w.alloc (.cells (entC e2) 31)).alloc (.cells (entC noEn) 31)).drew) = W at hxW hr1 hr2 ⊢
  have HXW := Lib.hid hxW
  have HR1 := Lib.hid hr1
  have HR2 := Lib.hid hr2
  have hrow : rowOf W w.heap.size 0 45 = some (entC e2) := hr1.all (ent_size e2).symm (by omega)
  have hroom : roomOf W (w.heap.size + 1) 0 45 = true := by rw [hr2.room]; rfl
  have hl1 := hr1.lt
  have hl2 := hr2.lt
  rw [he2] at hf
  have HE2 := Lib.hid he2
  clear hxW hr1 hr2 hcv1 hcv2 he2
  go_wp2_with (first
    | (go_at_call 42; refine (all_any e2 _).mono ?_; rw [hst]; rintro e w' ⟨rfl, hxl⟩; obtain ⟨xl, rfl⟩ := hxl.asLater; clear hxl)
    | (go_at_call 44; refine (covers_any A c l (0, e.st.size) _ HS.out HBd.out ⟨⟨by show (-4611686018427387904 : Int) ≤ 0; omega, by show (0 : Int) ≤ _; omega⟩, by show _ ≤ e.st.size; omega, by show e.st.size ≤ _; omega⟩ (by omega) (HA.out.on (HXW.out.onto _)) HZ.out).mono ?_; rintro e' w' ⟨b, rfl, HCb, hxl⟩; obtain ⟨xl, rfl⟩ := hxl.asLater; clear hxl; obtain rfl := coversB_uniq HCb.out HC.out))
  refine post_two (v1 := .agg (entC e2)) (v2 := .int .i64 0) Tryz.results45 rfl ⟨_, rfl, ent_loaded (row_stored ((by (repeat (first | with_reducible exact HR2.out | with_reducible refine RowAt.drew ?_ | with_reducible refine RowAt.later ?_ _ | with_reducible exact RowAt.newAt (by first | rfl | omega | (simp [later_size, setCells_size]; done) | (simp [later_size, setCells_size]; omega)) | with_reducible refine RowAt.alloc ?_ _ | with_reducible apply RowAt.store | with_reducible refine RowAt.others ?_ ?_ _ _ | with_reducible refine RowAt.other ?_ ?_ _)); all_goals first | omega | (simp; done) | (simp; omega) | (simp [go_sem]; done))) (ent_size _) (ent_size _))⟩ rfl ⟨by rw [HE2.out], (by (repeat (first | with_reducible exact HXW.out | with_reducible exact Ext.refl _ | with_reducible refine Ext.drew ?_ | with_reducible refine Ext.drewN ?_ _ | with_reducible refine Ext.alloc ?_ _ | with_reducible refine Ext.onto ?_ _ | (with_reducible refine Ext.setCells ?_ ?_ _ _; rotate_left; focus (first | omega | (simp; done) | (simp; omega))) | (with_reducible refine Ext.setCell ?_ ?_ _; rotate_left; focus (first | omega | (simp; done) | (simp; omega))))))⟩
set_option maxRecDepth 100000 in
set_option maxHeartbeats 2000000 in
theorem settle_bad (e : En) (Ae : Option Addr) (ne ce : Nat) (A : Option Addr) (c : Nat) (l : List Sp) (Ab : Option Addr) (cb : Nat) (bl : List Int) (w : World) (hv : e.hv = .slice Ae ne ce) (h0 : 0 ≤ e.st.size) (h1 : e.st.size ≤ 65536)
    (hs : Sp.IsSet l) (hb : bd2 l) (hlen : l.length * 32 ≤ 140737488330000) (hr : ReadsSp w w.heap.size A l) (z : A = none → c = 0) (hbl : 0 < bl.length) (hbl2 : bl.length ≤ 65536) (hrb : ReadsB w w.heap.size Ab bl) (hk : Konst 0 w) (hc : coversB l (0, e.st.size) true)
    (hbo : e.st.body.length = 16) (hbb : Byt e.st.body) (hd : Wire.digest 34 [bts (strOfNums bl)] ≠ e.st.body) :
    Calls Tryz.prog 45 #[.agg (entC e), .slice A l.length c, .slice Ab bl.length cb] w fun e' w' => e' = .returned (.tuple #[.agg (entC (emptyEn e.st e.soft)), .int .i64 8]) ∧ Ext w w' := by
  have HD := Lib.hid hd
  have HBo := Lib.hid hbo
  have HBb := Lib.hid hbb
  clear hd hbo hbb
  have HA := Lib.hid hr
  have HZ := Lib.hid z
  have HS := Lib.hid hs
  have HBd := Lib.hid hb
  have HK := Lib.hid hk
  have HRb := Lib.hid hrb
  have HHv := Lib.hid hv
  have HC := Lib.hid hc
  have hcv1 := conv_bytes (w := ((w.alloc (.cells (entC e) 31)).alloc (.cells (entC noEn) 31)).drew) cb (HRb.out.on ((((Ext.refl w).alloc _).alloc _).drew)) hbl
  have hcv2 := conv_bytes (w := ((w.alloc (.cells (entC { e with hv := .slice A l.length c }) 31)).alloc (.cells (entC noEn) 31)).drew) cb (HRb.out.on ((((Ext.refl w).alloc _).alloc _).drew)) hbl
  clear hr z hs hb hk hrb hv hc
  have hf : fitsRow 45 (entC { e with hv := .slice A l.length c, bytes := strOfNums bl }) = true := ent_fits_of rfl
  have hsb := strOfNums_size bl
  have hsz : (strOfNums bl).size ≤ 65536 := by rw [hsb]; exact hbl2
  clear hsb
  obtain ⟨e2, he2⟩ : ∃ e2 : En, { e with hv := .slice A l.length c, bytes := strOfNums bl } = e2 := ⟨_, rfl⟩
  have hst : e2.st = e.st := by rw [← he2]
  have hso : e2.soft = e.soft := by rw [← he2]
  have hby : e2.bytes = strOfNums bl := by rw [← he2]
  go_enter Tryz.func45, Tryz.ntmps45
  go_wp2
  go_region
  have hxW : Ext w (((w.alloc (.cells (entC e2) 31)).alloc (.cells (entC noEn) 31)).drew) := (((Ext.refl w).alloc _).alloc _).drew
  have hr1 : RowAt (((w.alloc (.cells (entC e2) 31)).alloc (.cells (entC noEn) 31)).drew) w.heap.size (entC e2) := RowAt.drew (RowAt.alloc (RowAt.new _ _ _) _)
  have hr2 : RowAt (((w.alloc (.cells (entC e2) 31)).alloc (.cells (entC noEn) 31)).drew) (w.heap.size + 1) (entC noEn) := RowAt.drew (RowAt.newAt (by simp))
  generalize (((w.alloc (.cells (entC e2) 31)).alloc (.cells (entC noEn) 31)).drew) = W at hxW hr1 hr2 ⊢
  have HXW := Lib.hid hxW
  have HR1 := Lib.hid hr1
  have HR2 := Lib.hid hr2
  have hrow : rowOf W w.heap.size 0 45 = some (entC e2) := hr1.all (ent_size e2).symm (by omega)
  have hroom : roomOf W (w.heap.size + 1) 0 45 = true := by rw [hr2.room]; rfl
  have hl1 := hr1.lt
  have hl2 := hr2.lt
  rw [he2] at hf
  have HE2 := Lib.hid he2
  clear hxW hr1 hr2 hcv1 hcv2 he2
  go_wp2_with (first
    | (go_at_call 42; refine (all_any e2 _).mono ?_; rw [hst]; rintro e w' ⟨rfl, hxl⟩; obtain ⟨xl, rfl⟩ := hxl.asLater; clear hxl)
    | (go_at_call 44; refine (covers_any A c l (0, e.st.size) _ HS.out HBd.out ⟨⟨by show (-4611686018427387904 : Int) ≤ 0; omega, by show (0 : Int) ≤ _; omega⟩, by show _ ≤ e.st.size; omega, by show e.st.size ≤ _; omega⟩ (by omega) (HA.out.on (HXW.out.onto _)) HZ.out).mono ?_; rintro e' w' ⟨b, rfl, HCb, hxl⟩; obtain ⟨xl, rfl⟩ := hxl.asLater; clear hxl; obtain rfl := coversB_uniq HCb.out HC.out))
  have c43 : W.cell? ⟨w.heap.size, 43, none⟩ = some (.string (strOfNums bl)) := (HR1.out.cell 43).trans (by rw [ent_g43, hby])
  have c41 : W.cell? ⟨w.heap.size, 41, none⟩ = some (.bool e.soft) := (HR1.out.cell 41).trans (by rw [ent_g41, hso])
  have r41 : rowOf W w.heap.size 0 41 = some (stmC e.st) := by rw [HR1.out.row, if_neg (by omega), ent_stm, hst]
  have hbd : rowOf W w.heap.size 4 16 = some (dgC e.st.body) := by rw [HR1.out.row, if_neg (by omega), ent_body, hst]
  have hq := neq_dig (digest_length 34 [bts (strOfNums bl)]) HBo.out (digest_byt 34 [bts (strOfNums bl)]) HBb.out
  generalize hDD : Wire.digest 34 [bts (strOfNums bl)] = D at *
  have HDD := Lib.hid hDD
  clear hDD
  have dd : decide (D = e.st.body) = false := by simpa using HD.out
  have hfe : fitsRow 45 (entC (emptyEn e.st e.soft)) = true := ent_fits_of rfl
  simp only [dd, Bool.not_true, Bool.not_false] at hq
  clear dd
  refine wp_region_later (by kernel_rfl) (by kernel_rfl) ?_
  repeat (first | go_big_quiet_step ((go_at_call 32; exact quietE (odigest_is (strOfNums bl) D _ (RowAt.ext HK.out ((HXW.out.onto _).onto _)) (by omega) HDD.out))) | quiet_step ((go_at_call 32; exact quietE (odigest_is (strOfNums bl) D _ (RowAt.ext HK.out ((HXW.out.onto _).onto _)) (by omega) HDD.out))))
  refine wpQuiet_nil ?_
  rintro _ ⟨xq, rfl⟩
  go_wp2_with (go_at_call 33; refine (empty_any e.st e.soft _ h0 h1).mono ?_; rintro e w' ⟨rfl, hxl⟩; obtain ⟨xl, rfl⟩ := hxl.asLater; clear hxl)
  refine post_two (v1 := .agg (entC (emptyEn e.st e.soft))) (v2 := .int .i64 8) Tryz.results45 rfl ⟨_, rfl, ent_loaded (row_stored ((by (repeat (first | with_reducible exact HR2.out | with_reducible refine RowAt.drew ?_ | with_reducible refine RowAt.later ?_ _ | with_reducible exact RowAt.newAt (by first | rfl | omega | (simp [later_size, setCells_size]; done) | (simp [later_size, setCells_size]; omega)) | with_reducible refine RowAt.alloc ?_ _ | with_reducible apply RowAt.store | with_reducible refine RowAt.others ?_ ?_ _ _ | with_reducible refine RowAt.other ?_ ?_ _)); all_goals first | omega | (simp; done) | (simp; omega) | (simp [go_sem]; done))) (ent_size _) (ent_size _))⟩ rfl ⟨rfl, (by (repeat (first | with_reducible exact HXW.out | with_reducible exact Ext.refl _ | with_reducible refine Ext.drew ?_ | with_reducible refine Ext.drewN ?_ _ | with_reducible refine Ext.alloc ?_ _ | with_reducible refine Ext.onto ?_ _ | (with_reducible refine Ext.setCells ?_ ?_ _ _; rotate_left; focus (first | omega | (simp; done) | (simp; omega))) | (with_reducible refine Ext.setCell ?_ ?_ _; rotate_left; focus (first | omega | (simp; done) | (simp; omega))))))⟩
set_option maxRecDepth 100000 in
set_option maxHeartbeats 2000000 in
theorem settle_ok (e : En) (Ae : Option Addr) (ne ce : Nat) (A : Option Addr) (c : Nat) (l : List Sp) (Ab : Option Addr) (cb : Nat) (bl : List Int) (w : World) (hv : e.hv = .slice Ae ne ce) (h0 : 0 ≤ e.st.size) (h1 : e.st.size ≤ 65536)
    (hs : Sp.IsSet l) (hb : bd2 l) (hlen : l.length * 32 ≤ 140737488330000) (hr : ReadsSp w w.heap.size A l) (z : A = none → c = 0) (hbl : 0 < bl.length) (hbl2 : bl.length ≤ 65536) (hrb : ReadsB w w.heap.size Ab bl) (hk : Konst 0 w) (hc : coversB l (0, e.st.size) true)
    (hbo : e.st.body.length = 16) (hbb : Byt e.st.body) (hd : Wire.digest 34 [bts (strOfNums bl)] = e.st.body) :
    Calls Tryz.prog 45 #[.agg (entC e), .slice A l.length c, .slice Ab bl.length cb] w fun e' w' => e' = .returned (.tuple #[.agg (entC { e with hv := .slice A l.length c, bytes := strOfNums bl, whole := true }), .int .i64 0]) ∧ Ext w w' := by
  have HD := Lib.hid hd
  have HBo := Lib.hid hbo
  have HBb := Lib.hid hbb
  clear hd hbo hbb
  have HA := Lib.hid hr
  have HZ := Lib.hid z
  have HS := Lib.hid hs
  have HBd := Lib.hid hb
  have HK := Lib.hid hk
  have HRb := Lib.hid hrb
  have HHv := Lib.hid hv
  have HC := Lib.hid hc
  have hcv1 := conv_bytes (w := ((w.alloc (.cells (entC e) 31)).alloc (.cells (entC noEn) 31)).drew) cb (HRb.out.on ((((Ext.refl w).alloc _).alloc _).drew)) hbl
  have hcv2 := conv_bytes (w := ((w.alloc (.cells (entC { e with hv := .slice A l.length c }) 31)).alloc (.cells (entC noEn) 31)).drew) cb (HRb.out.on ((((Ext.refl w).alloc _).alloc _).drew)) hbl
  clear hr z hs hb hk hrb hv hc
  have hf : fitsRow 45 (entC { e with hv := .slice A l.length c, bytes := strOfNums bl }) = true := ent_fits_of rfl
  have hsb := strOfNums_size bl
  have hsz : (strOfNums bl).size ≤ 65536 := by rw [hsb]; exact hbl2
  clear hsb
  obtain ⟨e2, he2⟩ : ∃ e2 : En, { e with hv := .slice A l.length c, bytes := strOfNums bl } = e2 := ⟨_, rfl⟩
  have hst : e2.st = e.st := by rw [← he2]
  have hso : e2.soft = e.soft := by rw [← he2]
  have hby : e2.bytes = strOfNums bl := by rw [← he2]
  go_enter Tryz.func45, Tryz.ntmps45
  go_wp2
  go_region
  have hxW : Ext w (((w.alloc (.cells (entC e2) 31)).alloc (.cells (entC noEn) 31)).drew) := (((Ext.refl w).alloc _).alloc _).drew
  have hr1 : RowAt (((w.alloc (.cells (entC e2) 31)).alloc (.cells (entC noEn) 31)).drew) w.heap.size (entC e2) := RowAt.drew (RowAt.alloc (RowAt.new _ _ _) _)
  have hr2 : RowAt (((w.alloc (.cells (entC e2) 31)).alloc (.cells (entC noEn) 31)).drew) (w.heap.size + 1) (entC noEn) := RowAt.drew (RowAt.newAt (by simp))
  generalize (((w.alloc (.cells (entC e2) 31)).alloc (.cells (entC noEn) 31)).drew) = W at hxW hr1 hr2 ⊢
  have HXW := Lib.hid hxW
  have HR1 := Lib.hid hr1
  have HR2 := Lib.hid hr2
  have hrow : rowOf W w.heap.size 0 45 = some (entC e2) := hr1.all (ent_size e2).symm (by omega)
  have hroom : roomOf W (w.heap.size + 1) 0 45 = true := by rw [hr2.room]; rfl
  have hl1 := hr1.lt
  have hl2 := hr2.lt
  rw [he2] at hf
  have HE2 := Lib.hid he2
  clear hxW hr1 hr2 hcv1 hcv2 he2
  go_wp2_with (first
    | (go_at_call 42; refine (all_any e2 _).mono ?_; rw [hst]; rintro e w' ⟨rfl, hxl⟩; obtain ⟨xl, rfl⟩ := hxl.asLater; clear hxl)
    | (go_at_call 44; refine (covers_any A c l (0, e.st.size) _ HS.out HBd.out ⟨⟨by show (-4611686018427387904 : Int) ≤ 0; omega, by show (0 : Int) ≤ _; omega⟩, by show _ ≤ e.st.size; omega, by show e.st.size ≤ _; omega⟩ (by omega) (HA.out.on (HXW.out.onto _)) HZ.out).mono ?_; rintro e' w' ⟨b, rfl, HCb, hxl⟩; obtain ⟨xl, rfl⟩ := hxl.asLater; clear hxl; obtain rfl := coversB_uniq HCb.out HC.out))
  have hvv : e2.hv = .slice A l.length c := by rw [← HE2.out]
  have hfz : W.frozen? ⟨w.heap.size, 44, none⟩ = false := HR1.out.free 44
  have hc44 : W.cell? ⟨w.heap.size, 44, none⟩ = some (.bool e2.whole) := (HR1.out.cell 44).trans (ent_g44 e2)
  have c43 : W.cell? ⟨w.heap.size, 43, none⟩ = some (.string (strOfNums bl)) := (HR1.out.cell 43).trans (by rw [ent_g43, hby])
  have c41 : W.cell? ⟨w.heap.size, 41, none⟩ = some (.bool e.soft) := (HR1.out.cell 41).trans (by rw [ent_g41, hso])
  have r41 : rowOf W w.heap.size 0 41 = some (stmC e.st) := by rw [HR1.out.row, if_neg (by omega), ent_stm, hst]
  have hbd : rowOf W w.heap.size 4 16 = some (dgC e.st.body) := by rw [HR1.out.row, if_neg (by omega), ent_body, hst]
  have hq := neq_dig (digest_length 34 [bts (strOfNums bl)]) HBo.out (digest_byt 34 [bts (strOfNums bl)]) HBb.out
  generalize hDD : Wire.digest 34 [bts (strOfNums bl)] = D at *
  have HDD := Lib.hid hDD
  clear hDD
  have dd : decide (D = e.st.body) = true := by simpa using HD.out
  simp only [dd, Bool.not_true, Bool.not_false] at hq
  clear dd
  refine wp_region_later (by kernel_rfl) (by kernel_rfl) ?_
  repeat (first | go_big_quiet_step ((go_at_call 32; exact quietE (odigest_is (strOfNums bl) D _ (RowAt.ext HK.out ((HXW.out.onto _).onto _)) (by omega) HDD.out))) | quiet_step ((go_at_call 32; exact quietE (odigest_is (strOfNums bl) D _ (RowAt.ext HK.out ((HXW.out.onto _).onto _)) (by omega) HDD.out))))
  refine wpQuiet_nil ?_
  rintro _ ⟨xq, rfl⟩
  go_wp2
  refine post_two (v1 := .agg (entC { e with hv := .slice A l.length c, bytes := strOfNums bl, whole := true })) (v2 := .int .i64 0) Tryz.results45 rfl ⟨_, rfl, ent_loaded (row_stored ((by (repeat (first | with_reducible exact HR2.out | with_reducible refine RowAt.drew ?_ | with_reducible refine RowAt.later ?_ _ | with_reducible exact RowAt.newAt (by first | rfl | omega | (simp [later_size, setCells_size]; done) | (simp [later_size, setCells_size]; omega)) | with_reducible refine RowAt.alloc ?_ _ | with_reducible apply RowAt.store | with_reducible refine RowAt.others ?_ ?_ _ _ | with_reducible refine RowAt.other ?_ ?_ _)); all_goals first | omega | (simp; done) | (simp; omega) | (simp [go_sem]; done))) (ent_size _) (ent_size _))⟩ rfl ⟨rfl, (by (repeat (first | with_reducible exact HXW.out | with_reducible exact Ext.refl _ | with_reducible refine Ext.drew ?_ | with_reducible refine Ext.drewN ?_ _ | with_reducible refine Ext.alloc ?_ _ | with_reducible refine Ext.onto ?_ _ | (with_reducible refine Ext.setCells ?_ ?_ _ _; rotate_left; focus (first | omega | (simp; done) | (simp; omega))) | (with_reducible refine Ext.setCell ?_ ?_ _; rotate_left; focus (first | omega | (simp; done) | (simp; omega))))))⟩
end Go.Proofs.YtiacnoejlmaplaaGreatDoor

namespace Go.Proofs.YtiacnoejlmaplaaGreatDoor
open Go.RowKit Go.Shelf
open Go.Proofs
open Go.Proofs.Sp (Sp)

/-- The bytes of a block. -/
def ByteAt (w : World) (b : Nat) (l : List Int) : Prop := b < w.heap.size ∧ ∀ j, j < l.length → w.cell? ⟨b, j, none⟩ = some (.int .u8 (l.getD j 0)) ∧ w.frozen? ⟨b, j, none⟩ = false
theorem ByteAt.ext {w w' : World} {b : Nat} {l : List Int} (h : ByteAt w b l) (hx : Ext w w') : ByteAt w' b l :=
  ⟨Nat.lt_of_lt_of_le h.1 hx.size, fun j hj => ⟨(hx.cell (p := ⟨b, j, none⟩) h.1).trans (h.2 j hj).1, (hx.frozen (p := ⟨b, j, none⟩) h.1).trans (h.2 j hj).2⟩⟩
theorem ByteAt.room {w : World} {b : Nat} {l : List Int} (h : ByteAt w b l) (o n : Nat) (hn : o + n ≤ l.length) : roomOf w b o n = true := by
  unfold roomOf
  rw [decide_eq_true_iff]
  intro i hi
  have := h.2 (o + i) (by omega)
  rw [this.1, this.2]
  exact ⟨rfl, rfl⟩
theorem ByteAt.reads {w : World} {b : Nat} {l : List Int} (h : ByteAt w b l) : ReadsB w w.heap.size (some ⟨b, 0, none⟩) l := by
  intro h0
  refine ⟨b, 0, rfl, h.1, fun i hi j v hv => ?_⟩
  have hj : j = 0 := by
    have := (List.getElem?_eq_some_iff.1 hv).1
    simp [encB] at this; omega
  subst hj
  simp only [encB, List.getElem?_cons_zero, Option.some.injEq] at hv
  subst hv
  have := (h.2 i hi).1
  rw [Nat.mul_one, Nat.zero_add, Nat.add_zero, this]
  simp [hi]
theorem over_len {blk x : List Int} {p : Nat} (h : p + x.length ≤ blk.length) : (Sha.over blk p x).length = blk.length := by
  simp [Sha.over]; omega
theorem over_getD {blk x : List Int} {p j : Nat} (h : p + x.length ≤ blk.length) (hj : j < blk.length) : (Sha.over blk p x).getD j 0 = if p ≤ j ∧ j < p + x.length then x.getD (j - p) 0 else blk.getD j 0 := by
  unfold Sha.over
  simp only [List.getD_eq_getElem?_getD]
  by_cases h1 : j < p
  · rw [List.append_assoc, List.getElem?_append_left (by rw [List.length_take]; omega), List.getElem?_take, if_pos h1, if_neg (by omega)]
  · rw [List.append_assoc, List.getElem?_append_right (by rw [List.length_take]; omega), List.length_take, Nat.min_eq_left (by omega)]
    by_cases h2 : j < p + x.length
    · rw [List.getElem?_append_left (by omega), if_pos (by omega)]
    · rw [List.getElem?_append_right (by omega), if_neg (by omega), List.getElem?_drop, show p + x.length + (j - p - x.length) = j by omega]
theorem ByteAt.copied {w : World} {b : Nat} {l x : List Int} {p : Nat} (h : ByteAt w b l) (hp : p + x.length ≤ l.length) : ByteAt (w.setCells b p (cells8 x).toList) b (Sha.over l p x) := by
  have hx : (cells8 x).toList.length = x.length := by simp [cells8]
  refine ⟨by rw [setCells_size]; exact h.1, fun j hj => ?_⟩
  rw [over_len hp] at hj
  obtain ⟨k1, k2⟩ := h.2 j hj
  refine ⟨?_, by rw [setCells_frozen]; exact k2⟩
  rw [setCells_cell_if, over_getD hp hj, hx, k1]
  by_cases hc : p ≤ j ∧ j < p + x.length
  · rw [if_pos ⟨rfl, hc⟩, if_pos hc]
    have : j - p < x.length := by omega
    simp [cells8, this]
  · rw [if_neg (by intro hh; exact hc hh.2), if_neg hc]
theorem ext_bytes (w : World) (e : TypeId) (s : ByteArray) : Ext w (Lib.bytesWorld w e s) := ⟨rfl, rfl, rfl, by rw [Lib.bytesWorld_size]; omega, fun k hk => Lib.bytesWorld_at_old w e s k hk⟩
theorem bytes_at (w : World) (e : TypeId) (s : ByteArray) : ByteAt (Lib.bytesWorld w e s) w.heap.size (bts s) := by
  refine ⟨by rw [Lib.bytesWorld_size]; omega, fun j hj => ?_⟩
  rw [bts_length] at hj
  refine ⟨?_, ?_⟩
  · rw [Lib.bytesWorld_cell w e s j hj, bts_get s j hj]
    simp [hj]
    rfl
  · simp only [World.frozen?, Lib.bytesWorld_at_new]
    have hc : s.size ≤ (Lib.bytesCells w e s).size := by simp [Lib.bytesCells]
    simp
    omega
theorem strConv (w : World) (s : ByteArray) : (convert 9 80 (.string s)).run Tryz.prog w = .ok (.slice (some ⟨w.heap.size, 0, none⟩) s.size (grownCap w s.size 0 5)) (Lib.bytesWorld w 5 s) := Lib.run_convert_string_bytes w _ _ _ s (u := .string) (by kernel_rfl) (by kernel_rfl) (by kernel_rfl)

def putSoft (e : En) (A : Option Addr) (c : Nat) (l : List Sp) (f : Int) (more : ByteArray) (t : Int) (base : Nat) (bb : Value) (P : List Sp → Prop) (RS : Soft) (N : Int) : Nat → Soft
  | 0 => .eq (.agg (entC e))
  | 1 => .eq (.pointer (some ⟨base, 42, none⟩))
  | 5 => .eq (.string more)
  | 2 => .eq (.slice A l.length c)
  | 3 => .eq (.int .i64 f)
  | 4 => .eq (.int .i64 f)
  | 6 => .eq (.int .i64 more.size)
  | 7 => .eq (.int .i64 t)
  | 8 => .eq (.agg #[.int .i64 f, .int .i64 t])
  | 9 => ⟨fun v w => ∃ (A' : Option Addr) (c' : Nat) (out : List Sp), v = .slice A' out.length c' ∧ P out ∧ OwnsSp (base + 2) w A' c' out, fun v w w' ⟨A', c', out, h1, h2, h3⟩ hx => ⟨A', c', out, h1, h2, h3.ext hx⟩⟩
  | 10 => .eq bb
  | 11 => ⟨fun v w => ∃ u, v = .tuple #[u, .int .i64 N] ∧ RS.S u w, fun v w w' ⟨u, h1, h2⟩ hx => ⟨u, h1, RS.on _ _ _ h2 hx⟩⟩
  | 12 => RS
  | 13 => .eq (.int .i64 N)
  | _ => .any

set_option maxRecDepth 100000 in
set_option maxHeartbeats 2000000 in
theorem put_any (e : En) (A : Option Addr) (c : Nat) (l : List Sp) (f : Nat) (more : ByteArray) (w : World) (RS : Soft) (N : Int) (hv : e.hv = .slice A l.length c) (hw : e.whole = false) (hm0 : 0 < more.size) (h2 : (f : Int) + more.size ≤ e.st.size) (h3 : e.st.size ≤ 65536) (hb : (e.bytes.size : Int) = e.st.size)
    (hA : plainA A) (hbd : bdSp l) (hlen : l.length * 16 ≤ 140737488350000) (hr : ReadsSp w w.heap.size A l) (hRS2 : ∀ v W m vs, m < w.heap.size + 2 → RS.S v W → RS.S v (W.setCells m 0 vs)) (hRS : ∀ v W, RS.S v W → ∃ x, v = .agg (entC x) ∧ fitsRow 45 (entC x) = true)
    (HSet : ∀ (A' : Option Addr) (c' : Nat) (out : List Sp) (Ab : Option Addr) (cb : Nat) (W : World), Ext w W → (∃ srt, SortedOf (l ++ [((f : Int), (f : Int) + more.size)]) srt ∧ out = Sp.joined srt) → out.length ≤ l.length + 1 → OwnsSp (w.heap.size + 2) W A' c' out → ReadsB W W.heap.size Ab (Sha.over (bts e.bytes) f (bts more)) →
      Calls Tryz.prog 45 #[.agg (entC e), .slice A' out.length c', .slice Ab (Sha.over (bts e.bytes) f (bts more)).length cb] W fun e' w' => ∃ v, e' = .returned (.tuple #[v, .int .i64 N]) ∧ RS.S v w' ∧ Ext W w') :
    Calls Tryz.prog 23 #[.agg (entC e), .int .i64 f, .string more] w fun e' w' => ∃ v, e' = .returned (.tuple #[v, .int .i64 N]) ∧ RS.S v w' ∧ Ext w w' := by
  have hc44 : (entC e)[44]? = some (.bool false) := by rw [ent_g44, hw]
  have hc42 : (entC e)[42]? = some (.slice A l.length c) := by rw [ent_g42, hv]
  have HA := Lib.hid hA
  have HBd := Lib.hid hbd
  have HR := Lib.hid hr
  have HRS := Lib.hid hRS
  have HRS2 := Lib.hid hRS2
  have HS := Lib.hid HSet
  have HV := Lib.hid hv
  have d1 : decide ((f : Int) < 0) = false := by simp <;> omega
  have d2 : decide (e.st.size < (f : Int)) = false := by simp <;> omega
  have d3 : decide (e.st.size - (f : Int) < (more.size : Int)) = false := by simp <;> omega
  clear hA hbd hr hRS hRS2 HSet hv hw
  go_enter Tryz.func23, Tryz.ntmps23
  go_wp2
  rw [strConv]
  have hx0 : Ext w (Lib.bytesWorld ((w.alloc (.cells (entC e) 31)).alloc (.cells (entC noEn) 31)) 5 e.bytes) := (((Ext.refl w).alloc _).alloc _).trans (ext_bytes _ _ _)
  have hba : ByteAt (Lib.bytesWorld ((w.alloc (.cells (entC e) 31)).alloc (.cells (entC noEn) 31)) 5 e.bytes) (w.heap.size + 2) (bts e.bytes) := by
    have := bytes_at ((w.alloc (.cells (entC e) 31)).alloc (.cells (entC noEn) 31)) 5 e.bytes
    rw [World.size_alloc, World.size_alloc] at this
    exact this
  have hr1 : RowAt (Lib.bytesWorld ((w.alloc (.cells (entC e) 31)).alloc (.cells (entC noEn) 31)) 5 e.bytes) w.heap.size (entC e) := ((RowAt.new w (entC e) 31).alloc _).ext (ext_bytes _ _ _)
  have hr2 : RowAt (Lib.bytesWorld ((w.alloc (.cells (entC e) 31)).alloc (.cells (entC noEn) 31)) 5 e.bytes) (w.heap.size + 1) (entC noEn) := (RowAt.newAt (w := w.alloc (.cells (entC e) 31)) (by simp)).ext (ext_bytes _ _ _)
  have hge := grownCap_ge ((w.alloc (.cells (entC e) 31)).alloc (.cells (entC noEn) 31)) e.bytes.size 0 5
  generalize grownCap ((w.alloc (.cells (entC e) 31)).alloc (.cells (entC noEn) 31)) e.bytes.size 0 5 = cap at *
  generalize Lib.bytesWorld ((w.alloc (.cells (entC e) 31)).alloc (.cells (entC noEn) 31)) 5 e.bytes = W at *
  have hbl : (bts e.bytes).length = e.bytes.size := bts_length _
  have hml : (bts more).length = more.size := bts_length _
  have hroom : roomOf W (w.heap.size + 2) f more.size = true := hba.room f more.size (by omega)
  have HX0 := Lib.hid hx0
  have HBA := Lib.hid hba
  have HR1 := Lib.hid hr1
  have HR2 := Lib.hid hr2
  have hq1 : f + more.size ≤ cap := by omega
  have hq2 : f < cap := by omega
  have hq3 : more.size ≠ 0 := by omega
  have hq4 : more.toList.isEmpty = false := str_some more hm0
  clear hx0 hba hr1 hr2 d1 d2 d3
  go_wp2
  rw [run_copy_str (P := Tryz.prog) W 80 9 3 5 (w.heap.size + 1 + 1) f more.size more.size more (by kernel_rfl) u8_size (by rw [Nat.min_self]; exact hroom), Nat.min_self, List.take_of_length_le (by simp [cells8, bts_length])]
  have hxa : Ext w (W.setCells (w.heap.size + 1 + 1) f (cells8 (bts more)).toList) := HX0.out.setCells (by omega) _ _
  have hbb : ByteAt (W.setCells (w.heap.size + 1 + 1) f (cells8 (bts more)).toList) (w.heap.size + 2) (Sha.over (bts e.bytes) f (bts more)) := HBA.out.copied (by omega)
  have hra : RowAt (W.setCells (w.heap.size + 1 + 1) f (cells8 (bts more)).toList) w.heap.size (entC e) := HR1.out.others (by omega) _ _
  have hrb : RowAt (W.setCells (w.heap.size + 1 + 1) f (cells8 (bts more)).toList) (w.heap.size + 1) (entC noEn) := HR2.out.others (by omega) _ _
  generalize W.setCells (w.heap.size + 1 + 1) f (cells8 (bts more)).toList = W2 at *
  have hol : (Sha.over (bts e.bytes) f (bts more)).length = e.bytes.size := by rw [over_len (by omega), bts_length]
  have HOl := Lib.hid hol
  have hrow : rowOf W2 w.heap.size 0 45 = some (entC e) := hra.all (ent_size e).symm (by omega)
  have hroom2 : roomOf W2 (w.heap.size + 1) 0 45 = true := by rw [hrb.room]; rfl
  have hca : W2.cell? ⟨w.heap.size, 42, none⟩ = some (.slice A l.length c) := (hra.cell 42).trans hc42
  have hl1 := hra.lt
  have hl2 := hrb.lt
  have HX := Lib.hid hxa
  have HBB := Lib.hid hbb
  have HRb := Lib.hid hrb
  clear hxa hbb hra hrb HX0 HBA HR1 HR2 hroom hol hc42 hc44
  go_wp2
  refine wp_region_soft 14 (putSoft e A c l f more (f + more.size) w.heap.size (.slice (some ⟨w.heap.size + 1 + 1, 0, none⟩) e.bytes.size cap) (fun out => (∃ srt, SortedOf (l ++ [((f : Int), (f : Int) + more.size)]) srt ∧ out = Sp.joined srt) ∧ out.length ≤ l.length + 1) RS N) (by kernel_rfl) (by kernel_rfl) (lt_cons ?_ (lt_cons ?_ (lt_cons ?_ (lt_cons ?_ (lt_cons ?_ (lt_cons ?_ (lt_cons ?_ (lt_cons ?_ (lt_cons ?_ (lt_cons ?_ (lt_cons ?_ (lt_cons ?_ (lt_cons ?_ (lt_cons ?_ lt_none)))))))))))))) ?_
  · intro o ho xs W hW hd Q' hQ; obtain rfl := Option.some.inj ho; clear ho; simp only [fillAt, dstOf, List.getElem?_cons_zero, List.getElem?_cons_succ, Option.bind_some, Act.put, List.setIfInBounds_toArray, List.set_cons_zero, List.set_cons_succ, Nat.zero_add, Nat.reduceAdd] at hQ ⊢; have HQ := Lib.hid hQ; have HD := Lib.hid hd; have HW := Lib.hid hW; have hsW := hW.size; clear hQ hd hW
    have hrow0 : rowOf W w.heap.size 0 45 = some (entC e) := by rw [rowOf_congr (w := W2) (fun i _ => HW.out.cell (p := ⟨w.heap.size, 0 + i, none⟩) hl1)]; exact hrow
    go_wp2
    exact HQ.out _ _ (Ext.refl _) rfl
  · intro o ho xs W hW hd Q' hQ; obtain rfl := Option.some.inj ho; clear ho; simp only [fillAt, dstOf, List.getElem?_cons_zero, List.getElem?_cons_succ, Option.bind_some, Act.put, List.setIfInBounds_toArray, List.set_cons_zero, List.set_cons_succ, Nat.zero_add, Nat.reduceAdd] at hQ ⊢; have HQ := Lib.hid hQ; have HD := Lib.hid hd; have HW := Lib.hid hW; have hsW := hW.size; clear hQ hd hW
    go_wp2
    exact HQ.out _ _ (Ext.refl _) rfl
  · intro o ho xs W hW hd Q' hQ; obtain rfl := Option.some.inj ho; clear ho; simp only [fillAt, dstOf, List.getElem?_cons_zero, List.getElem?_cons_succ, Option.bind_some, Act.put, List.setIfInBounds_toArray, List.set_cons_zero, List.set_cons_succ, Nat.zero_add, Nat.reduceAdd] at hQ ⊢; have HQ := Lib.hid hQ; have HD := Lib.hid hd; have HW := Lib.hid hW; have hsW := hW.size; clear hQ hd hW
    have h1 : xs 1 = .pointer (some ⟨w.heap.size, 42, none⟩) := (HD.out 1 (of_decide_eq_true (by kernel_rfl)))
    generalize xs 1 = x1 at h1 HQ ⊢; subst h1
    have hca0 : W.cell? ⟨w.heap.size, 42, none⟩ = some (.slice A l.length c) := (HW.out.cell (p := ⟨w.heap.size, 42, none⟩) hl1).trans hca
    go_wp2
    exact HQ.out _ _ (Ext.refl _) rfl
  · intro o ho xs W hW hd Q' hQ; obtain rfl := Option.some.inj ho; clear ho; simp only [fillAt, dstOf, List.getElem?_cons_zero, List.getElem?_cons_succ, Option.bind_some, Act.put, List.setIfInBounds_toArray, List.set_cons_zero, List.set_cons_succ, Nat.zero_add, Nat.reduceAdd] at hQ ⊢; have HQ := Lib.hid hQ; have HD := Lib.hid hd; have HW := Lib.hid hW; have hsW := hW.size; clear hQ hd hW
    go_wp2
    exact HQ.out _ _ (Ext.refl _) rfl
  · intro o ho xs W hW hd Q' hQ; obtain rfl := Option.some.inj ho; clear ho; simp only [fillAt, dstOf, List.getElem?_cons_zero, List.getElem?_cons_succ, Option.bind_some, Act.put, List.setIfInBounds_toArray, List.set_cons_zero, List.set_cons_succ, Nat.zero_add, Nat.reduceAdd] at hQ ⊢; have HQ := Lib.hid hQ; have HD := Lib.hid hd; have HW := Lib.hid hW; have hsW := hW.size; clear hQ hd hW
    go_wp2
    exact HQ.out _ _ (Ext.refl _) rfl
  · intro o ho xs W hW hd Q' hQ; obtain rfl := Option.some.inj ho; clear ho; simp only [fillAt, dstOf, List.getElem?_cons_zero, List.getElem?_cons_succ, Option.bind_some, Act.put, List.setIfInBounds_toArray, List.set_cons_zero, List.set_cons_succ, Nat.zero_add, Nat.reduceAdd] at hQ ⊢; have HQ := Lib.hid hQ; have HD := Lib.hid hd; have HW := Lib.hid hW; have hsW := hW.size; clear hQ hd hW
    go_wp2
    exact HQ.out _ _ (Ext.refl _) rfl
  · intro o ho xs W hW hd Q' hQ; obtain rfl := Option.some.inj ho; clear ho; simp only [fillAt, dstOf, List.getElem?_cons_zero, List.getElem?_cons_succ, Option.bind_some, Act.put, List.setIfInBounds_toArray, List.set_cons_zero, List.set_cons_succ, Nat.zero_add, Nat.reduceAdd] at hQ ⊢; have HQ := Lib.hid hQ; have HD := Lib.hid hd; have HW := Lib.hid hW; have hsW := hW.size; clear hQ hd hW
    have h5 : xs 5 = .string more := (HD.out 5 (of_decide_eq_true (by kernel_rfl)))
    generalize xs 5 = x5 at h5 HQ ⊢; subst h5
    go_wp2
    exact HQ.out _ _ (Ext.refl _) rfl
  · intro o ho xs W hW hd Q' hQ; obtain rfl := Option.some.inj ho; clear ho; simp only [fillAt, dstOf, List.getElem?_cons_zero, List.getElem?_cons_succ, Option.bind_some, Act.put, List.setIfInBounds_toArray, List.set_cons_zero, List.set_cons_succ, Nat.zero_add, Nat.reduceAdd] at hQ ⊢; have HQ := Lib.hid hQ; have HD := Lib.hid hd; have HW := Lib.hid hW; have hsW := hW.size; clear hQ hd hW
    have h4 : xs 4 = .int .i64 (f : Int) := (HD.out 4 (of_decide_eq_true (by kernel_rfl)))
    generalize xs 4 = x4 at h4 HQ ⊢; subst h4
    have h6 : xs 6 = .int .i64 (more.size : Int) := (HD.out 6 (of_decide_eq_true (by kernel_rfl)))
    generalize xs 6 = x6 at h6 HQ ⊢; subst h6
    go_wp2
    exact HQ.out _ _ (Ext.refl _) rfl
  · intro o ho xs W hW hd Q' hQ; obtain rfl := Option.some.inj ho; clear ho; simp only [fillAt, dstOf, List.getElem?_cons_zero, List.getElem?_cons_succ, Option.bind_some, Act.put, List.setIfInBounds_toArray, List.set_cons_zero, List.set_cons_succ, Nat.zero_add, Nat.reduceAdd] at hQ ⊢; have HQ := Lib.hid hQ; have HD := Lib.hid hd; have HW := Lib.hid hW; have hsW := hW.size; clear hQ hd hW
    have h3 : xs 3 = .int .i64 (f : Int) := (HD.out 3 (of_decide_eq_true (by kernel_rfl)))
    generalize xs 3 = x3 at h3 HQ ⊢; subst h3
    have h7 : xs 7 = .int .i64 ((f : Int) + more.size) := (HD.out 7 (of_decide_eq_true (by kernel_rfl)))
    generalize xs 7 = x7 at h7 HQ ⊢; subst h7
    go_wp2
    exact HQ.out _ _ (Ext.refl _) rfl
  · intro o ho xs W hW hd Q' hQ; obtain rfl := Option.some.inj ho; clear ho; simp only [fillAt, dstOf, List.getElem?_cons_zero, List.getElem?_cons_succ, Option.bind_some, Act.put, List.setIfInBounds_toArray, List.set_cons_zero, List.set_cons_succ, Nat.zero_add, Nat.reduceAdd] at hQ ⊢; have HQ := Lib.hid hQ; have HD := Lib.hid hd; have HW := Lib.hid hW; have hsW := hW.size; clear hQ hd hW
    have h2 : xs 2 = .slice A l.length c := (HD.out 2 (of_decide_eq_true (by kernel_rfl)))
    generalize xs 2 = x2 at h2 HQ ⊢; subst h2
    have h8 : xs 8 = .agg #[.int .i64 (f : Int), .int .i64 ((f : Int) + more.size)] := (HD.out 8 (of_decide_eq_true (by kernel_rfl)))
    generalize xs 8 = x8 at h8 HQ ⊢; subst h8
    go_wp2_with (go_at_call 46; refine (add_any A c l ((f : Int), (f : Int) + more.size) _ HA.out (fun s hs => by
        rcases List.mem_append.1 hs with hs | hs
        · exact HBd.out s hs
        · simp at hs; subst hs; exact ⟨by show (-4611686018427387904 : Int) ≤ f; omega, by show (f : Int) ≤ _; omega⟩) (by omega) (HR.out.on (HX.out.trans HW.out))).mono ?_; rintro e' w1 ⟨A', c', out, rfl, HSo, hol', ho, hx⟩)
    exact HQ.out _ _ hx ⟨A', c', out, rfl, ⟨HSo.out, hol'⟩, ho.lower (by have := HBB.out.1; have := HW.out.size; omega)⟩
  · intro o ho xs W hW hd Q' hQ; obtain rfl := Option.some.inj ho; clear ho; simp only [fillAt, dstOf, List.getElem?_cons_zero, List.getElem?_cons_succ, Option.bind_some, Act.put, List.setIfInBounds_toArray, List.set_cons_zero, List.set_cons_succ, Nat.zero_add, Nat.reduceAdd] at hQ ⊢; have HQ := Lib.hid hQ; have HD := Lib.hid hd; have HW := Lib.hid hW; have hsW := hW.size; clear hQ hd hW
    go_wp2
    exact HQ.out _ _ (Ext.refl _) rfl
  · intro o ho xs W hW hd Q' hQ; obtain rfl := Option.some.inj ho; clear ho; simp only [fillAt, dstOf, List.getElem?_cons_zero, List.getElem?_cons_succ, Option.bind_some, Act.put, List.setIfInBounds_toArray, List.set_cons_zero, List.set_cons_succ, Nat.zero_add, Nat.reduceAdd] at hQ ⊢; have HQ := Lib.hid hQ; have HD := Lib.hid hd; have HW := Lib.hid hW; have hsW := hW.size; clear hQ hd hW
    have h0 : xs 0 = .agg (entC e) := (HD.out 0 (of_decide_eq_true (by kernel_rfl)))
    obtain ⟨A', c', out, h9, ⟨hp1, hp2⟩, ho⟩ : ∃ (A' : Option Addr) (c' : Nat) (out : List Sp), xs 9 = .slice A' out.length c' ∧ ((∃ srt, SortedOf (l ++ [((f : Int), (f : Int) + more.size)]) srt ∧ out = Sp.joined srt) ∧ out.length ≤ l.length + 1) ∧ OwnsSp (w.heap.size + 2) W A' c' out := (HD.out 9 (of_decide_eq_true (by kernel_rfl)))
    have h10 : xs 10 = .slice (some ⟨w.heap.size + 1 + 1, 0, none⟩) e.bytes.size cap := (HD.out 10 (of_decide_eq_true (by kernel_rfl)))
    generalize xs 0 = x0 at h0 HQ ⊢; subst h0
    generalize xs 9 = x9 at h9 HQ ⊢; subst h9
    generalize xs 10 = x10 at h10 HQ ⊢; subst h10
    have HP1 := Lib.hid hp1
    have HO := Lib.hid ho
    clear hp1 ho
    go_wp2_with (go_at_call 45; rw [← HOl.out]; refine (HS.out A' c' out (some ⟨w.heap.size + 1 + 1, 0, none⟩) cap _ (HX.out.trans HW.out) HP1.out hp2 HO.out ((HBB.out.ext HW.out).reads)).mono ?_; rintro e' w1 ⟨v, rfl, hrs, hx⟩)
    rw [HOl.out]
    exact HQ.out _ _ hx ⟨v, rfl, hrs⟩
  · intro o ho xs W hW hd Q' hQ; obtain rfl := Option.some.inj ho; clear ho; simp only [fillAt, dstOf, List.getElem?_cons_zero, List.getElem?_cons_succ, Option.bind_some, Act.put, List.setIfInBounds_toArray, List.set_cons_zero, List.set_cons_succ, Nat.zero_add, Nat.reduceAdd] at hQ ⊢; have HQ := Lib.hid hQ; have HD := Lib.hid hd; have HW := Lib.hid hW; have hsW := hW.size; clear hQ hd hW
    obtain ⟨u, h11, hu⟩ : ∃ u, xs 11 = .tuple #[u, .int .i64 N] ∧ RS.S u W := (HD.out 11 (of_decide_eq_true (by kernel_rfl)))
    generalize xs 11 = x11 at h11 HQ ⊢; subst h11
    go_wp2
    exact HQ.out _ _ (Ext.refl _) hu
  · intro o ho xs W hW hd Q' hQ; obtain rfl := Option.some.inj ho; clear ho; simp only [fillAt, dstOf, List.getElem?_cons_zero, List.getElem?_cons_succ, Option.bind_some, Act.put, List.setIfInBounds_toArray, List.set_cons_zero, List.set_cons_succ, Nat.zero_add, Nat.reduceAdd] at hQ ⊢; have HQ := Lib.hid hQ; have HD := Lib.hid hd; have HW := Lib.hid hW; have hsW := hW.size; clear hQ hd hW
    obtain ⟨u, h11, hu⟩ : ∃ u, xs 11 = .tuple #[u, .int .i64 N] ∧ RS.S u W := (HD.out 11 (of_decide_eq_true (by kernel_rfl)))
    generalize xs 11 = x11 at h11 HQ ⊢; subst h11
    go_wp2
    exact HQ.out _ _ (Ext.refl _) rfl
  · intro xs W hW hS
    have h12 : RS.S (xs 12) W := hS 12 (by omega)
    have h13 : xs 13 = .int .i64 N := hS 13 (by omega)
    obtain ⟨x, hx, hf⟩ := HRS.out _ _ h12
    simp only [fillAt, dstOf, List.getElem?_cons_zero, List.getElem?_cons_succ, Option.bind_some, Act.put, List.setIfInBounds_toArray, List.set_cons_zero, List.set_cons_succ, Nat.zero_add, Nat.reduceAdd, List.drop_succ_cons, List.drop_zero]
    generalize xs 12 = x12 at *; subst hx
    generalize xs 13 = x13 at *; subst h13
    have H12 := Lib.hid h12
    have HW := Lib.hid hW
    have hrr : RowAt W (w.heap.size + 1) (entC noEn) := HRb.out.ext hW
    have hroom3 : roomOf W (w.heap.size + 1) 0 45 = true := by rw [hrr.room]; rfl
    have HRR := Lib.hid hrr
    clear h12 hW hS hrr
    go_wp2
    refine post_two (v1 := .agg (entC x)) (v2 := .int .i64 N) Tryz.results23 rfl ⟨_, rfl, ent_loaded (row_stored HRR.out (ent_size _) (ent_size _))⟩ rfl ⟨_, rfl, HRS2.out _ _ _ _ (by omega) H12.out, (HX.out.trans HW.out).setCells (by omega) _ _⟩
end Go.Proofs.YtiacnoejlmaplaaGreatDoor
