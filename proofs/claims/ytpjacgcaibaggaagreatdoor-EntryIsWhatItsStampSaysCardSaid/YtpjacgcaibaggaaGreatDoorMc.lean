/- Pieces put one after the other, in plain words. -/
import Derived.Test.YtpjacgcaibaggaaGreatDoorProg
import Derived.Test.YtpjacgcaibaggaaGreatDoorExt
import Derived.WalkKit
import Derived.WalkSpells
import Derived.WalkLawsBesides
import Derived.Deep.QuietTactic
import Derived.BigQuiet
import Derived.Test.YtpjacgcaibaggaaGreatDoorMs
import Derived.Test.YtpjacgcaibaggaaGreatDoorEt
import Derived.Lib.ConvBytes
import Derived.Lib.Bytealg
import Derived.Lib.Small
set_option linter.unusedVariables false
set_option linter.unusedSimpArgs false
namespace Go.Proofs.YtpjacgcaibaggaaGreatDoor
open Go.RowKit Go.Shelf
open Go.Proofs
open Go.Proofs.Sp (Sp)

theorem spTy : RowTy Tryz.prog 26 2 := ⟨by kernel_rfl, by kernel_rfl⟩
theorem within_any (n lo hi : Int) (w : World) : Calls Tryz.prog 100 #[.int .i64 n, .int .i64 lo, .int .i64 hi] w fun e' w' => e' = .returned (.bool (decide (lo ≤ n) && decide (n ≤ hi))) ∧ w = w' := by
  go_enter Tryz.func100, Tryz.ntmps100
  go_wp2
  all_goals
    go_ret
    refine ⟨ret_bool ?_, rfl⟩
    rw [Bool.eq_iff_iff]
    simp only [Bool.and_eq_true, decide_eq_true_eq, Bool.false_eq_true, false_iff]
    omega
theorem all_any (e : En) (w : World) : Calls Tryz.prog 103 #[.agg (entC e)] w fun e' w' => e' = .returned (.agg #[.int .i64 0, .int .i64 e.st.size]) ∧ Ext w w' := by
  go_enter Tryz.func103, Tryz.ntmps103
  go_wp2
  refine post_row spTy Tryz.results103 rfl rfl (rowOf_some rfl ?_) ⟨rfl, (by (repeat (first | with_reducible exact Ext.refl _ | with_reducible exact Ext.refl _ | with_reducible refine Ext.drew ?_ | with_reducible refine Ext.drewN ?_ _ | with_reducible refine Ext.alloc ?_ _ | with_reducible refine Ext.onto ?_ _ | (with_reducible refine Ext.setCells ?_ ?_ _ _; rotate_left; focus (first | omega | (simp; done) | (simp; omega))) | (with_reducible refine Ext.setCell ?_ ?_ _; rotate_left; focus (first | omega | (simp; done) | (simp; omega))))))⟩
  intro i hi
  have h3 : i = 0 ∨ i = 1 := by omega
  rcases h3 with h3 | h3 <;> subst h3 <;> simp [go_sem]
set_option maxHeartbeats 2000000 in
theorem right_ok (s : St) (w : World) (h1 : s.addr.size ≤ 4096) (h2 : s.var.size ≤ 4096) (h3 : s.tags.size ≤ 4096) (h : rightB s = true) :
    Calls Tryz.prog 61 #[.agg (stmC s)] w fun e' w' => e' = .returned (.bool true) ∧ Ext w w' := by
  simp only [rightB, Bool.and_eq_true, decide_eq_true_eq] at h
  obtain ⟨⟨⟨⟨⟨⟨⟨⟨⟨⟨⟨⟨⟨a1, a2⟩, a3⟩, a4⟩, a5⟩, a6⟩, a7⟩, a8⟩, a9⟩, a10⟩, a11⟩, a12⟩, a13⟩, a14⟩ := h
  go_enter Tryz.func61, Tryz.ntmps61
  go_wp2_with (go_at_call 100; refine (within_any _ _ _ _).mono ?_; rintro e w' ⟨rfl, rfl⟩)
  all_goals
    go_ret
    exact ⟨rfl, (by (repeat (first | with_reducible exact Ext.refl _ | with_reducible exact Ext.refl _ | with_reducible refine Ext.drew ?_ | with_reducible refine Ext.drewN ?_ _ | with_reducible refine Ext.alloc ?_ _ | with_reducible refine Ext.onto ?_ _ | (with_reducible refine Ext.setCells ?_ ?_ _ _; rotate_left; focus (first | omega | (simp; done) | (simp; omega))) | (with_reducible refine Ext.setCell ?_ ?_ _; rotate_left; focus (first | omega | (simp; done) | (simp; omega))))))⟩
def zb (n : Nat) : ByteArray := ⟨(Lib.repeatL [0] n).toArray⟩
theorem repExtra : Builder.Extra Tryz.prog Tryz.repeatS_ren where
  sizeBuilder := by kernel_rfl
  liesBuilder := by kernel_rfl
  t5 := by kernel_rfl
  a5 := fun w => by kernel_rfl
  z5 := fun w => by kernel_rfl
  v5 := fun w => by kernel_rfl
  infoByte := by kernel_rfl
  cellsByte := by kernel_rfl
  sizeByte := by kernel_rfl
  neB5 := by decide
theorem repeat0 (n : Nat) (m : Int) (hm : m = n) (w : World) (hn : n ≤ 140737488355328) : Calls Tryz.prog 101 #[.string ⟨#[0]⟩, .int .i64 m] w fun e w' => e = .returned (.string (zb n)) ∧ Ext w w' := by
  subst hm
  by_cases h0 : n = 0
  · subst h0
    have h := Any.strings_Repeat_zero Tryz.repeatS ⟨#[0]⟩ w
    change Calls Tryz.prog 101 _ _ _ at h
    refine h.mono ?_
    rintro e w' ⟨rfl, rfl⟩
    exact ⟨rfl, Ext.refl _⟩
  · by_cases h1 : n = 1
    · subst h1
      have h := Any.strings_Repeat_one Tryz.repeatS ⟨#[0]⟩ w
      change Calls Tryz.prog 101 _ _ _ at h
      refine h.mono ?_
      rintro e w' ⟨rfl, rfl⟩
      exact ⟨rfl, Ext.refl _⟩
    · have h := Any.strings_Repeat_main Tryz.repeatS repExtra ⟨#[0]⟩ n w (by omega) (by omega) (by show 1 * n ≤ _; omega) (by decide)
      change Calls Tryz.prog 101 _ _ _ at h
      refine h.mono ?_
      rintro e w' ⟨rfl, hb⟩
      exact ⟨rfl, hb⟩
def emptyEn (s : St) (soft : Bool) : En := ⟨s, soft, .slice none 0 0, zb s.size.toNat, decide (s.size = 0)⟩
theorem build_ent (s : St) (soft : Bool) (b : ByteArray) (wh : Bool) (W : World) : (Instr.build 58 #[(0, .agg (stmC s)), (1, .bool soft), (3, .string b), (4, .bool wh)]).run Tryz.prog W = .ok (.agg (entC ⟨s, soft, .slice none 0 0, b, wh⟩)) W := by kernel_rfl
theorem build_ent0 (W : World) : (Instr.build 58 #[]).run Tryz.prog W = .ok (.agg (entC noEn)) W := by kernel_rfl
def entBuild (a b c d : Value) : Sem Next := do pure (.value (← Instr.build 58 #[(0, a), (1, b), (3, c), (4, d)]))
theorem entBuild_x (ρ : Operand → Value) (dst : Option Tmp) (x0 x1 x3 x4 : Operand) (t : TypeId) (pos : String) (after : Array Edge) (guard : Option (Nat × Bool)) : execOp ρ { dst, op := .build 58 #[(0, x0), (1, x1), (3, x3), (4, x4)], type := t, pos, after, guard } = entBuild (ρ x0) (ρ x1) (ρ x3) (ρ x4) := by kernel_rfl
theorem entBuild_run (s : St) (soft : Bool) (b : ByteArray) (wh : Bool) (W : World) : (entBuild (.agg (stmC s)) (.bool soft) (.string b) (.bool wh)).run Tryz.prog W = .ok (.value (.agg (entC ⟨s, soft, .slice none 0 0, b, wh⟩))) W := by kernel_rfl
def entBuild0 : Sem Next := do pure (.value (← Instr.build 58 #[]))
theorem entBuild0_x (ρ : Operand → Value) (dst : Option Tmp) (t : TypeId) (pos : String) (after : Array Edge) (guard : Option (Nat × Bool)) : execOp ρ { dst, op := .build 58 #[], type := t, pos, after, guard } = entBuild0 := by kernel_rfl
theorem entBuild0_run (W : World) : entBuild0.run Tryz.prog W = .ok (.value (.agg (entC noEn))) W := by kernel_rfl
attribute [go_sem ↓] entBuild_x entBuild0_x
attribute [go_sem] entBuild_run entBuild0_run
theorem ent_fits (s : St) (soft : Bool) (A : Option Addr) (n c : Nat) (b : ByteArray) (wh : Bool) : fitsRow 45 (entC ⟨s, soft, .slice A n c, b, wh⟩) = true := by kernel_rfl
theorem ent_fits_of {e : En} {A : Option Addr} {n c : Nat} (h : e.hv = .slice A n c) : fitsRow 45 (entC e) = true := by
  obtain ⟨a, b, v, d, f⟩ := e
  simp only at h
  subst h
  exact ent_fits _ _ _ _ _ _ _
theorem stm_fits (s : St) : fitsRow 41 (stmC s) = true := by kernel_rfl
attribute [go_sem] ent_fits stm_fits
theorem row_stored {w : World} {b : Nat} {cs ds : Array Value} (h : RowAt w b cs) (hn : cs.size = 45) (hd : ds.size = 45) : rowOf (w.setCells b 0 ds.toList) b 0 45 = some ds := h.stored (n := 45) (by rw [hn, hd]) hd.symm (by omega)
set_option maxHeartbeats 1000000 in
theorem empty_any (s : St) (soft : Bool) (w : World) (h0 : 0 ≤ s.size) (h1 : s.size ≤ 65536) : Calls Tryz.prog 62 #[.agg (stmC s), .bool soft] w fun e' w' => e' = .returned (.agg (entC (emptyEn s soft))) ∧ Ext w w' := by
  go_enter Tryz.func62, Tryz.ntmps62
  go_wp2
  refine wp_region_later_tail 9 (by kernel_rfl) (by kernel_rfl) ?_
  simp only [List.take_succ_cons, List.take_zero, List.drop_succ_cons, List.drop_zero]
  repeat (first | go_big_quiet_step ((go_at_call 101; exact quietE (repeat0 s.size.toNat _ (by omega) _ (by omega)))) | quiet_step ((go_at_call 101; exact quietE (repeat0 s.size.toNat _ (by omega) _ (by omega)))))
  refine wpQuiet_nil ?_
  rintro _ ⟨xq, rfl⟩
  go_wp2
  have h1 : RowAt (later ((w.alloc (.cells (stmC s) 48)).alloc (.cells (entC noEn) 58)) xq) (w.heap.size + 1) (entC noEn) := RowAt.later (RowAt.newAt (by simp)) _
  refine post_row ent_ty Tryz.results62 rfl rfl (row_stored h1 (ent_size _) (ent_size _)) ⟨?_, (by (repeat (first | with_reducible exact Ext.refl _ | with_reducible exact Ext.refl _ | with_reducible refine Ext.drew ?_ | with_reducible refine Ext.drewN ?_ _ | with_reducible refine Ext.alloc ?_ _ | with_reducible refine Ext.onto ?_ _ | (with_reducible refine Ext.setCells ?_ ?_ _ _; rotate_left; focus (first | omega | (simp; done) | (simp; omega))) | (with_reducible refine Ext.setCell ?_ ?_ _; rotate_left; focus (first | omega | (simp; done) | (simp; omega))))))⟩
  unfold emptyEn
  congr 4
end Go.Proofs.YtpjacgcaibaggaaGreatDoor

namespace Go.Proofs.YtpjacgcaibaggaaGreatDoor
open Go.RowKit Go.Shelf
open Go.Proofs
open Go.Proofs.Sp (Sp)

theorem odigest_is (s : ByteArray) (D : List Int) (w : World) (hk : Konst 0 w) (hl : s.size ≤ 140737488351200) (h : Wire.digest 34 [bts s] = D) :
    Calls Tryz.prog 24 #[.string s] w fun e w' => e = .returned (.agg (cells8 D)) ∧ Ext w w' := by subst h; exact odigest_ok s w hk hl
theorem ent_set42 (e : En) (v : Value) : (entC e).setIfInBounds 42 v = entC { e with hv := v } := by kernel_rfl
theorem ent_set43 (e : En) (v : ByteArray) : (entC e).setIfInBounds 43 (.string v) = entC { e with bytes := v } := by kernel_rfl
theorem ent_set44 (e : En) (v : Bool) : (entC e).setIfInBounds 44 (.bool v) = entC { e with whole := v } := by kernel_rfl
theorem ent_set41 (e : En) (v : Bool) : (entC e).setIfInBounds 41 (.bool v) = entC { e with soft := v } := by kernel_rfl
theorem ent_set21 (e : En) (v : Int) : (entC e).setIfInBounds 21 (.int .i64 v) = entC { e with st := { e.st with lo := v } } := by kernel_rfl

theorem ent_loaded {w : World} {b : Nat} {cs : Array Value} (h : rowOf w b 0 45 = some cs) : (loadVar 58 ⟨b, 0, none⟩).run Tryz.prog w = .ok (.agg cs) w := by rw [ent_lv, h]; rfl
attribute [go_sem] ent_set42 ent_set43 ent_set44 ent_set41 ent_set21

set_option maxRecDepth 100000 in
set_option maxHeartbeats 2000000 in
theorem settle_no (e : En) (Ae : Option Addr) (ne ce : Nat) (A : Option Addr) (c : Nat) (l : List Sp) (Ab : Option Addr) (cb : Nat) (bl : List Int) (w : World) (hv : e.hv = .slice Ae ne ce) (h0 : 0 ≤ e.st.size) (h1 : e.st.size ≤ 65536)
    (hs : Sp.IsSet l) (hb : bd2 l) (hlen : l.length * 32 ≤ 140737488330000) (hr : ReadsSp w w.heap.size A l) (z : A = none → c = 0) (hbl : 0 < bl.length) (hbl2 : bl.length ≤ 65536) (hrb : ReadsB w w.heap.size Ab bl) (hk : Konst 0 w) (hc : coversB l (0, e.st.size) false) :
    Calls Tryz.prog 63 #[.agg (entC e), .slice A l.length c, .slice Ab bl.length cb] w fun e' w' => e' = .returned (.tuple #[.agg (entC { e with hv := .slice A l.length c, bytes := strOfNums bl }), .int .i64 0]) ∧ Ext w w' := by
  have HA := Lib.hid hr
  have HZ := Lib.hid z
  have HS := Lib.hid hs
  have HBd := Lib.hid hb
  have HK := Lib.hid hk
  have HRb := Lib.hid hrb
  have HHv := Lib.hid hv
  have HC := Lib.hid hc
  have hcv1 := conv_bytes (w := ((w.alloc (.cells (entC e) 58)).alloc (.cells (entC noEn) 58)).drew) cb (HRb.out.on ((((Ext.refl w).alloc _).alloc _).drew)) hbl
  have hcv2 := conv_bytes (w := ((w.alloc (.cells (entC { e with hv := .slice A l.length c }) 58)).alloc (.cells (entC noEn) 58)).drew) cb (HRb.out.on ((((Ext.refl w).alloc _).alloc _).drew)) hbl
  clear hr z hs hb hk hrb hv hc
  have hf : fitsRow 45 (entC { e with hv := .slice A l.length c, bytes := strOfNums bl }) = true := ent_fits_of rfl
  have hsb := strOfNums_size bl
  have hsz : (strOfNums bl).size ≤ 65536 := by rw [hsb]; exact hbl2
  clear hsb
  obtain ⟨e2, he2⟩ : ∃ e2 : En, { e with hv := .slice A l.length c, bytes := strOfNums bl } = e2 := ⟨_, rfl⟩
  have hst : e2.st = e.st := by rw [← he2]
  have hso : e2.soft = e.soft := by rw [← he2]
  have hby : e2.bytes = strOfNums bl := by rw [← he2]
  go_enter Tryz.func63, Tryz.ntmps63
  go_wp2
  go_region
  have hxW : Ext w (((w.alloc (.cells (entC e2) 58)).alloc (.cells (entC noEn) 58)).drew) := (((Ext.refl w).alloc _).alloc _).drew
  have hr1 : RowAt (((w.alloc (.cells (entC e2) 58)).alloc (.cells (entC noEn) 58)).drew) w.heap.size (entC e2) := RowAt.drew (RowAt.alloc (RowAt.new _ _ _) _)
  have hr2 : RowAt (((w.alloc (.cells (entC e2) 58)).alloc (.cells (entC noEn) 58)).drew) (w.heap.size + 1) (entC noEn) := RowAt.drew (RowAt.newAt (by simp))
  generalize (((w.alloc (.cells (entC e2) 58)).alloc (.cells (entC noEn) 58)).drew) = W at hxW hr1 hr2 ⊢
  have HXW := Lib.hid hxW
  have HR1 := Lib.hid hr1
  have HR2 := Lib.hid hr2
  have hrow : rowOf W w.heap.size 0 45 = some (entC e2) := hr1.all (ent_size e2).symm (by omega)
  have hroom : roomOf W (w.heap.size + 1) 0 45 = true := by rw [hr2.room]; rfl
  have hl1 := hr1.lt
  have hl2 := hr2.lt
  rw [he2] at hf
  have HE2 := Lib.hid he2
  clear hxW hr1 hr2 hcv1 hcv2 he2
  go_wp2_with (first
    | (go_at_call 103; refine (all_any e2 _).mono ?_; rw [hst]; rintro e w' ⟨rfl, hxl⟩; obtain ⟨xl, rfl⟩ := hxl.asLater; clear hxl)
    | (go_at_call 102; refine (covers_any A c l (0, e.st.size) _ HS.out HBd.out ⟨⟨by show (-4611686018427387904 : Int) ≤ 0; omega, by show (0 : Int) ≤ _; omega⟩, by show _ ≤ e.st.size; omega, by show e.st.size ≤ _; omega⟩ (by omega) (HA.out.on (HXW.out.onto _)) HZ.out).mono ?_; rintro e' w' ⟨b, rfl, HCb, hxl⟩; obtain ⟨xl, rfl⟩ := hxl.asLater; clear hxl; obtain rfl := coversB_uniq HCb.out HC.out))
  refine post_two (v1 := .agg (entC e2)) (v2 := .int .i64 0) Tryz.results63 rfl ⟨_, rfl, ent_loaded (row_stored ((by (repeat (first | with_reducible exact HR2.out | with_reducible refine RowAt.drew ?_ | with_reducible refine RowAt.later ?_ _ | with_reducible exact RowAt.newAt (by first | rfl | omega | (simp [later_size, setCells_size]; done) | (simp [later_size, setCells_size]; omega)) | with_reducible refine RowAt.alloc ?_ _ | with_reducible apply RowAt.store | with_reducible refine RowAt.others ?_ ?_ _ _ | with_reducible refine RowAt.other ?_ ?_ _)); all_goals first | omega | (simp; done) | (simp; omega) | (simp [go_sem]; done))) (ent_size _) (ent_size _))⟩ rfl ⟨by rw [HE2.out], (by (repeat (first | with_reducible exact HXW.out | with_reducible exact Ext.refl _ | with_reducible refine Ext.drew ?_ | with_reducible refine Ext.drewN ?_ _ | with_reducible refine Ext.alloc ?_ _ | with_reducible refine Ext.onto ?_ _ | (with_reducible refine Ext.setCells ?_ ?_ _ _; rotate_left; focus (first | omega | (simp; done) | (simp; omega))) | (with_reducible refine Ext.setCell ?_ ?_ _; rotate_left; focus (first | omega | (simp; done) | (simp; omega))))))⟩
set_option maxRecDepth 100000 in
set_option maxHeartbeats 2000000 in
theorem settle_bad (e : En) (Ae : Option Addr) (ne ce : Nat) (A : Option Addr) (c : Nat) (l : List Sp) (Ab : Option Addr) (cb : Nat) (bl : List Int) (w : World) (hv : e.hv = .slice Ae ne ce) (h0 : 0 ≤ e.st.size) (h1 : e.st.size ≤ 65536)
    (hs : Sp.IsSet l) (hb : bd2 l) (hlen : l.length * 32 ≤ 140737488330000) (hr : ReadsSp w w.heap.size A l) (z : A = none → c = 0) (hbl : 0 < bl.length) (hbl2 : bl.length ≤ 65536) (hrb : ReadsB w w.heap.size Ab bl) (hk : Konst 0 w) (hc : coversB l (0, e.st.size) true)
    (hbo : e.st.body.length = 16) (hbb : Byt e.st.body) (hd : Wire.digest 34 [bts (strOfNums bl)] ≠ e.st.body) :
    Calls Tryz.prog 63 #[.agg (entC e), .slice A l.length c, .slice Ab bl.length cb] w fun e' w' => e' = .returned (.tuple #[.agg (entC (emptyEn e.st e.soft)), .int .i64 8]) ∧ Ext w w' := by
  have HD := Lib.hid hd
  have HBo := Lib.hid hbo
  have HBb := Lib.hid hbb
  clear hd hbo hbb
  have HA := Lib.hid hr
  have HZ := Lib.hid z
  have HS := Lib.hid hs
  have HBd := Lib.hid hb
  have HK := Lib.hid hk
  have HRb := Lib.hid hrb
  have HHv := Lib.hid hv
  have HC := Lib.hid hc
  have hcv1 := conv_bytes (w := ((w.alloc (.cells (entC e) 58)).alloc (.cells (entC noEn) 58)).drew) cb (HRb.out.on ((((Ext.refl w).alloc _).alloc _).drew)) hbl
  have hcv2 := conv_bytes (w := ((w.alloc (.cells (entC { e with hv := .slice A l.length c }) 58)).alloc (.cells (entC noEn) 58)).drew) cb (HRb.out.on ((((Ext.refl w).alloc _).alloc _).drew)) hbl
  clear hr z hs hb hk hrb hv hc
  have hf : fitsRow 45 (entC { e with hv := .slice A l.length c, bytes := strOfNums bl }) = true := ent_fits_of rfl
  have hsb := strOfNums_size bl
  have hsz : (strOfNums bl).size ≤ 65536 := by rw [hsb]; exact hbl2
  clear hsb
  obtain ⟨e2, he2⟩ : ∃ e2 : En, { e with hv := .slice A l.length c, bytes := strOfNums bl } = e2 := ⟨_, rfl⟩
  have hst : e2.st = e.st := by rw [← he2]
  have hso : e2.soft = e.soft := by rw [← he2]
  have hby : e2.bytes = strOfNums bl := by rw [← he2]
  go_enter Tryz.func63, Tryz.ntmps63
  go_wp2
  go_region
  have hxW : Ext w (((w.alloc (.cells (entC e2) 58)).alloc (.cells (entC noEn) 58)).drew) := (((Ext.refl w).alloc _).alloc _).drew
  have hr1 : RowAt (((w.alloc (.cells (entC e2) 58)).alloc (.cells (entC noEn) 58)).drew) w.heap.size (entC e2) := RowAt.drew (RowAt.alloc (RowAt.new _ _ _) _)
  have hr2 : RowAt (((w.alloc (.cells (entC e2) 58)).alloc (.cells (entC noEn) 58)).drew) (w.heap.size + 1) (entC noEn) := RowAt.drew (RowAt.newAt (by simp))
  generalize (((w.alloc (.cells (entC e2) 58)).alloc (.cells (entC noEn) 58)).drew) = W at hxW hr1 hr2 ⊢
  have HXW := Lib.hid hxW
  have HR1 := Lib.hid hr1
  have HR2 := Lib.hid hr2
  have hrow : rowOf W w.heap.size 0 45 = some (entC e2) := hr1.all (ent_size e2).symm (by omega)
  have hroom : roomOf W (w.heap.size + 1) 0 45 = true := by rw [hr2.room]; rfl
  have hl1 := hr1.lt
  have hl2 := hr2.lt
  rw [he2] at hf
  have HE2 := Lib.hid he2
  clear hxW hr1 hr2 hcv1 hcv2 he2
  go_wp2_with (first
    | (go_at_call 103; refine (all_any e2 _).mono ?_; rw [hst]; rintro e w' ⟨rfl, hxl⟩; obtain ⟨xl, rfl⟩ := hxl.asLater; clear hxl)
    | (go_at_call 102; refine (covers_any A c l (0, e.st.size) _ HS.out HBd.out ⟨⟨by show (-4611686018427387904 : Int) ≤ 0; omega, by show (0 : Int) ≤ _; omega⟩, by show _ ≤ e.st.size; omega, by show e.st.size ≤ _; omega⟩ (by omega) (HA.out.on (HXW.out.onto _)) HZ.out).mono ?_; rintro e' w' ⟨b, rfl, HCb, hxl⟩; obtain ⟨xl, rfl⟩ := hxl.asLater; clear hxl; obtain rfl := coversB_uniq HCb.out HC.out))
  have c43 : W.cell? ⟨w.heap.size, 43, none⟩ = some (.string (strOfNums bl)) := (HR1.out.cell 43).trans (by rw [ent_g43, hby])
  have c41 : W.cell? ⟨w.heap.size, 41, none⟩ = some (.bool e.soft) := (HR1.out.cell 41).trans (by rw [ent_g41, hso])
  have r41 : rowOf W w.heap.size 0 41 = some (stmC e.st) := by rw [HR1.out.row, if_neg (by omega), ent_stm, hst]
  have hbd : rowOf W w.heap.size 4 16 = some (dgC e.st.body) := by rw [HR1.out.row, if_neg (by omega), ent_body, hst]
  have hq := neq_dig (digest_length 34 [bts (strOfNums bl)]) HBo.out (digest_byt 34 [bts (strOfNums bl)]) HBb.out
  generalize hDD : Wire.digest 34 [bts (strOfNums bl)] = D at *
  have HDD := Lib.hid hDD
  clear hDD
  have dd : decide (D = e.st.body) = false := by simpa using HD.out
  have hfe : fitsRow 45 (entC (emptyEn e.st e.soft)) = true := ent_fits_of rfl
  simp only [dd, Bool.not_true, Bool.not_false] at hq
  clear dd
  refine wp_region_later (by kernel_rfl) (by kernel_rfl) ?_
  repeat (first | go_big_quiet_step ((go_at_call 24; exact quietE (odigest_is (strOfNums bl) D _ (RowAt.ext HK.out ((HXW.out.onto _).onto _)) (by omega) HDD.out))) | quiet_step ((go_at_call 24; exact quietE (odigest_is (strOfNums bl) D _ (RowAt.ext HK.out ((HXW.out.onto _).onto _)) (by omega) HDD.out))))
  refine wpQuiet_nil ?_
  rintro _ ⟨xq, rfl⟩
  go_wp2_with (go_at_call 62; refine (empty_any e.st e.soft _ h0 h1).mono ?_; rintro e w' ⟨rfl, hxl⟩; obtain ⟨xl, rfl⟩ := hxl.asLater; clear hxl)
  refine post_two (v1 := .agg (entC (emptyEn e.st e.soft))) (v2 := .int .i64 8) Tryz.results63 rfl ⟨_, rfl, ent_loaded (row_stored ((by (repeat (first | with_reducible exact HR2.out | with_reducible refine RowAt.drew ?_ | with_reducible refine RowAt.later ?_ _ | with_reducible exact RowAt.newAt (by first | rfl | omega | (simp [later_size, setCells_size]; done) | (simp [later_size, setCells_size]; omega)) | with_reducible refine RowAt.alloc ?_ _ | with_reducible apply RowAt.store | with_reducible refine RowAt.others ?_ ?_ _ _ | with_reducible refine RowAt.other ?_ ?_ _)); all_goals first | omega | (simp; done) | (simp; omega) | (simp [go_sem]; done))) (ent_size _) (ent_size _))⟩ rfl ⟨rfl, (by (repeat (first | with_reducible exact HXW.out | with_reducible exact Ext.refl _ | with_reducible refine Ext.drew ?_ | with_reducible refine Ext.drewN ?_ _ | with_reducible refine Ext.alloc ?_ _ | with_reducible refine Ext.onto ?_ _ | (with_reducible refine Ext.setCells ?_ ?_ _ _; rotate_left; focus (first | omega | (simp; done) | (simp; omega))) | (with_reducible refine Ext.setCell ?_ ?_ _; rotate_left; focus (first | omega | (simp; done) | (simp; omega))))))⟩
set_option maxRecDepth 100000 in
set_option maxHeartbeats 2000000 in
theorem settle_ok (e : En) (Ae : Option Addr) (ne ce : Nat) (A : Option Addr) (c : Nat) (l : List Sp) (Ab : Option Addr) (cb : Nat) (bl : List Int) (w : World) (hv : e.hv = .slice Ae ne ce) (h0 : 0 ≤ e.st.size) (h1 : e.st.size ≤ 65536)
    (hs : Sp.IsSet l) (hb : bd2 l) (hlen : l.length * 32 ≤ 140737488330000) (hr : ReadsSp w w.heap.size A l) (z : A = none → c = 0) (hbl : 0 < bl.length) (hbl2 : bl.length ≤ 65536) (hrb : ReadsB w w.heap.size Ab bl) (hk : Konst 0 w) (hc : coversB l (0, e.st.size) true)
    (hbo : e.st.body.length = 16) (hbb : Byt e.st.body) (hd : Wire.digest 34 [bts (strOfNums bl)] = e.st.body) :
    Calls Tryz.prog 63 #[.agg (entC e), .slice A l.length c, .slice Ab bl.length cb] w fun e' w' => e' = .returned (.tuple #[.agg (entC { e with hv := .slice A l.length c, bytes := strOfNums bl, whole := true }), .int .i64 0]) ∧ Ext w w' := by
  have HD := Lib.hid hd
  have HBo := Lib.hid hbo
  have HBb := Lib.hid hbb
  clear hd hbo hbb
  have HA := Lib.hid hr
  have HZ := Lib.hid z
  have HS := Lib.hid hs
  have HBd := Lib.hid hb
  have HK := Lib.hid hk
  have HRb := Lib.hid hrb
  have HHv := Lib.hid hv
  have HC := Lib.hid hc
  have hcv1 := conv_bytes (w := ((w.alloc (.cells (entC e) 58)).alloc (.cells (entC noEn) 58)).drew) cb (HRb.out.on ((((Ext.refl w).alloc _).alloc _).drew)) hbl
  have hcv2 := conv_bytes (w := ((w.alloc (.cells (entC { e with hv := .slice A l.length c }) 58)).alloc (.cells (entC noEn) 58)).drew) cb (HRb.out.on ((((Ext.refl w).alloc _).alloc _).drew)) hbl
  clear hr z hs hb hk hrb hv hc
  have hf : fitsRow 45 (entC { e with hv := .slice A l.length c, bytes := strOfNums bl }) = true := ent_fits_of rfl
  have hsb := strOfNums_size bl
  have hsz : (strOfNums bl).size ≤ 65536 := by rw [hsb]; exact hbl2
  clear hsb
  obtain ⟨e2, he2⟩ : ∃ e2 : En, { e with hv := .slice A l.length c, bytes := strOfNums bl } = e2 := ⟨_, rfl⟩
  have hst : e2.st = e.st := by rw [← he2]
  have hso : e2.soft = e.soft := by rw [← he2]
  have hby : e2.bytes = strOfNums bl := by rw [← he2]
  go_enter Tryz.func63, Tryz.ntmps63
  go_wp2
  go_region
  have hxW : Ext w (((w.alloc (.cells (entC e2) 58)).alloc (.cells (entC noEn) 58)).drew) := (((Ext.refl w).alloc _).alloc _).drew
  have hr1 : RowAt (((w.alloc (.cells (entC e2) 58)).alloc (.cells (entC noEn) 58)).drew) w.heap.size (entC e2) := RowAt.drew (RowAt.alloc (RowAt.new _ _ _) _)
  have hr2 : RowAt (((w.alloc (.cells (entC e2) 58)).alloc (.cells (entC noEn) 58)).drew) (w.heap.size + 1) (entC noEn) := RowAt.drew (RowAt.newAt (by simp))
  generalize (((w.alloc (.cells (entC e2) 58)).alloc (.cells (entC noEn) 58)).drew) = W at hxW hr1 hr2 ⊢
  have HXW := Lib.hid hxW
  have HR1 := Lib.hid hr1
  have HR2 := Lib.hid hr2
  have hrow : rowOf W w.heap.size 0 45 = some (entC e2) := hr1.all (ent_size e2).symm (by omega)
  have hroom : roomOf W (w.heap.size + 1) 0 45 = true := by rw [hr2.room]; rfl
  have hl1 := hr1.lt
  have hl2 := hr2.lt
  rw [he2] at hf
  have HE2 := Lib.hid he2
  clear hxW hr1 hr2 hcv1 hcv2 he2
  go_wp2_with (first
    | (go_at_call 103; refine (all_any e2 _).mono ?_; rw [hst]; rintro e w' ⟨rfl, hxl⟩; obtain ⟨xl, rfl⟩ := hxl.asLater; clear hxl)
    | (go_at_call 102; refine (covers_any A c l (0, e.st.size) _ HS.out HBd.out ⟨⟨by show (-4611686018427387904 : Int) ≤ 0; omega, by show (0 : Int) ≤ _; omega⟩, by show _ ≤ e.st.size; omega, by show e.st.size ≤ _; omega⟩ (by omega) (HA.out.on (HXW.out.onto _)) HZ.out).mono ?_; rintro e' w' ⟨b, rfl, HCb, hxl⟩; obtain ⟨xl, rfl⟩ := hxl.asLater; clear hxl; obtain rfl := coversB_uniq HCb.out HC.out))
  have hvv : e2.hv = .slice A l.length c := by rw [← HE2.out]
  have hfz : W.frozen? ⟨w.heap.size, 44, none⟩ = false := HR1.out.free 44
  have hc44 : W.cell? ⟨w.heap.size, 44, none⟩ = some (.bool e2.whole) := (HR1.out.cell 44).trans (ent_g44 e2)
  have c43 : W.cell? ⟨w.heap.size, 43, none⟩ = some (.string (strOfNums bl)) := (HR1.out.cell 43).trans (by rw [ent_g43, hby])
  have c41 : W.cell? ⟨w.heap.size, 41, none⟩ = some (.bool e.soft) := (HR1.out.cell 41).trans (by rw [ent_g41, hso])
  have r41 : rowOf W w.heap.size 0 41 = some (stmC e.st) := by rw [HR1.out.row, if_neg (by omega), ent_stm, hst]
  have hbd : rowOf W w.heap.size 4 16 = some (dgC e.st.body) := by rw [HR1.out.row, if_neg (by omega), ent_body, hst]
  have hq := neq_dig (digest_length 34 [bts (strOfNums bl)]) HBo.out (digest_byt 34 [bts (strOfNums bl)]) HBb.out
  generalize hDD : Wire.digest 34 [bts (strOfNums bl)] = D at *
  have HDD := Lib.hid hDD
  clear hDD
  have dd : decide (D = e.st.body) = true := by simpa using HD.out
  simp only [dd, Bool.not_true, Bool.not_false] at hq
  clear dd
  refine wp_region_later (by kernel_rfl) (by kernel_rfl) ?_
  repeat (first | go_big_quiet_step ((go_at_call 24; exact quietE (odigest_is (strOfNums bl) D _ (RowAt.ext HK.out ((HXW.out.onto _).onto _)) (by omega) HDD.out))) | quiet_step ((go_at_call 24; exact quietE (odigest_is (strOfNums bl) D _ (RowAt.ext HK.out ((HXW.out.onto _).onto _)) (by omega) HDD.out))))
  refine wpQuiet_nil ?_
  rintro _ ⟨xq, rfl⟩
  go_wp2
  refine post_two (v1 := .agg (entC { e with hv := .slice A l.length c, bytes := strOfNums bl, whole := true })) (v2 := .int .i64 0) Tryz.results63 rfl ⟨_, rfl, ent_loaded (row_stored ((by (repeat (first | with_reducible exact HR2.out | with_reducible refine RowAt.drew ?_ | with_reducible refine RowAt.later ?_ _ | with_reducible exact RowAt.newAt (by first | rfl | omega | (simp [later_size, setCells_size]; done) | (simp [later_size, setCells_size]; omega)) | with_reducible refine RowAt.alloc ?_ _ | with_reducible apply RowAt.store | with_reducible refine RowAt.others ?_ ?_ _ _ | with_reducible refine RowAt.other ?_ ?_ _)); all_goals first | omega | (simp; done) | (simp; omega) | (simp [go_sem]; done))) (ent_size _) (ent_size _))⟩ rfl ⟨rfl, (by (repeat (first | with_reducible exact HXW.out | with_reducible exact Ext.refl _ | with_reducible refine Ext.drew ?_ | with_reducible refine Ext.drewN ?_ _ | with_reducible refine Ext.alloc ?_ _ | with_reducible refine Ext.onto ?_ _ | (with_reducible refine Ext.setCells ?_ ?_ _ _; rotate_left; focus (first | omega | (simp; done) | (simp; omega))) | (with_reducible refine Ext.setCell ?_ ?_ _; rotate_left; focus (first | omega | (simp; done) | (simp; omega))))))⟩
end Go.Proofs.YtpjacgcaibaggaaGreatDoor

namespace Go.Proofs.YtpjacgcaibaggaaGreatDoor
open Go.RowKit Go.Shelf
open Go.Proofs
open Go.Proofs.Sp (Sp)

/-- The bytes of a block. -/
def ByteAt (w : World) (b : Nat) (l : List Int) : Prop := b < w.heap.size ∧ ∀ j, j < l.length → w.cell? ⟨b, j, none⟩ = some (.int .u8 (l.getD j 0)) ∧ w.frozen? ⟨b, j, none⟩ = false
theorem ByteAt.ext {w w' : World} {b : Nat} {l : List Int} (h : ByteAt w b l) (hx : Ext w w') : ByteAt w' b l :=
  ⟨Nat.lt_of_lt_of_le h.1 hx.size, fun j hj => ⟨(hx.cell (p := ⟨b, j, none⟩) h.1).trans (h.2 j hj).1, (hx.frozen (p := ⟨b, j, none⟩) h.1).trans (h.2 j hj).2⟩⟩
theorem ByteAt.room {w : World} {b : Nat} {l : List Int} (h : ByteAt w b l) (o n : Nat) (hn : o + n ≤ l.length) : roomOf w b o n = true := by
  unfold roomOf
  rw [decide_eq_true_iff]
  intro i hi
  have := h.2 (o + i) (by omega)
  rw [this.1, this.2]
  exact ⟨rfl, rfl⟩
theorem ByteAt.reads {w : World} {b : Nat} {l : List Int} (h : ByteAt w b l) : ReadsB w w.heap.size (some ⟨b, 0, none⟩) l := by
  intro h0
  refine ⟨b, 0, rfl, h.1, fun i hi j v hv => ?_⟩
  have hj : j = 0 := by
    have := (List.getElem?_eq_some_iff.1 hv).1
    simp [encB] at this; omega
  subst hj
  simp only [encB, List.getElem?_cons_zero, Option.some.injEq] at hv
  subst hv
  have := (h.2 i hi).1
  rw [Nat.mul_one, Nat.zero_add, Nat.add_zero, this]
  simp [hi]
theorem over_len {blk x : List Int} {p : Nat} (h : p + x.length ≤ blk.length) : (Sha.over blk p x).length = blk.length := by
  simp [Sha.over]; omega
theorem over_getD {blk x : List Int} {p j : Nat} (h : p + x.length ≤ blk.length) (hj : j < blk.length) : (Sha.over blk p x).getD j 0 = if p ≤ j ∧ j < p + x.length then x.getD (j - p) 0 else blk.getD j 0 := by
  unfold Sha.over
  simp only [List.getD_eq_getElem?_getD]
  by_cases h1 : j < p
  · rw [List.append_assoc, List.getElem?_append_left (by rw [List.length_take]; omega), List.getElem?_take, if_pos h1, if_neg (by omega)]
  · rw [List.append_assoc, List.getElem?_append_right (by rw [List.length_take]; omega), List.length_take, Nat.min_eq_left (by omega)]
    by_cases h2 : j < p + x.length
    · rw [List.getElem?_append_left (by omega), if_pos (by omega)]
    · rw [List.getElem?_append_right (by omega), if_neg (by omega), List.getElem?_drop, show p + x.length + (j - p - x.length) = j by omega]
theorem ByteAt.copied {w : World} {b : Nat} {l x : List Int} {p : Nat} (h : ByteAt w b l) (hp : p + x.length ≤ l.length) : ByteAt (w.setCells b p (cells8 x).toList) b (Sha.over l p x) := by
  have hx : (cells8 x).toList.length = x.length := by simp [cells8]
  refine ⟨by rw [setCells_size]; exact h.1, fun j hj => ?_⟩
  rw [over_len hp] at hj
  obtain ⟨k1, k2⟩ := h.2 j hj
  refine ⟨?_, by rw [setCells_frozen]; exact k2⟩
  rw [setCells_cell_if, over_getD hp hj, hx, k1]
  by_cases hc : p ≤ j ∧ j < p + x.length
  · rw [if_pos ⟨rfl, hc⟩, if_pos hc]
    have : j - p < x.length := by omega
    simp [cells8, this]
  · rw [if_neg (by intro hh; exact hc hh.2), if_neg hc]
theorem ext_bytes (w : World) (e : TypeId) (s : ByteArray) : Ext w (Lib.bytesWorld w e s) := ⟨rfl, rfl, rfl, by rw [Lib.bytesWorld_size]; omega, fun k hk => Lib.bytesWorld_at_old w e s k hk⟩
theorem bytes_at (w : World) (e : TypeId) (s : ByteArray) : ByteAt (Lib.bytesWorld w e s) w.heap.size (bts s) := by
  refine ⟨by rw [Lib.bytesWorld_size]; omega, fun j hj => ?_⟩
  rw [bts_length] at hj
  refine ⟨?_, ?_⟩
  · rw [Lib.bytesWorld_cell w e s j hj, bts_get s j hj]
    simp [hj]
    rfl
  · simp only [World.frozen?, Lib.bytesWorld_at_new]
    have hc : s.size ≤ (Lib.bytesCells w e s).size := by simp [Lib.bytesCells]
    simp
    omega
theorem strConv (w : World) (s : ByteArray) : (convert 9 118 (.string s)).run Tryz.prog w = .ok (.slice (some ⟨w.heap.size, 0, none⟩) s.size (grownCap w s.size 0 5)) (Lib.bytesWorld w 5 s) := Lib.run_convert_string_bytes w _ _ _ s (u := .string) (by kernel_rfl) (by kernel_rfl) (by kernel_rfl)

def putSoft (e : En) (A : Option Addr) (c : Nat) (l : List Sp) (f : Int) (more : ByteArray) (t : Int) (base : Nat) (bb : Value) (P : List Sp → Prop) (RS : Soft) (N : Int) : Nat → Soft
  | 0 => .eq (.agg (entC e))
  | 1 => .eq (.pointer (some ⟨base, 42, none⟩))
  | 5 => .eq (.string more)
  | 2 => .eq (.slice A l.length c)
  | 3 => .eq (.int .i64 f)
  | 4 => .eq (.int .i64 f)
  | 6 => .eq (.int .i64 more.size)
  | 7 => .eq (.int .i64 t)
  | 8 => .eq (.agg #[.int .i64 f, .int .i64 t])
  | 9 => ⟨fun v w => ∃ (A' : Option Addr) (c' : Nat) (out : List Sp), v = .slice A' out.length c' ∧ P out ∧ OwnsSp (base + 2) w A' c' out, fun v w w' ⟨A', c', out, h1, h2, h3⟩ hx => ⟨A', c', out, h1, h2, h3.ext hx⟩⟩
  | 10 => .eq bb
  | 11 => ⟨fun v w => ∃ u, v = .tuple #[u, .int .i64 N] ∧ RS.S u w, fun v w w' ⟨u, h1, h2⟩ hx => ⟨u, h1, RS.on _ _ _ h2 hx⟩⟩
  | 12 => RS
  | 13 => .eq (.int .i64 N)
  | _ => .any

set_option maxRecDepth 100000 in
set_option maxHeartbeats 2000000 in
theorem put_any (e : En) (A : Option Addr) (c : Nat) (l : List Sp) (f : Nat) (more : ByteArray) (w : World) (RS : Soft) (N : Int) (hv : e.hv = .slice A l.length c) (hw : e.whole = false) (hm0 : 0 < more.size) (h2 : (f : Int) + more.size ≤ e.st.size) (h3 : e.st.size ≤ 65536) (hb : (e.bytes.size : Int) = e.st.size)
    (hA : plainA A) (hbd : bdSp l) (hlen : l.length * 16 ≤ 140737488350000) (hr : ReadsSp w w.heap.size A l) (hRS2 : ∀ v W m vs, m < w.heap.size + 2 → RS.S v W → RS.S v (W.setCells m 0 vs)) (hRS : ∀ v W, RS.S v W → ∃ x, v = .agg (entC x) ∧ fitsRow 45 (entC x) = true)
    (HSet : ∀ (A' : Option Addr) (c' : Nat) (out : List Sp) (Ab : Option Addr) (cb : Nat) (W : World), Ext w W → (∃ srt, SortedOf (l ++ [((f : Int), (f : Int) + more.size)]) srt ∧ out = Sp.joined srt) → out.length ≤ l.length + 1 → OwnsSp (w.heap.size + 2) W A' c' out → ReadsB W W.heap.size Ab (Sha.over (bts e.bytes) f (bts more)) →
      Calls Tryz.prog 63 #[.agg (entC e), .slice A' out.length c', .slice Ab (Sha.over (bts e.bytes) f (bts more)).length cb] W fun e' w' => ∃ v, e' = .returned (.tuple #[v, .int .i64 N]) ∧ RS.S v w' ∧ Ext W w') :
    Calls Tryz.prog 28 #[.agg (entC e), .int .i64 f, .string more] w fun e' w' => ∃ v, e' = .returned (.tuple #[v, .int .i64 N]) ∧ RS.S v w' ∧ Ext w w' := by
  have hc44 : (entC e)[44]? = some (.bool false) := by rw [ent_g44, hw]
  have hc42 : (entC e)[42]? = some (.slice A l.length c) := by rw [ent_g42, hv]
  have HA := Lib.hid hA
  have HBd := Lib.hid hbd
  have HR := Lib.hid hr
  have HRS := Lib.hid hRS
  have HRS2 := Lib.hid hRS2
  have HS := Lib.hid HSet
  have HV := Lib.hid hv
  have d1 : decide ((f : Int) < 0) = false := by simp <;> omega
  have d2 : decide (e.st.size < (f : Int)) = false := by simp <;> omega
  have d3 : decide (e.st.size - (f : Int) < (more.size : Int)) = false := by simp <;> omega
  clear hA hbd hr hRS hRS2 HSet hv hw
  go_enter Tryz.func28, Tryz.ntmps28
  go_wp2
  rw [strConv]
  have hx0 : Ext w (Lib.bytesWorld ((w.alloc (.cells (entC e) 58)).alloc (.cells (entC noEn) 58)) 5 e.bytes) := (((Ext.refl w).alloc _).alloc _).trans (ext_bytes _ _ _)
  have hba : ByteAt (Lib.bytesWorld ((w.alloc (.cells (entC e) 58)).alloc (.cells (entC noEn) 58)) 5 e.bytes) (w.heap.size + 2) (bts e.bytes) := by
    have := bytes_at ((w.alloc (.cells (entC e) 58)).alloc (.cells (entC noEn) 58)) 5 e.bytes
    rw [World.size_alloc, World.size_alloc] at this
    exact this
  have hr1 : RowAt (Lib.bytesWorld ((w.alloc (.cells (entC e) 58)).alloc (.cells (entC noEn) 58)) 5 e.bytes) w.heap.size (entC e) := ((RowAt.new w (entC e) 58).alloc _).ext (ext_bytes _ _ _)
  have hr2 : RowAt (Lib.bytesWorld ((w.alloc (.cells (entC e) 58)).alloc (.cells (entC noEn) 58)) 5 e.bytes) (w.heap.size + 1) (entC noEn) := (RowAt.newAt (w := w.alloc (.cells (entC e) 58)) (by simp)).ext (ext_bytes _ _ _)
  have hge := grownCap_ge ((w.alloc (.cells (entC e) 58)).alloc (.cells (entC noEn) 58)) e.bytes.size 0 5
  generalize grownCap ((w.alloc (.cells (entC e) 58)).alloc (.cells (entC noEn) 58)) e.bytes.size 0 5 = cap at *
  generalize Lib.bytesWorld ((w.alloc (.cells (entC e) 58)).alloc (.cells (entC noEn) 58)) 5 e.bytes = W at *
  have hbl : (bts e.bytes).length = e.bytes.size := bts_length _
  have hml : (bts more).length = more.size := bts_length _
  have hroom : roomOf W (w.heap.size + 2) f more.size = true := hba.room f more.size (by omega)
  have HX0 := Lib.hid hx0
  have HBA := Lib.hid hba
  have HR1 := Lib.hid hr1
  have HR2 := Lib.hid hr2
  have hq1 : f + more.size ≤ cap := by omega
  have hq2 : f < cap := by omega
  have hq3 : more.size ≠ 0 := by omega
  have hq4 : more.toList.isEmpty = false := str_some more hm0
  clear hx0 hba hr1 hr2 d1 d2 d3
  go_wp2
  rw [run_copy_str (P := Tryz.prog) W 118 9 3 5 (w.heap.size + 1 + 1) f more.size more.size more (by kernel_rfl) u8_size (by rw [Nat.min_self]; exact hroom), Nat.min_self, List.take_of_length_le (by simp [cells8, bts_length])]
  have hxa : Ext w (W.setCells (w.heap.size + 1 + 1) f (cells8 (bts more)).toList) := HX0.out.setCells (by omega) _ _
  have hbb : ByteAt (W.setCells (w.heap.size + 1 + 1) f (cells8 (bts more)).toList) (w.heap.size + 2) (Sha.over (bts e.bytes) f (bts more)) := HBA.out.copied (by omega)
  have hra : RowAt (W.setCells (w.heap.size + 1 + 1) f (cells8 (bts more)).toList) w.heap.size (entC e) := HR1.out.others (by omega) _ _
  have hrb : RowAt (W.setCells (w.heap.size + 1 + 1) f (cells8 (bts more)).toList) (w.heap.size + 1) (entC noEn) := HR2.out.others (by omega) _ _
  generalize W.setCells (w.heap.size + 1 + 1) f (cells8 (bts more)).toList = W2 at *
  have hol : (Sha.over (bts e.bytes) f (bts more)).length = e.bytes.size := by rw [over_len (by omega), bts_length]
  have HOl := Lib.hid hol
  have hrow : rowOf W2 w.heap.size 0 45 = some (entC e) := hra.all (ent_size e).symm (by omega)
  have hroom2 : roomOf W2 (w.heap.size + 1) 0 45 = true := by rw [hrb.room]; rfl
  have hca : W2.cell? ⟨w.heap.size, 42, none⟩ = some (.slice A l.length c) := (hra.cell 42).trans hc42
  have hl1 := hra.lt
  have hl2 := hrb.lt
  have HX := Lib.hid hxa
  have HBB := Lib.hid hbb
  have HRb := Lib.hid hrb
  clear hxa hbb hra hrb HX0 HBA HR1 HR2 hroom hol hc42 hc44
  go_wp2
  refine wp_region_soft 14 (putSoft e A c l f more (f + more.size) w.heap.size (.slice (some ⟨w.heap.size + 1 + 1, 0, none⟩) e.bytes.size cap) (fun out => (∃ srt, SortedOf (l ++ [((f : Int), (f : Int) + more.size)]) srt ∧ out = Sp.joined srt) ∧ out.length ≤ l.length + 1) RS N) (by kernel_rfl) (by kernel_rfl) (lt_cons ?_ (lt_cons ?_ (lt_cons ?_ (lt_cons ?_ (lt_cons ?_ (lt_cons ?_ (lt_cons ?_ (lt_cons ?_ (lt_cons ?_ (lt_cons ?_ (lt_cons ?_ (lt_cons ?_ (lt_cons ?_ (lt_cons ?_ lt_none)))))))))))))) ?_
  · intro o ho xs W hW hd Q' hQ; obtain rfl := Option.some.inj ho; clear ho; simp only [fillAt, dstOf, List.getElem?_cons_zero, List.getElem?_cons_succ, Option.bind_some, Act.put, List.setIfInBounds_toArray, List.set_cons_zero, List.set_cons_succ, Nat.zero_add, Nat.reduceAdd] at hQ ⊢; have HQ := Lib.hid hQ; have HD := Lib.hid hd; have HW := Lib.hid hW; have hsW := hW.size; clear hQ hd hW
    have hrow0 : rowOf W w.heap.size 0 45 = some (entC e) := by rw [rowOf_congr (w := W2) (fun i _ => HW.out.cell (p := ⟨w.heap.size, 0 + i, none⟩) hl1)]; exact hrow
    go_wp2
    exact HQ.out _ _ (Ext.refl _) rfl
  · intro o ho xs W hW hd Q' hQ; obtain rfl := Option.some.inj ho; clear ho; simp only [fillAt, dstOf, List.getElem?_cons_zero, List.getElem?_cons_succ, Option.bind_some, Act.put, List.setIfInBounds_toArray, List.set_cons_zero, List.set_cons_succ, Nat.zero_add, Nat.reduceAdd] at hQ ⊢; have HQ := Lib.hid hQ; have HD := Lib.hid hd; have HW := Lib.hid hW; have hsW := hW.size; clear hQ hd hW
    go_wp2
    exact HQ.out _ _ (Ext.refl _) rfl
  · intro o ho xs W hW hd Q' hQ; obtain rfl := Option.some.inj ho; clear ho; simp only [fillAt, dstOf, List.getElem?_cons_zero, List.getElem?_cons_succ, Option.bind_some, Act.put, List.setIfInBounds_toArray, List.set_cons_zero, List.set_cons_succ, Nat.zero_add, Nat.reduceAdd] at hQ ⊢; have HQ := Lib.hid hQ; have HD := Lib.hid hd; have HW := Lib.hid hW; have hsW := hW.size; clear hQ hd hW
    have h1 : xs 1 = .pointer (some ⟨w.heap.size, 42, none⟩) := (HD.out 1 (of_decide_eq_true (by kernel_rfl)))
    generalize xs 1 = x1 at h1 HQ ⊢; subst h1
    have hca0 : W.cell? ⟨w.heap.size, 42, none⟩ = some (.slice A l.length c) := (HW.out.cell (p := ⟨w.heap.size, 42, none⟩) hl1).trans hca
    go_wp2
    exact HQ.out _ _ (Ext.refl _) rfl
  · intro o ho xs W hW hd Q' hQ; obtain rfl := Option.some.inj ho; clear ho; simp only [fillAt, dstOf, List.getElem?_cons_zero, List.getElem?_cons_succ, Option.bind_some, Act.put, List.setIfInBounds_toArray, List.set_cons_zero, List.set_cons_succ, Nat.zero_add, Nat.reduceAdd] at hQ ⊢; have HQ := Lib.hid hQ; have HD := Lib.hid hd; have HW := Lib.hid hW; have hsW := hW.size; clear hQ hd hW
    go_wp2
    exact HQ.out _ _ (Ext.refl _) rfl
  · intro o ho xs W hW hd Q' hQ; obtain rfl := Option.some.inj ho; clear ho; simp only [fillAt, dstOf, List.getElem?_cons_zero, List.getElem?_cons_succ, Option.bind_some, Act.put, List.setIfInBounds_toArray, List.set_cons_zero, List.set_cons_succ, Nat.zero_add, Nat.reduceAdd] at hQ ⊢; have HQ := Lib.hid hQ; have HD := Lib.hid hd; have HW := Lib.hid hW; have hsW := hW.size; clear hQ hd hW
    go_wp2
    exact HQ.out _ _ (Ext.refl _) rfl
  · intro o ho xs W hW hd Q' hQ; obtain rfl := Option.some.inj ho; clear ho; simp only [fillAt, dstOf, List.getElem?_cons_zero, List.getElem?_cons_succ, Option.bind_some, Act.put, List.setIfInBounds_toArray, List.set_cons_zero, List.set_cons_succ, Nat.zero_add, Nat.reduceAdd] at hQ ⊢; have HQ := Lib.hid hQ; have HD := Lib.hid hd; have HW := Lib.hid hW; have hsW := hW.size; clear hQ hd hW
    go_wp2
    exact HQ.out _ _ (Ext.refl _) rfl
  · intro o ho xs W hW hd Q' hQ; obtain rfl := Option.some.inj ho; clear ho; simp only [fillAt, dstOf, List.getElem?_cons_zero, List.getElem?_cons_succ, Option.bind_some, Act.put, List.setIfInBounds_toArray, List.set_cons_zero, List.set_cons_succ, Nat.zero_add, Nat.reduceAdd] at hQ ⊢; have HQ := Lib.hid hQ; have HD := Lib.hid hd; have HW := Lib.hid hW; have hsW := hW.size; clear hQ hd hW
    have h5 : xs 5 = .string more := (HD.out 5 (of_decide_eq_true (by kernel_rfl)))
    generalize xs 5 = x5 at h5 HQ ⊢; subst h5
    go_wp2
    exact HQ.out _ _ (Ext.refl _) rfl
  · intro o ho xs W hW hd Q' hQ; obtain rfl := Option.some.inj ho; clear ho; simp only [fillAt, dstOf, List.getElem?_cons_zero, List.getElem?_cons_succ, Option.bind_some, Act.put, List.setIfInBounds_toArray, List.set_cons_zero, List.set_cons_succ, Nat.zero_add, Nat.reduceAdd] at hQ ⊢; have HQ := Lib.hid hQ; have HD := Lib.hid hd; have HW := Lib.hid hW; have hsW := hW.size; clear hQ hd hW
    have h4 : xs 4 = .int .i64 (f : Int) := (HD.out 4 (of_decide_eq_true (by kernel_rfl)))
    generalize xs 4 = x4 at h4 HQ ⊢; subst h4
    have h6 : xs 6 = .int .i64 (more.size : Int) := (HD.out 6 (of_decide_eq_true (by kernel_rfl)))
    generalize xs 6 = x6 at h6 HQ ⊢; subst h6
    go_wp2
    exact HQ.out _ _ (Ext.refl _) rfl
  · intro o ho xs W hW hd Q' hQ; obtain rfl := Option.some.inj ho; clear ho; simp only [fillAt, dstOf, List.getElem?_cons_zero, List.getElem?_cons_succ, Option.bind_some, Act.put, List.setIfInBounds_toArray, List.set_cons_zero, List.set_cons_succ, Nat.zero_add, Nat.reduceAdd] at hQ ⊢; have HQ := Lib.hid hQ; have HD := Lib.hid hd; have HW := Lib.hid hW; have hsW := hW.size; clear hQ hd hW
    have h3 : xs 3 = .int .i64 (f : Int) := (HD.out 3 (of_decide_eq_true (by kernel_rfl)))
    generalize xs 3 = x3 at h3 HQ ⊢; subst h3
    have h7 : xs 7 = .int .i64 ((f : Int) + more.size) := (HD.out 7 (of_decide_eq_true (by kernel_rfl)))
    generalize xs 7 = x7 at h7 HQ ⊢; subst h7
    go_wp2
    exact HQ.out _ _ (Ext.refl _) rfl
  · intro o ho xs W hW hd Q' hQ; obtain rfl := Option.some.inj ho; clear ho; simp only [fillAt, dstOf, List.getElem?_cons_zero, List.getElem?_cons_succ, Option.bind_some, Act.put, List.setIfInBounds_toArray, List.set_cons_zero, List.set_cons_succ, Nat.zero_add, Nat.reduceAdd] at hQ ⊢; have HQ := Lib.hid hQ; have HD := Lib.hid hd; have HW := Lib.hid hW; have hsW := hW.size; clear hQ hd hW
    have h2 : xs 2 = .slice A l.length c := (HD.out 2 (of_decide_eq_true (by kernel_rfl)))
    generalize xs 2 = x2 at h2 HQ ⊢; subst h2
    have h8 : xs 8 = .agg #[.int .i64 (f : Int), .int .i64 ((f : Int) + more.size)] := (HD.out 8 (of_decide_eq_true (by kernel_rfl)))
    generalize xs 8 = x8 at h8 HQ ⊢; subst h8
    go_wp2_with (go_at_call 64; refine (add_any A c l ((f : Int), (f : Int) + more.size) _ HA.out (fun s hs => by
        rcases List.mem_append.1 hs with hs | hs
        · exact HBd.out s hs
        · simp at hs; subst hs; exact ⟨by show (-4611686018427387904 : Int) ≤ f; omega, by show (f : Int) ≤ _; omega⟩) (by omega) (HR.out.on (HX.out.trans HW.out))).mono ?_; rintro e' w1 ⟨A', c', out, rfl, HSo, hol', ho, hx⟩)
    exact HQ.out _ _ hx ⟨A', c', out, rfl, ⟨HSo.out, hol'⟩, ho.lower (by have := HBB.out.1; have := HW.out.size; omega)⟩
  · intro o ho xs W hW hd Q' hQ; obtain rfl := Option.some.inj ho; clear ho; simp only [fillAt, dstOf, List.getElem?_cons_zero, List.getElem?_cons_succ, Option.bind_some, Act.put, List.setIfInBounds_toArray, List.set_cons_zero, List.set_cons_succ, Nat.zero_add, Nat.reduceAdd] at hQ ⊢; have HQ := Lib.hid hQ; have HD := Lib.hid hd; have HW := Lib.hid hW; have hsW := hW.size; clear hQ hd hW
    go_wp2
    exact HQ.out _ _ (Ext.refl _) rfl
  · intro o ho xs W hW hd Q' hQ; obtain rfl := Option.some.inj ho; clear ho; simp only [fillAt, dstOf, List.getElem?_cons_zero, List.getElem?_cons_succ, Option.bind_some, Act.put, List.setIfInBounds_toArray, List.set_cons_zero, List.set_cons_succ, Nat.zero_add, Nat.reduceAdd] at hQ ⊢; have HQ := Lib.hid hQ; have HD := Lib.hid hd; have HW := Lib.hid hW; have hsW := hW.size; clear hQ hd hW
    have h0 : xs 0 = .agg (entC e) := (HD.out 0 (of_decide_eq_true (by kernel_rfl)))
    obtain ⟨A', c', out, h9, ⟨hp1, hp2⟩, ho⟩ : ∃ (A' : Option Addr) (c' : Nat) (out : List Sp), xs 9 = .slice A' out.length c' ∧ ((∃ srt, SortedOf (l ++ [((f : Int), (f : Int) + more.size)]) srt ∧ out = Sp.joined srt) ∧ out.length ≤ l.length + 1) ∧ OwnsSp (w.heap.size + 2) W A' c' out := (HD.out 9 (of_decide_eq_true (by kernel_rfl)))
    have h10 : xs 10 = .slice (some ⟨w.heap.size + 1 + 1, 0, none⟩) e.bytes.size cap := (HD.out 10 (of_decide_eq_true (by kernel_rfl)))
    generalize xs 0 = x0 at h0 HQ ⊢; subst h0
    generalize xs 9 = x9 at h9 HQ ⊢; subst h9
    generalize xs 10 = x10 at h10 HQ ⊢; subst h10
    have HP1 := Lib.hid hp1
    have HO := Lib.hid ho
    clear hp1 ho
    go_wp2_with (go_at_call 63; rw [← HOl.out]; refine (HS.out A' c' out (some ⟨w.heap.size + 1 + 1, 0, none⟩) cap _ (HX.out.trans HW.out) HP1.out hp2 HO.out ((HBB.out.ext HW.out).reads)).mono ?_; rintro e' w1 ⟨v, rfl, hrs, hx⟩)
    rw [HOl.out]
    exact HQ.out _ _ hx ⟨v, rfl, hrs⟩
  · intro o ho xs W hW hd Q' hQ; obtain rfl := Option.some.inj ho; clear ho; simp only [fillAt, dstOf, List.getElem?_cons_zero, List.getElem?_cons_succ, Option.bind_some, Act.put, List.setIfInBounds_toArray, List.set_cons_zero, List.set_cons_succ, Nat.zero_add, Nat.reduceAdd] at hQ ⊢; have HQ := Lib.hid hQ; have HD := Lib.hid hd; have HW := Lib.hid hW; have hsW := hW.size; clear hQ hd hW
    obtain ⟨u, h11, hu⟩ : ∃ u, xs 11 = .tuple #[u, .int .i64 N] ∧ RS.S u W := (HD.out 11 (of_decide_eq_true (by kernel_rfl)))
    generalize xs 11 = x11 at h11 HQ ⊢; subst h11
    go_wp2
    exact HQ.out _ _ (Ext.refl _) hu
  · intro o ho xs W hW hd Q' hQ; obtain rfl := Option.some.inj ho; clear ho; simp only [fillAt, dstOf, List.getElem?_cons_zero, List.getElem?_cons_succ, Option.bind_some, Act.put, List.setIfInBounds_toArray, List.set_cons_zero, List.set_cons_succ, Nat.zero_add, Nat.reduceAdd] at hQ ⊢; have HQ := Lib.hid hQ; have HD := Lib.hid hd; have HW := Lib.hid hW; have hsW := hW.size; clear hQ hd hW
    obtain ⟨u, h11, hu⟩ : ∃ u, xs 11 = .tuple #[u, .int .i64 N] ∧ RS.S u W := (HD.out 11 (of_decide_eq_true (by kernel_rfl)))
    generalize xs 11 = x11 at h11 HQ ⊢; subst h11
    go_wp2
    exact HQ.out _ _ (Ext.refl _) rfl
  · intro xs W hW hS
    have h12 : RS.S (xs 12) W := hS 12 (by omega)
    have h13 : xs 13 = .int .i64 N := hS 13 (by omega)
    obtain ⟨x, hx, hf⟩ := HRS.out _ _ h12
    simp only [fillAt, dstOf, List.getElem?_cons_zero, List.getElem?_cons_succ, Option.bind_some, Act.put, List.setIfInBounds_toArray, List.set_cons_zero, List.set_cons_succ, Nat.zero_add, Nat.reduceAdd, List.drop_succ_cons, List.drop_zero]
    generalize xs 12 = x12 at *; subst hx
    generalize xs 13 = x13 at *; subst h13
    have H12 := Lib.hid h12
    have HW := Lib.hid hW
    have hrr : RowAt W (w.heap.size + 1) (entC noEn) := HRb.out.ext hW
    have hroom3 : roomOf W (w.heap.size + 1) 0 45 = true := by rw [hrr.room]; rfl
    have HRR := Lib.hid hrr
    clear h12 hW hS hrr
    go_wp2
    refine post_two (v1 := .agg (entC x)) (v2 := .int .i64 N) Tryz.results28 rfl ⟨_, rfl, ent_loaded (row_stored HRR.out (ent_size _) (ent_size _))⟩ rfl ⟨_, rfl, HRS2.out _ _ _ _ (by omega) H12.out, (HX.out.trans HW.out).setCells (by omega) _ _⟩
end Go.Proofs.YtpjacgcaibaggaaGreatDoor

namespace Go.Proofs.YtpjacgcaibaggaaGreatDoor
open Go.RowKit Go.Shelf
open Go.Proofs
open Go.Proofs.Sp (Sp)

/-- A set whose bytes lie below n. -/
theorem lastB_iff {l : List Sp} {n : Int} (hs : Sp.IsSet l) : lastB l n = true ↔ ∀ s ∈ l, s.2 ≤ n := by
  unfold lastB
  simp only [Bool.or_eq_true, decide_eq_true_eq]
  constructor
  · rintro (h | h) s hs'
    · rw [List.eq_nil_of_length_eq_zero h] at hs'; cases hs'
    · obtain ⟨i, hi, rfl⟩ := List.getElem_of_mem hs'
      rw [getD_at (show l.length - 1 < l.length by omega)] at h
      by_cases e : i = l.length - 1
      · subst e; exact h
      · have h1 := List.pairwise_iff_getElem.1 hs.1 i (l.length - 1) hi (by omega) (by omega)
        have h2 := hs.2 _ (List.getElem_mem (show l.length - 1 < l.length by omega))
        omega
  · intro h
    by_cases h0 : l.length = 0
    · exact .inl h0
    · right
      rw [getD_at (show l.length - 1 < l.length by omega)]
      exact h _ (List.getElem_mem _)
theorem setIn_iff {l : List Sp} {n : Int} (hn : n ≤ 1099511627776) : (setB l = true ∧ lastB l n = true) ↔ SetIn l n := by
  constructor
  · rintro ⟨h1, h2⟩
    have h3 := setB_set h1
    exact ⟨h3.1, fun s hs => ⟨(h3.2 s hs).1, (lastB_iff h3.1).1 h2 s hs⟩⟩
  · intro h
    refine ⟨set_setB ⟨h.1, fun s hs => ⟨(h.2 s hs).1, by have := (h.2 s hs).2; omega⟩⟩, (lastB_iff h.1).2 (fun s hs => (h.2 s hs).2)⟩

/-- A valid entry. -/
structure Val (e : En) (l : List Sp) : Prop where
  rt : rightB e.st = true
  z0 : 0 ≤ e.st.size
  sz : e.st.size ≤ 65536
  bs : (e.bytes.size : Int) = e.st.size
  si : SetIn l e.st.size
  zr : ∀ k : Nat, k < e.bytes.size → (bts e.bytes).getD k 0 = 0 ∨ Sp.mem l k
  wh : e.whole = fullB l e.st.size
  dg : e.whole = true → Wire.digest 34 [bts e.bytes] = e.st.body
theorem rightB_z {s : St} (h : rightB s = true) : 0 ≤ s.size ∧ s.size ≤ 1099511627776 := by
  simp only [rightB, Bool.and_eq_true, decide_eq_true_eq] at h
  omega
theorem zeroB_iff {b : ByteArray} {l : List Sp} : zeroB b l = true ↔ ∀ k : Nat, k < b.size → (bts b).getD k 0 = 0 ∨ Sp.mem l k := by
  unfold zeroB zeroAt
  rw [List.all_eq_true]
  constructor
  · intro h k hk
    have := h k (List.mem_range.2 hk)
    simp only [Bool.or_eq_true, decide_eq_true_eq, hasB_iff] at this
    exact this
  · intro h k hk
    simp only [Bool.or_eq_true, decide_eq_true_eq, hasB_iff]
    exact h k (List.mem_range.1 hk)
theorem val_iff {e : En} {l : List Sp} : validB e l = true ↔ Val e l := by
  unfold validB
  simp only [Bool.and_eq_true, decide_eq_true_eq, beq_iff_eq, Bool.or_eq_true, Bool.not_eq_true']
  constructor
  · rintro ⟨⟨⟨⟨⟨⟨⟨h1, h2⟩, h3⟩, h4⟩, h5⟩, h6⟩, h7⟩, h8⟩
    refine ⟨h1, (rightB_z h1).1, h3, h4, (setIn_iff (by omega)).1 ⟨h2, h5⟩, zeroB_iff.1 h6, h7, fun hw => ?_⟩
    rw [h7] at hw
    rcases h8 with h8 | h8
    · rw [hw] at h8; cases h8
    · exact h8
  · intro h
    have hsz := h.sz
    obtain ⟨k1, k2⟩ := (setIn_iff (by omega)).2 h.si
    refine ⟨⟨⟨⟨⟨⟨⟨h.rt, k1⟩, h.sz⟩, h.bs⟩, k2⟩, zeroB_iff.2 h.zr⟩, h.wh⟩, ?_⟩
    cases hf : fullB l e.st.size with
    | false => exact .inl rfl
    | true => exact .inr (h.dg (h.wh.trans hf))

/-! ### Bytes laid over -/
def overB (b : ByteArray) (p : Nat) (x : ByteArray) : ByteArray := strOfNums (Sha.over (bts b) p (bts x))
theorem byt_bts (b : ByteArray) : Byt (bts b) := bts_byte b
theorem over_byt {a x : List Int} (p : Nat) (ha : Byt a) (hx : Byt x) : Byt (Sha.over a p x) := by
  intro y hy
  unfold Sha.over at hy
  rcases List.mem_append.1 hy with hy | hy
  · rcases List.mem_append.1 hy with hy | hy
    · exact ha y (List.mem_of_mem_take hy)
    · exact hx y hy
  · exact ha y (List.mem_of_mem_drop hy)
theorem bts_over (b : ByteArray) (p : Nat) (x : ByteArray) : bts (overB b p x) = Sha.over (bts b) p (bts x) := bts_nums (over_byt p (byt_bts b) (byt_bts x))
theorem overB_size {b x : ByteArray} {p : Nat} (h : p + x.size ≤ b.size) : (overB b p x).size = b.size := by
  rw [← bts_length, bts_over, over_len (by rw [bts_length, bts_length]; exact h), bts_length]
theorem overB_get {b x : ByteArray} {p j : Nat} (h : p + x.size ≤ b.size) (hj : j < b.size) : (bts (overB b p x)).getD j 0 = if p ≤ j ∧ j < p + x.size then (bts x).getD (j - p) 0 else (bts b).getD j 0 := by
  rw [bts_over, over_getD (by rw [bts_length, bts_length]; exact h) (by rw [bts_length]; exact hj), bts_length]
theorem overB_none (b : ByteArray) (p : Nat) (x : ByteArray) (h : x.size = 0) : overB b p x = b := by
  have : bts x = [] := List.eq_nil_of_length_eq_zero (by rw [bts_length]; exact h)
  unfold overB
  rw [this]
  simp [Sha.over, nums_bts]
theorem bts_inj {a b : ByteArray} (h : bts a = bts b) : a = b := by rw [← nums_bts a, ← nums_bts b, h]
theorem bts_ext {a b : ByteArray} (hs : a.size = b.size) (h : ∀ k, k < a.size → (bts a).getD k 0 = (bts b).getD k 0) : a = b := by
  apply bts_inj
  apply List.ext_getElem (by rw [bts_length, bts_length, hs])
  intro i h1 h2
  have := h i (by rwa [bts_length] at h1)
  rw [List.getD_eq_getElem?_getD, List.getD_eq_getElem?_getD, List.getElem?_eq_getElem h1, List.getElem?_eq_getElem h2] at this
  simpa using this
theorem bts_app (a b : ByteArray) : bts (a ++ b) = bts a ++ bts b := by
  unfold bts
  rw [ByteArray.data_append, Array.toList_append, List.map_append]
theorem bts_ext_at (b : ByteArray) (i j : Nat) : bts (b.extract i j) = ((bts b).drop i).take (j - i) := by
  unfold bts
  rw [Lib.extract_eq, List.map_take, List.map_drop]
/-- What the specification lays together is what the program lays over. -/
theorem cat_over {b x : ByteArray} {p : Nat} (h : p + x.size ≤ b.size) : b.extract 0 p ++ x ++ b.extract (p + x.size) b.size = overB b p x := by
  apply bts_inj
  rw [bts_over, bts_app, bts_app, bts_ext_at, bts_ext_at, List.drop_zero, Nat.sub_zero]
  unfold Sha.over
  rw [bts_length, List.take_of_length_le (i := b.size - (p + x.size)) (by rw [List.length_drop, bts_length]; omega)]

/-! ### Settling -/
structure Res where
  e : En
  l : List Sp
  n : Int
def settleN (e : En) (l : List Sp) (b : ByteArray) : Res :=
  if fullB l e.st.size = true then
    if Wire.digest 34 [bts b] = e.st.body then ⟨{ e with bytes := b, whole := true }, l, 0⟩ else ⟨emptyEn e.st e.soft, [], 8⟩
  else ⟨{ e with bytes := b }, l, 0⟩
theorem bts_zb (n : Nat) : bts (zb n) = List.replicate n 0 := by
  have h : ∀ n, Lib.repeatL ([0] : List UInt8) n = List.replicate n 0 := by
    intro n
    induction n with
    | zero => rfl
    | succ n ih => rw [Lib.repeatL, ih]; rfl
  unfold bts zb
  rw [h]
  simp
theorem full_nil {n : Int} : fullB [] n = decide (n ≤ 0) := by
  rw [Bool.eq_iff_iff, fullB_iff, decide_eq_true_eq]
  constructor
  · intro h
    by_cases h0 : n ≤ 0
    · exact h0
    · exact absurd (h 0 (by omega) (by omega)) (Sp.mem_nil 0)
  · intro h x h0 h1
    omega
theorem empty_val (s : St) (so : Bool) (h : rightB s = true) (h1 : s.size ≤ 65536) (h2 : s.size = 0 → Wire.digest 34 [[]] = s.body) : Val (emptyEn s so) [] := by
  have h0 := (rightB_z h).1
  have hz : (zb s.size.toNat).size = s.size.toNat := by rw [← bts_length, bts_zb, List.length_replicate]
  refine ⟨h, h0, h1, by show ((zb s.size.toNat).size : Int) = s.size; rw [hz]; omega, SetIn.nil _, fun k hk => .inl ?_, ?_, fun hw => ?_⟩
  · show (bts (zb s.size.toNat)).getD k 0 = 0
    rw [bts_zb, List.getD_eq_getElem?_getD, List.getElem?_replicate]
    split <;> rfl
  · show decide (s.size = 0) = fullB [] s.size
    rw [full_nil, decide_eq_decide]
    omega
  · have e : s.size = 0 := by simpa [emptyEn] using hw
    show Wire.digest 34 [bts (zb s.size.toNat)] = s.body
    rw [bts_zb, e]
    exact h2 e
theorem settle_val {e : En} {l : List Sp} {b : ByteArray} (hr : rightB e.st = true) (h0 : 0 < e.st.size) (h1 : e.st.size ≤ 65536) (hw : e.whole = false) (hb : (b.size : Int) = e.st.size) (hs : SetIn l e.st.size)
    (hz : ∀ k : Nat, k < b.size → (bts b).getD k 0 = 0 ∨ Sp.mem l k) : Val (settleN e l b).e (settleN e l b).l := by
  unfold settleN
  by_cases hf : fullB l e.st.size = true
  · rw [if_pos hf]
    by_cases hd : Wire.digest 34 [bts b] = e.st.body
    · rw [if_pos hd]
      exact ⟨hr, by show 0 ≤ e.st.size; omega, h1, hb, hs, hz, hf.symm, fun _ => hd⟩
    · rw [if_neg hd]
      exact empty_val e.st e.soft hr h1 (fun e => by omega)
  · rw [if_neg hf]
    refine ⟨hr, by show 0 ≤ e.st.size; omega, h1, hb, hs, hz, ?_, fun h => ?_⟩
    · show e.whole = _
      rw [hw]; simpa using hf
    · have : e.whole = true := h
      rw [hw] at this; cases this
/-- What Put returns. -/
def putN (e : En) (l : List Sp) (f : Int) (more : ByteArray) : Res :=
  if e.whole = true then ⟨e, l, 4⟩
  else if f < 0 ∨ e.st.size < f ∨ e.st.size < f + more.size then ⟨e, l, 1⟩
  else settleN e (Sp.rAdd l (f, f + more.size)) (overB e.bytes f.toNat more)
theorem Val.pos {e : En} {l : List Sp} (h : Val e l) (hw : e.whole = false) : 0 < e.st.size := by
  have h0 := h.z0
  rcases Int.lt_or_eq_of_le h0 with k | k
  · exact k
  · have h1 : fullB l e.st.size = true := fullB_iff.2 (fun x a b => by omega)
    rw [← h.wh, hw] at h1; cases h1
theorem put_val {e : En} {l : List Sp} (h : Val e l) (f : Int) (more : ByteArray) : Val (putN e l f more).e (putN e l f more).l := by
  unfold putN
  by_cases hw : e.whole = true
  · rw [if_pos hw]; exact h
  · rw [if_neg hw]
    have hw' : e.whole = false := by simpa using hw
    by_cases hc : f < 0 ∨ e.st.size < f ∨ e.st.size < f + more.size
    · rw [if_pos hc]; exact h
    · rw [if_neg hc]
      have hb := h.bs
      have hp : f.toNat + more.size ≤ e.bytes.size := by omega
      obtain ⟨k1, k2⟩ := rAdd_in (f := f) (t := f + more.size) h.si (by omega) (by omega)
      refine settle_val h.rt (h.pos hw') h.sz hw' (by rw [overB_size hp]; exact hb) k1 fun k hk => ?_
      rw [overB_size hp] at hk
      rw [overB_get hp hk, k2]
      by_cases hc : f.toNat ≤ k ∧ k < f.toNat + more.size
      · exact .inr (.inr ⟨by omega, by omega⟩)
      · rw [if_neg hc]
        rcases h.zr k hk with q | q
        · exact .inl q
        · exact .inr (.inl q)
end Go.Proofs.YtpjacgcaibaggaaGreatDoor

namespace Go.Proofs.YtpjacgcaibaggaaGreatDoor
open Go.RowKit Go.Shelf
open Go.Proofs
open Go.Proofs.Sp (Sp)

/-! ### Texts in order -/
theorem cmp_self : ∀ a : List UInt8, Lib.compareBytes a a = 0
  | [] => rfl
  | x :: a => by
    unfold Lib.compareBytes
    rw [if_neg (UInt8.lt_irrefl x), if_neg (UInt8.lt_irrefl x)]
    exact cmp_self a
theorem cmp_anti : ∀ a b : List UInt8, Lib.compareBytes b a = - Lib.compareBytes a b
  | [], [] => rfl
  | [], _ :: _ => rfl
  | _ :: _, [] => rfl
  | x :: a, y :: b => by
    unfold Lib.compareBytes
    by_cases h1 : x < y
    · have h2 : ¬ y < x := UInt8.lt_asymm h1
      rw [if_pos h1, if_neg h2, if_pos h1]; rfl
    · by_cases h2 : y < x
      · rw [if_pos h2, if_neg h1, if_pos h2]
      · rw [if_neg h1, if_neg h2, if_neg h1, if_neg h2]; exact cmp_anti a b
theorem cmp_three : ∀ a b : List UInt8, Lib.compareBytes a b = -1 ∨ Lib.compareBytes a b = 0 ∨ Lib.compareBytes a b = 1
  | [], [] => .inr (.inl rfl)
  | [], _ :: _ => .inl rfl
  | _ :: _, [] => .inr (.inr rfl)
  | x :: a, y :: b => by
    unfold Lib.compareBytes
    by_cases h1 : x < y
    · rw [if_pos h1]; exact .inl rfl
    · by_cases h2 : y < x
      · rw [if_neg h1, if_pos h2]; exact .inr (.inr rfl)
      · rw [if_neg h1, if_neg h2]; exact cmp_three a b
theorem cmp_less : ∀ a b : List UInt8, Op.bytesLess a b = decide (Lib.compareBytes a b < 0)
  | [], [] => rfl
  | [], _ :: _ => rfl
  | _ :: _, [] => rfl
  | x :: a, y :: b => by
    unfold Lib.compareBytes Op.bytesLess
    by_cases h1 : x < y
    · rw [if_pos h1]; simp [h1]
    · by_cases h2 : y < x
      · have h3 : ¬ x = y := fun e => by subst e; exact h1 h2
        rw [if_neg h1, if_pos h2]; simp [h1, h3]
      · have h3 : x = y := UInt8.le_antisymm (UInt8.not_lt.1 h2) (UInt8.not_lt.1 h1)
        subst h3
        rw [if_neg h1, if_neg h2]; simp [h1, cmp_less a b]
theorem cmp_zero : ∀ {a b : List UInt8}, Lib.compareBytes a b = 0 → a = b
  | [], [], _ => rfl
  | [], _ :: _, h => by cases h
  | _ :: _, [], h => by cases h
  | x :: a, y :: b, h => by
    unfold Lib.compareBytes at h
    by_cases h1 : x < y
    · rw [if_pos h1] at h; cases h
    · by_cases h2 : y < x
      · rw [if_neg h1, if_pos h2] at h; cases h
      · have h3 : x = y := UInt8.le_antisymm (UInt8.not_lt.1 h2) (UInt8.not_lt.1 h1)
        rw [if_neg h1, if_neg h2] at h
        rw [h3, cmp_zero h]
def ordB (a b : ByteArray) : Int := Lib.compareBytes a.data.toList b.data.toList
def ordL (a b : List Int) : Int := Lib.compareBytes (u8s a) (u8s b)
def firstN : List Int → Int
  | [] => 0
  | n :: r => if n = 0 then firstN r else n
/-- What the program compares. -/
def cmpL (a b : St) : List Int := [Lib.compareInt a.lo b.lo, Lib.compareInt a.hi b.hi, ordL a.body b.body, Lib.compareInt a.size b.size, Lib.compareInt a.status b.status, ordB a.tags b.tags, Lib.compareInt a.gate b.gate, Lib.compareInt a.serial b.serial, ordL a.seal_ b.seal_]
def cmpN (a b : St) : Int := firstN (cmpL a b)
/-- What the specification compares. -/
def rcmpL (a b : St) : List Int := [a.lo - b.lo, a.hi - b.hi, ordL a.body b.body, a.size - b.size, a.status - b.status, ordB a.tags b.tags, a.gate - b.gate, a.serial - b.serial, ordL a.seal_ b.seal_]
def rcmpN (a b : St) : Int := firstN (rcmpL a b)
def alike (x y : Int) : Prop := (x < 0 ↔ y < 0) ∧ (0 < x ↔ 0 < y)
theorem alike.refl (x : Int) : alike x x := ⟨Iff.rfl, Iff.rfl⟩
theorem alike_int (x y : Int) : alike (x - y) (Lib.compareInt x y) := by
  unfold alike Lib.compareInt
  split
  · omega
  · split <;> omega
theorem alike_first : ∀ {l m : List Int}, l.length = m.length → (∀ p ∈ l.zip m, alike p.1 p.2) → alike (firstN l) (firstN m)
  | [], [], _, _ => alike.refl 0
  | [], _ :: _, h, _ => by cases h
  | _ :: _, [], h, _ => by cases h
  | x :: l, y :: m, h, k => by
    have hxy : alike x y := k (x, y) (by simp)
    have ih := alike_first (l := l) (m := m) (by simpa using h) (fun p hp => k p (by simp [hp]))
    unfold firstN
    unfold alike at hxy
    by_cases hx : x = 0
    · rw [if_pos hx, if_pos (by omega)]; exact ih
    · rw [if_neg hx, if_neg (by omega)]; exact hxy
theorem cmp_alike (a b : St) : alike (rcmpN a b) (cmpN a b) := by
  refine alike_first rfl fun p hp => ?_
  simp only [rcmpL, cmpL, List.zip_cons_cons, List.zip_nil_right, List.mem_cons, List.not_mem_nil, or_false] at hp
  rcases hp with rfl | rfl | rfl | rfl | rfl | rfl | rfl | rfl | rfl
  all_goals first | exact alike_int _ _ | exact alike.refl _
theorem first_neg : ∀ {l m : List Int}, l.length = m.length → (∀ p ∈ l.zip m, p.1 = - p.2) → firstN l = - firstN m
  | [], [], _, _ => rfl
  | [], _ :: _, h, _ => by cases h
  | _ :: _, [], h, _ => by cases h
  | x :: l, y :: m, h, k => by
    have hxy : x = - y := k (x, y) (by simp)
    have ih := first_neg (l := l) (m := m) (by simpa using h) (fun p hp => k p (by simp [hp]))
    unfold firstN
    by_cases hx : x = 0
    · rw [if_pos hx, if_pos (by omega)]; exact ih
    · rw [if_neg hx, if_neg (by omega)]; exact hxy
theorem int_anti (x y : Int) : Lib.compareInt x y = - Lib.compareInt y x := by
  unfold Lib.compareInt
  split <;> split <;> first | omega | (split <;> omega)
theorem cmpN_anti (a b : St) : cmpN b a = - cmpN a b := by
  refine first_neg rfl fun p hp => ?_
  simp only [cmpL, List.zip_cons_cons, List.zip_nil_right, List.mem_cons, List.not_mem_nil, or_false] at hp
  rcases hp with rfl | rfl | rfl | rfl | rfl | rfl | rfl | rfl | rfl
  all_goals first | exact int_anti _ _ | exact cmp_anti _ _

/-! ### Merging -/
def addAll (la lb : List Sp) : List Sp := lb.foldl Sp.rAdd la
def mrgB (b : ByteArray) (l : List Sp) (d : ByteArray) : ByteArray := l.foldl (fun d s => overB d s.1.toNat (b.extract s.1.toNat s.2.toNat)) d
theorem addAll_snoc (la lb : List Sp) (k : Nat) (h : k < lb.length) : addAll la (lb.take (k + 1)) = Sp.rAdd (addAll la (lb.take k)) lb[k] := by
  unfold addAll
  rw [List.take_succ_eq_append_getElem h, List.foldl_append]
  rfl
theorem mrgB_snoc (b : ByteArray) (l : List Sp) (d : ByteArray) (k : Nat) (h : k < l.length) : mrgB b (l.take (k + 1)) d = overB (mrgB b (l.take k) d) l[k].1.toNat (b.extract l[k].1.toNat l[k].2.toNat) := by
  unfold mrgB
  rw [List.take_succ_eq_append_getElem h, List.foldl_append]
  rfl
theorem addAll_in {n : Int} : ∀ (lb : List Sp) {la : List Sp}, SetIn la n → (∀ s ∈ lb, 0 ≤ s.1 ∧ s.2 ≤ n) → SetIn (addAll la lb) n ∧ ∀ x, Sp.mem (addAll la lb) x ↔ Sp.mem la x ∨ Sp.mem lb x
  | [], la, h, _ => ⟨h, fun x => ⟨.inl, fun k => k.elim id (fun k => (Sp.mem_nil x k).elim)⟩⟩
  | s :: lb, la, h, hb => by
    have hs := hb s (by simp)
    obtain ⟨k1, k2⟩ := rAdd_in (f := s.1) (t := s.2) h hs.1 hs.2
    obtain ⟨k3, k4⟩ := addAll_in lb k1 (fun t ht => hb t (by simp [ht]))
    refine ⟨k3, fun x => (k4 x).trans ?_⟩
    rw [k2, Sp.mem_cons, or_assoc]
theorem extract_sz {b : ByteArray} {i j : Nat} (h : j ≤ b.size) : (b.extract i j).size = j - i := by
  rw [← bts_length, bts_ext_at, List.length_take, List.length_drop, bts_length]; omega
theorem mrg_get (b : ByteArray) : ∀ (l : List Sp) (d : ByteArray), (∀ s ∈ l, 0 ≤ s.1 ∧ s.1 < s.2 ∧ s.2 ≤ b.size) → d.size = b.size → (mrgB b l d).size = b.size ∧
    ∀ k : Nat, k < b.size → (bts (mrgB b l d)).getD k 0 = if hasB l k then (bts b).getD k 0 else (bts d).getD k 0
  | [], d, _, hd => ⟨hd, fun k hk => by simp [hasB]; rfl⟩
  | s :: l, d, h, hd => by
    have hs := h s (by simp)
    have hx : (b.extract s.1.toNat s.2.toNat).size = s.2.toNat - s.1.toNat := extract_sz (by omega)
    have hp : s.1.toNat + (b.extract s.1.toNat s.2.toNat).size ≤ d.size := by omega
    obtain ⟨k1, k2⟩ := mrg_get b l (overB d s.1.toNat (b.extract s.1.toNat s.2.toNat)) (fun t ht => h t (by simp [ht])) (by rw [overB_size hp, hd])
    refine ⟨k1, fun k hk => ?_⟩
    show (bts (mrgB b l (overB d s.1.toNat (b.extract s.1.toNat s.2.toNat)))).getD k 0 = _
    rw [k2 k hk, overB_get hp (by omega)]
    have e : hasB (s :: l) k = (inB s k || hasB l k) := rfl
    rw [e]
    by_cases hl : hasB l k = true
    · rw [if_pos hl, if_pos (by rw [hl, Bool.or_true])]
    · rw [if_neg hl]
      have hl' : hasB l k = false := by simpa using hl
      rw [hl', Bool.or_false]
      by_cases hc : s.1.toNat ≤ k ∧ k < s.1.toNat + (b.extract s.1.toNat s.2.toNat).size
      · have hin : inB s k = true := by simp only [inB, Bool.and_eq_true, decide_eq_true_eq]; omega
        rw [if_pos hc, if_pos hin, bts_ext_at, List.getD_eq_getElem?_getD, List.getElem?_take, if_pos (by omega), List.getElem?_drop, show s.1.toNat + (k - s.1.toNat) = k by omega, ← List.getD_eq_getElem?_getD]
      · have hin : ¬ inB s k = true := by simp only [inB, Bool.and_eq_true, decide_eq_true_eq]; omega
        rw [if_neg hc, if_neg hin]
def sameN (a b : St) : Bool := decide (a.addr = b.addr) && decide (a.var = b.var) && decide (a.status = b.status) && decide (a.size = b.size) && decide (a.body = b.body) && decide (a.tags = b.tags)
def bestN (a b : En) (la lb : List Sp) : Res :=
  let x : Res := if cmpN a.st b.st < 0 then ⟨b, lb, 0⟩ else ⟨a, la, 0⟩
  if cmpN a.st b.st = 0 then { x with e := { x.e with soft := a.soft || b.soft } } else x
def mergeN (a b : En) (la lb : List Sp) : Res :=
  if ¬ (a.st.addr = b.st.addr ∧ a.st.var = b.st.var) then ⟨noEn, [], 5⟩
  else if sameN a.st b.st = false then bestN a b la lb
  else if a.whole = true then ⟨{ (bestN a b la lb).e with bytes := a.bytes, whole := true }, la, 0⟩
  else if b.whole = true then ⟨{ (bestN a b la lb).e with bytes := b.bytes, whole := true }, lb, 0⟩
  else { settleN (bestN a b la lb).e (addAll la lb) (mrgB b.bytes lb a.bytes) with n := 0 }
theorem best_is (a b : En) (la lb : List Sp) : ((bestN a b la lb).e.st = a.st ∧ (bestN a b la lb).e.bytes = a.bytes ∧ (bestN a b la lb).e.whole = a.whole ∧ (bestN a b la lb).l = la) ∨ ((bestN a b la lb).e.st = b.st ∧ (bestN a b la lb).e.bytes = b.bytes ∧ (bestN a b la lb).e.whole = b.whole ∧ (bestN a b la lb).l = lb) := by
  unfold bestN
  by_cases h1 : cmpN a.st b.st < 0
  · simp only [if_pos h1]
    rw [if_neg (by omega)]
    exact .inr ⟨rfl, rfl, rfl, rfl⟩
  · simp only [if_neg h1]
    split
    · exact .inl ⟨rfl, rfl, rfl, rfl⟩
    · exact .inl ⟨rfl, rfl, rfl, rfl⟩
theorem val_of {e f : En} {l : List Sp} (h : Val e l) (h1 : f.st = e.st) (h2 : f.bytes = e.bytes) (h3 : f.whole = e.whole) : Val f l := by
  refine ⟨by rw [h1]; exact h.rt, by rw [h1]; exact h.z0, by rw [h1]; exact h.sz, by rw [h1, h2]; exact h.bs, by rw [h1]; exact h.si, by rw [h2]; exact h.zr, by rw [h1, h3]; exact h.wh, by rw [h1, h2, h3]; exact h.dg⟩
theorem sameN_iff {a b : St} (h : sameN a b = true) : a.size = b.size ∧ a.body = b.body := by
  simp only [sameN, Bool.and_eq_true, decide_eq_true_eq] at h
  exact ⟨h.1.1.2, h.1.2⟩
theorem merge_val {a b : En} {la lb : List Sp} (ha : Val a la) (hb : Val b lb) (hn : (mergeN a b la lb).n = 0) : Val (mergeN a b la lb).e (mergeN a b la lb).l := by
  have hbest : Val (bestN a b la lb).e (bestN a b la lb).l := by
    rcases best_is a b la lb with ⟨h1, h2, h3, h4⟩ | ⟨h1, h2, h3, h4⟩
    · rw [h4]; exact val_of ha h1 h2 h3
    · rw [h4]; exact val_of hb h1 h2 h3
  unfold mergeN at hn ⊢
  by_cases c1 : a.st.addr = b.st.addr ∧ a.st.var = b.st.var
  · rw [if_neg (fun h => h c1)] at hn ⊢
    by_cases c2 : sameN a.st b.st = false
    · rw [if_pos c2] at hn ⊢; exact hbest
    · rw [if_neg c2] at hn ⊢
      obtain ⟨s1, s2⟩ := sameN_iff (by simpa using c2)
      have hz : (bestN a b la lb).e.st.size = a.st.size ∧ (bestN a b la lb).e.st.body = a.st.body := by
        rcases best_is a b la lb with ⟨h1, _⟩ | ⟨h1, _⟩
        · rw [h1]; exact ⟨rfl, rfl⟩
        · rw [h1]; exact ⟨s1.symm, s2.symm⟩
      by_cases c3 : a.whole = true
      · rw [if_pos c3] at hn ⊢
        have hf := ha.wh
        rw [c3] at hf
        refine ⟨hbest.rt, hbest.z0, hbest.sz, ?_, ?_, ha.zr, ?_, fun _ => ?_⟩
        · show (a.bytes.size : Int) = _; rw [hz.1]; exact ha.bs
        · show SetIn la _; rw [hz.1]; exact ha.si
        · show true = fullB la (bestN a b la lb).e.st.size; rw [hz.1]; exact hf
        · show _ = (bestN a b la lb).e.st.body; rw [hz.2]; exact ha.dg c3
      · rw [if_neg c3] at hn ⊢
        by_cases c4 : b.whole = true
        · rw [if_pos c4] at hn ⊢
          have hf := hb.wh
          rw [c4] at hf
          refine ⟨hbest.rt, hbest.z0, hbest.sz, ?_, ?_, hb.zr, ?_, fun _ => ?_⟩
          · show (b.bytes.size : Int) = _; rw [hz.1, s1]; exact hb.bs
          · show SetIn lb _; rw [hz.1, s1]; exact hb.si
          · show true = fullB lb (bestN a b la lb).e.st.size; rw [hz.1, s1]; exact hf
          · show _ = (bestN a b la lb).e.st.body; rw [hz.2, s2]; exact hb.dg c4
        · rw [if_neg c4] at hn ⊢
          have ha3 : a.whole = false := by simpa using c3
          have hb3 : b.whole = false := by simpa using c4
          have hbs : ∀ s ∈ lb, 0 ≤ s.1 ∧ s.1 < s.2 ∧ s.2 ≤ b.bytes.size := fun s hs => by
            have h1 := hb.si.1.2 s hs
            have h2 := hb.si.2 s hs
            have h3 := hb.bs
            omega
          have hd : a.bytes.size = b.bytes.size := by have h1 := ha.bs; have h2 := hb.bs; omega
          obtain ⟨m1, m2⟩ := mrg_get b.bytes lb a.bytes hbs hd
          obtain ⟨k1, k2⟩ := addAll_in lb ha.si (fun s hs => by have h1 := hb.si.2 s hs; omega)
          refine settle_val hbest.rt (by rw [hz.1]; exact ha.pos ha3) hbest.sz ?_ (by rw [m1, hz.1]; have := hb.bs; omega) (by rw [hz.1]; exact k1) fun k hk => ?_
          · rcases best_is a b la lb with ⟨_, _, h3, _⟩ | ⟨_, _, h3, _⟩
            · rw [h3]; exact ha3
            · rw [h3]; exact hb3
          · rw [m1] at hk
            rw [m2 k hk, k2]
            by_cases hh : hasB lb k = true
            · exact .inr (.inr (hasB_iff.1 hh))
            · rw [if_neg hh]
              rcases ha.zr k (by omega) with q | q
              · exact .inl q
              · exact .inr (.inl q)
  · rw [if_pos c1] at hn
    exact absurd hn (by decide)
end Go.Proofs.YtpjacgcaibaggaaGreatDoor

namespace Go.Proofs.YtpjacgcaibaggaaGreatDoor
open Go.RowKit Go.Shelf
open Go.Proofs
open Go.Proofs.Sp (Sp)

theorem Val.len {e : En} {l : List Sp} (h : Val e l) : l.length ≤ 65536 := by
  have h1 := h.si.len h.z0
  have h2 := h.sz
  omega
theorem settle_st (e : En) (l : List Sp) (b : ByteArray) : (settleN e l b).e.st = e.st ∧ (settleN e l b).e.soft = e.soft := by
  unfold settleN
  split
  · split <;> exact ⟨rfl, rfl⟩
  · exact ⟨rfl, rfl⟩
theorem put_st (e : En) (l : List Sp) (f : Int) (m : ByteArray) : (putN e l f m).e.st = e.st ∧ (putN e l f m).e.soft = e.soft := by
  unfold putN
  split
  · exact ⟨rfl, rfl⟩
  · split
    · exact ⟨rfl, rfl⟩
    · exact settle_st _ _ _
def runN (s : St) (ps : List (Int × ByteArray)) : Res := ps.foldl (fun r p => putN r.e r.l p.1 p.2) ⟨emptyEn s false, [], 0⟩
theorem runN_snoc (s : St) (ps : List (Int × ByteArray)) (k : Nat) (h : k < ps.length) : runN s (ps.take (k + 1)) = putN (runN s (ps.take k)).e (runN s (ps.take k)).l ps[k].1 ps[k].2 := by
  unfold runN
  rw [List.take_succ_eq_append_getElem h, List.foldl_append]
  rfl
theorem run_fold_val : ∀ (ps : List (Int × ByteArray)) (r : Res), Val r.e r.l → Val (ps.foldl (fun r p => putN r.e r.l p.1 p.2) r).e (ps.foldl (fun r p => putN r.e r.l p.1 p.2) r).l ∧ (ps.foldl (fun r p => putN r.e r.l p.1 p.2) r).e.st = r.e.st
  | [], r, h => ⟨h, rfl⟩
  | p :: ps, r, h => by
    obtain ⟨k1, k2⟩ := run_fold_val ps (putN r.e r.l p.1 p.2) (put_val h p.1 p.2)
    exact ⟨k1, k2.trans (put_st _ _ _ _).1⟩
theorem run_val (s : St) (ps : List (Int × ByteArray)) (h : Val (emptyEn s false) []) : Val (runN s ps).e (runN s ps).l ∧ (runN s ps).e.st = s := run_fold_val ps _ h
def hadN (ps : List (Int × ByteArray)) : List Sp := ps.foldl (fun h p => Sp.rAdd h (p.1, p.1 + p.2.size)) []
theorem hadN_snoc (ps : List (Int × ByteArray)) (k : Nat) (h : k < ps.length) : hadN (ps.take (k + 1)) = Sp.rAdd (hadN (ps.take k)) (ps[k].1, ps[k].1 + ps[k].2.size) := by
  unfold hadN
  rw [List.take_succ_eq_append_getElem h, List.foldl_append]
  rfl
/-- A piece is a part of the bytes. -/
def PartOf (w : ByteArray) (p : Int × ByteArray) : Prop := 0 ≤ p.1 ∧ p.1 + p.2.size ≤ w.size ∧ w.extract p.1.toNat (p.1.toNat + p.2.size) = p.2
theorem part_get {w : ByteArray} {p : Int × ByteArray} (h : PartOf w p) {k : Nat} (h1 : p.1.toNat ≤ k) (h2 : k < p.1.toNat + p.2.size) : (bts p.2).getD (k - p.1.toNat) 0 = (bts w).getD k 0 := by
  have e := h.2.2
  rw [← e, bts_ext_at, List.getD_eq_getElem?_getD, List.getElem?_take, if_pos (by omega), List.getElem?_drop, show p.1.toNat + (k - p.1.toNat) = k by omega, ← List.getD_eq_getElem?_getD]
structure Along (s : St) (w : ByteArray) (r : Res) (h : List Sp) : Prop where
  val : Val r.e r.l
  st : r.e.st = s
  si : SetIn h s.size
  mem : ∀ x, 0 ≤ x → x < s.size → (Sp.mem r.l x ↔ Sp.mem h x)
  by_ : ∀ k : Nat, (k : Int) < s.size → Sp.mem r.l k → (bts r.e.bytes).getD k 0 = (bts w).getD k 0
theorem along_put {s : St} {w : ByteArray} {r : Res} {h : List Sp} {p : Int × ByteArray} (hd : Wire.digest 34 [bts w] = s.body) (hw : (w.size : Int) = s.size) (hp : PartOf w p) (a : Along s w r h) :
    Along s w (putN r.e r.l p.1 p.2) (Sp.rAdd h (p.1, p.1 + p.2.size)) := by
  obtain ⟨p0, p1, p2⟩ := hp
  obtain ⟨k1, k2⟩ := rAdd_in (f := p.1) (t := p.1 + p.2.size) a.si p0 (by omega)
  have hv := put_val a.val p.1 p.2
  have hst := (put_st r.e r.l p.1 p.2).1.trans a.st
  have hsz : r.e.st.size = s.size := by rw [a.st]
  have hbs := a.val.bs
  by_cases hwh : r.e.whole = true
  · have e : putN r.e r.l p.1 p.2 = ⟨r.e, r.l, 4⟩ := by unfold putN; rw [if_pos hwh]
    have hf := a.val.wh
    rw [hwh] at hf
    have hf2 := fullB_iff.1 hf.symm
    rw [e] at hv hst ⊢
    refine ⟨hv, hst, k1, fun x x0 x1 => ?_, a.by_⟩
    have hm : Sp.mem r.l x := hf2 x x0 (by omega)
    exact ⟨fun _ => (k2 x).2 (.inl ((a.mem x x0 x1).1 hm)), fun _ => hm⟩
  · have hwh' : r.e.whole = false := by simpa using hwh
    have hc : ¬ (p.1 < 0 ∨ r.e.st.size < p.1 ∨ r.e.st.size < p.1 + p.2.size) := by omega
    have e : putN r.e r.l p.1 p.2 = settleN r.e (Sp.rAdd r.l (p.1, p.1 + p.2.size)) (overB r.e.bytes p.1.toNat p.2) := by
      unfold putN; rw [if_neg hwh, if_neg hc]
    obtain ⟨k3, k4⟩ := rAdd_in (f := p.1) (t := p.1 + p.2.size) a.val.si p0 (by omega)
    have hpp : p.1.toNat + p.2.size ≤ r.e.bytes.size := by omega
    have hmm : ∀ x, 0 ≤ x → x < s.size → (Sp.mem (Sp.rAdd r.l (p.1, p.1 + p.2.size)) x ↔ Sp.mem (Sp.rAdd h (p.1, p.1 + p.2.size)) x) := fun x x0 x1 => by
      rw [k4, k2, a.mem x x0 x1]
    have hbb : ∀ k : Nat, (k : Int) < s.size → Sp.mem (Sp.rAdd r.l (p.1, p.1 + p.2.size)) k → (bts (overB r.e.bytes p.1.toNat p.2)).getD k 0 = (bts w).getD k 0 := fun k hk hm => by
      rw [overB_get hpp (by omega)]
      by_cases hin : p.1.toNat ≤ k ∧ k < p.1.toNat + p.2.size
      · rw [if_pos hin]; exact part_get ⟨p0, p1, p2⟩ hin.1 hin.2
      · rw [if_neg hin]
        refine a.by_ k hk ?_
        rcases (k4 k).1 hm with q | q
        · exact q
        · exfalso; apply hin; omega
    have hno : ∀ b : Bool, fullB (Sp.rAdd r.l (p.1, p.1 + p.2.size)) r.e.st.size = true → Wire.digest 34 [bts (overB r.e.bytes p.1.toNat p.2)] = r.e.st.body := fun _ hf => by
      have hf2 := fullB_iff.1 hf
      have : overB r.e.bytes p.1.toNat p.2 = w := bts_ext (by rw [overB_size hpp]; omega) fun k hk => by
        rw [overB_size hpp] at hk
        exact hbb k (by omega) (hf2 k (by omega) (by omega))
      rw [this, a.st]; exact hd
    rw [e] at hv hst ⊢
    unfold settleN at hv hst ⊢
    by_cases hf : fullB (Sp.rAdd r.l (p.1, p.1 + p.2.size)) r.e.st.size = true
    · rw [if_pos hf, if_pos (hno true hf)] at hv hst ⊢
      exact ⟨hv, hst, k1, hmm, hbb⟩
    · rw [if_neg hf] at hv hst ⊢
      exact ⟨hv, hst, k1, hmm, hbb⟩
theorem along_start {s : St} {w : ByteArray} (h : Val (emptyEn s false) []) : Along s w ⟨emptyEn s false, [], 0⟩ [] :=
  ⟨h, rfl, SetIn.nil _, fun _ _ _ => Iff.rfl, fun k _ hm => (Sp.mem_nil _ hm).elim⟩
theorem along_fold {s : St} {w : ByteArray} (hd : Wire.digest 34 [bts w] = s.body) (hw : (w.size : Int) = s.size) : ∀ (ps : List (Int × ByteArray)) (r : Res) (h : List Sp), (∀ p ∈ ps, PartOf w p) → Along s w r h →
    Along s w (ps.foldl (fun r p => putN r.e r.l p.1 p.2) r) (ps.foldl (fun h p => Sp.rAdd h (p.1, p.1 + p.2.size)) h)
  | [], r, h, _, a => a
  | p :: ps, r, h, hp, a => along_fold hd hw ps _ _ (fun q hq => hp q (by simp [hq])) (along_put hd hw (hp p (by simp)) a)
/-- T1: what is covered is whole, and then the bytes are the right ones. -/
theorem run_whole {s : St} {w : ByteArray} (hv : Val (emptyEn s false) []) (hd : Wire.digest 34 [bts w] = s.body) (hw : (w.size : Int) = s.size) (ps : List (Int × ByteArray)) (hp : ∀ p ∈ ps, PartOf w p) :
    SetIn (hadN ps) s.size ∧ fullB (hadN ps) s.size = (runN s ps).e.whole ∧ ((runN s ps).e.whole = true → (runN s ps).e.bytes = w) := by
  have a : Along s w (runN s ps) (hadN ps) := along_fold hd hw ps _ _ hp (along_start hv)
  have hwh := a.val.wh
  have hbs := a.val.bs
  rw [a.st] at hwh hbs
  refine ⟨a.si, ?_, fun h => ?_⟩
  · rw [hwh, Bool.eq_iff_iff, fullB_iff, fullB_iff]
    exact ⟨fun h x x0 x1 => (a.mem x x0 x1).2 (h x x0 x1), fun h x x0 x1 => (a.mem x x0 x1).1 (h x x0 x1)⟩
  · rw [hwh] at h
    have hf := fullB_iff.1 h
    exact bts_ext (by omega) fun k hk => a.by_ k (by omega) (hf k (by omega) (by omega))

/-! ### The specification's Missing and Covers -/
theorem covers_full {l : List Sp} {n : Int} {b : Bool} (h : coversB l (0, n) b) : b = fullB l n := by
  rw [Bool.eq_iff_iff, fullB_iff]
  exact h
end Go.Proofs.YtpjacgcaibaggaaGreatDoor
