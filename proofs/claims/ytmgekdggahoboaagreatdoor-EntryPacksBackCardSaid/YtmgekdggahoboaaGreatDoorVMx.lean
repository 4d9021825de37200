/- Walk of law 35: EntryMergesAsSpecified. -/
import Derived.WalkKit
import Derived.WalkSpells
import Derived.WalkLawsBesides
import Derived.Deep.QuietTactic
import Derived.BigQuiet
import Derived.Test.YtmgekdggahoboaaGreatDoorVSl0
import Derived.Test.YtmgekdggahoboaaGreatDoorVOe
import Derived.Lib.ConvBytes
import Derived.Lib.Bytealg
import Derived.Lib.Small
import Derived.BigRegion
import Derived.Laws.MakeOwn
import Derived.Test.YtmgekdggahoboaaGreatDoorVSoJ
import Derived.Test.YtmgekdggahoboaaGreatDoorVLt
import Derived.Lib.BytesEntry
set_option maxRecDepth 100000
set_option maxHeartbeats 64000000
set_option linter.unusedVariables false
set_option linter.unusedSimpArgs false
namespace Go.Proofs.YtmgekdggahoboaaGreatDoor
open Go.RowKit Go.Shelf
open Go.Proofs
open Go.Proofs.Sp (Sp)
theorem spTy : RowTy Tryz.prog 54 2 := ⟨by kernel_rfl, by kernel_rfl⟩
theorem within_any (n lo hi : Int) (w : World) : Calls Tryz.prog 158 #[.int .i64 n, .int .i64 lo, .int .i64 hi] w fun e' w' => e' = .returned (.bool (decide (lo ≤ n) && decide (n ≤ hi))) ∧ w = w' := by
 go_enter Tryz.func158, Tryz.ntmps158
 go_wp2
 all_goals
  go_ret
  refine ⟨ret_bool ?_, rfl⟩
  rw [Bool.eq_iff_iff]
  simp only [Bool.and_eq_true, decide_eq_true_eq, Bool.false_eq_true, false_iff]
  omega
theorem all_any (e : En) (w : World) : Calls Tryz.prog 128 #[.agg (entC e)] w fun e' w' => e' = .returned (.agg #[.int .i64 0, .int .i64 e.st.size]) ∧ Ext w w' := by
 go_enter Tryz.func128, Tryz.ntmps128
 go_wp2
 refine post_row spTy Tryz.results128 rfl rfl (rowOf_some rfl ?_) ⟨rfl, (by (with_reducible repeat first|exact eR _|apply eD|apply eN|apply eA|apply eO|apply eS|apply eC);all_goals first|omega|simp <;> omega)⟩
 intro i hi
 have h3 : i = 0 ∨ i = 1 := by omega
 rcases h3 with h3 | h3 <;> subst h3 <;> simp [go_sem]
theorem right_ok (s : St) (w : World) (h1 : s.addr.size ≤ 4096) (h2 : s.var.size ≤ 4096) (h3 : s.tags.size ≤ 4096) (h : rightB s = true) :
  Calls Tryz.prog 119 #[.agg (stmC s)] w fun e' w' => e' = .returned (.bool true) ∧ Ext w w' := by
 simp only [rightB, Bool.and_eq_true, decide_eq_true_eq] at h
 obtain ⟨⟨⟨⟨⟨⟨⟨⟨⟨⟨⟨⟨⟨a1, a2⟩, a3⟩, a4⟩, a5⟩, a6⟩, a7⟩, a8⟩, a9⟩, a10⟩, a11⟩, a12⟩, a13⟩, a14⟩ := h
 go_enter Tryz.func119, Tryz.ntmps119
 go_wp2_with (go_at_call 158; refine (within_any _ _ _ _).mono ?_; rintro e w' ⟨rfl, rfl⟩)
 all_goals
  go_ret
  exact ⟨rfl, (by (with_reducible repeat first|exact eR _|apply eD|apply eN|apply eA|apply eO|apply eS|apply eC);all_goals first|omega|simp <;> omega)⟩
def zb (n : Nat) : ByteArray := ⟨(Lib.repeatL [0] n).toArray⟩
theorem repExtra : Builder.Extra Tryz.prog Tryz.repeatS_ren where
 sizeBuilder := by kernel_rfl
 liesBuilder := by kernel_rfl
 t5 := by kernel_rfl
 a5 := fun w => by kernel_rfl
 z5 := fun w => by kernel_rfl
 v5 := fun w => by kernel_rfl
 infoByte := by kernel_rfl
 cellsByte := by kernel_rfl
 sizeByte := by kernel_rfl
 neB5 := by decide
theorem repeat0 (n : Nat) (m : Int) (hm : m = n) (w : World) (hn : n ≤ 140737488355328) : Calls Tryz.prog 160 #[.string ⟨#[0]⟩, .int .i64 m] w fun e w' => e = .returned (.string (zb n)) ∧ Ext w w' := by
 subst hm
 by_cases h0 : n = 0
 ·subst h0
  have h := Any.strings_Repeat_zero Tryz.repeatS ⟨#[0]⟩ w
  change Calls Tryz.prog 160 _ _ _ at h
  refine h.mono ?_
  rintro e w' ⟨rfl, rfl⟩
  exact ⟨rfl, eR _⟩
 ·by_cases h1 : n = 1
  ·subst h1
   have h := Any.strings_Repeat_one Tryz.repeatS ⟨#[0]⟩ w
   change Calls Tryz.prog 160 _ _ _ at h
   refine h.mono ?_
   rintro e w' ⟨rfl, rfl⟩
   exact ⟨rfl, eR _⟩
  ·have h := Any.strings_Repeat_main Tryz.repeatS repExtra ⟨#[0]⟩ n w (by omega) (by omega) (by show 1 * n ≤ _; omega) (by decide)
   change Calls Tryz.prog 160 _ _ _ at h
   refine h.mono ?_
   rintro e w' ⟨rfl, hb⟩
   exact ⟨rfl, hb⟩
def emptyEn (s : St) (soft : Bool) : En := ⟨s, soft, .slice none 0 0, zb s.size.toNat, decide (s.size = 0)⟩
def entBuild (a b c d : Value) : Sem Next := do pure (.value (← Instr.build 96 #[(0, a), (1, b), (3, c), (4, d)]))
theorem entBuild_x (ρ : Operand → Value) (dst : Option Tmp) (x0 x1 x3 x4 : Operand) (t : TypeId) (pos : String) (after : Array Edge) (guard : Option (Nat × Bool)) : execOp ρ { dst, op := .build 96 #[(0, x0), (1, x1), (3, x3), (4, x4)], type := t, pos, after, guard } = entBuild (ρ x0) (ρ x1) (ρ x3) (ρ x4) := by kernel_rfl
theorem entBuild_run (s : St) (soft : Bool) (b : ByteArray) (wh : Bool) (W : World) : (entBuild (.agg (stmC s)) (.bool soft) (.string b) (.bool wh)).run Tryz.prog W = .ok (.value (.agg (entC ⟨s, soft, .slice none 0 0, b, wh⟩))) W := by kernel_rfl
def entBuild0 : Sem Next := do pure (.value (← Instr.build 96 #[]))
theorem entBuild0_x (ρ : Operand → Value) (dst : Option Tmp) (t : TypeId) (pos : String) (after : Array Edge) (guard : Option (Nat × Bool)) : execOp ρ { dst, op := .build 96 #[], type := t, pos, after, guard } = entBuild0 := by kernel_rfl
theorem entBuild0_run (W : World) : entBuild0.run Tryz.prog W = .ok (.value (.agg (entC noEn))) W := by kernel_rfl
attribute [go_sem ↓] entBuild_x entBuild0_x
attribute [go_sem] entBuild_run entBuild0_run
theorem ent_fits (s : St) (soft : Bool) (A : Option Addr) (n c : Nat) (b : ByteArray) (wh : Bool) : fitsRow 45 (entC ⟨s, soft, .slice A n c, b, wh⟩) = true := by kernel_rfl
theorem ent_fits_of {e : En} {A : Option Addr} {n c : Nat} (h : e.hv = .slice A n c) : fitsRow 45 (entC e) = true := by
 obtain ⟨a, b, v, d, f⟩ := e
 simp only at h
 subst h
 exact ent_fits _ _ _ _ _ _ _
attribute [go_sem] ent_fits
theorem row_stored {w : World} {b : Nat} {cs ds : Array Value} (h : RowAt w b cs) (hn : cs.size = 45) (hd : ds.size = 45) : rowOf (w.setCells b 0 ds.toList) b 0 45 = some ds := h.stored (n := 45) (by rw [hn, hd]) hd.symm (by omega)
theorem empty_any (s : St) (soft : Bool) (w : World) (h0 : 0 ≤ s.size) (h1 : s.size ≤ 65536) : Calls Tryz.prog 121 #[.agg (stmC s), .bool soft] w fun e' w' => e' = .returned (.agg (entC (emptyEn s soft))) ∧ Ext w w' := by
 go_enter Tryz.func121, Tryz.ntmps121
 go_wp2
 refine wp_region_later_tail 9 (by kernel_rfl) (by kernel_rfl) ?_
 simp only [List.take_succ_cons, List.take_zero, List.drop_succ_cons, List.drop_zero]
 repeat (first | go_big_quiet_step ((go_at_call 160; exact quietE (repeat0 s.size.toNat _ (by omega) _ (by omega)))) | quiet_step ((go_at_call 160; exact quietE (repeat0 s.size.toNat _ (by omega) _ (by omega)))))
 refine wpQuiet_nil ?_
 rintro _ ⟨xq, rfl⟩
 go_wp2
 have h1 : RowAt (later ((w.alloc (.cells (stmC s) 52)).alloc (.cells (entC noEn) 96)) xq) (w.heap.size + 1) (entC noEn) := RowAt.later (RowAt.newAt (by simp)) _
 refine post_row ent_ty Tryz.results121 rfl rfl (row_stored h1 (ent_size _) (ent_size _)) ⟨?_, (by (with_reducible repeat first|exact eR _|apply eD|apply eN|apply eA|apply eO|apply eS|apply eC);all_goals first|omega|simp <;> omega)⟩
 unfold emptyEn
 congr 4
end Go.Proofs.YtmgekdggahoboaaGreatDoor
namespace Go.Proofs.YtmgekdggahoboaaGreatDoor
open Go.RowKit Go.Shelf
open Go.Proofs
open Go.Proofs.Sp (Sp)
theorem ent_set42 (e : En) (v : Value) : (entC e).setIfInBounds 42 v = entC { e with hv := v } := by kernel_rfl
theorem ent_set43 (e : En) (v : ByteArray) : (entC e).setIfInBounds 43 (.string v) = entC { e with bytes := v } := by kernel_rfl
theorem ent_set44 (e : En) (v : Bool) : (entC e).setIfInBounds 44 (.bool v) = entC { e with whole := v } := by kernel_rfl
theorem ent_set41 (e : En) (v : Bool) : (entC e).setIfInBounds 41 (.bool v) = entC { e with soft := v } := by kernel_rfl
theorem ent_set21 (e : En) (v : Int) : (entC e).setIfInBounds 21 (.int .i64 v) = entC { e with st := { e.st with lo := v } } := by kernel_rfl
theorem ent_loaded {w : World} {b : Nat} {cs : Array Value} (h : rowOf w b 0 45 = some cs) : (loadVar 96 ⟨b, 0, none⟩).run Tryz.prog w = .ok (.agg cs) w := by rw [ent_lv, h]; rfl
attribute [go_sem] ent_set42 ent_set43 ent_set44 ent_set41 ent_set21
theorem settle_no (e : En) (Ae : Option Addr) (ne ce : Nat) (A : Option Addr) (c : Nat) (l : List Sp) (Ab : Option Addr) (cb : Nat) (bl : List Int) (w : World) (hv : e.hv = .slice Ae ne ce) (h0 : 0 ≤ e.st.size) (h1 : e.st.size ≤ 65536)
  (hs : Sp.IsSet l) (hb : bd2 l) (hlen : l.length * 32 ≤ 140737488330000) (hr : ReadsSp w w.heap.size A l) (z : A = none → c = 0) (hbl : 0 < bl.length) (hbl2 : bl.length ≤ 65536) (hrb : ReadsB w w.heap.size Ab bl) (hk : Konst 4 w) (hc : coversB l (0, e.st.size) false) :
  Calls Tryz.prog 122 #[.agg (entC e), .slice A l.length c, .slice Ab bl.length cb] w fun e' w' => e' = .returned (.tuple #[.agg (entC { e with hv := .slice A l.length c, bytes := strOfNums bl }), .int .i64 0]) ∧ Ext w w' := by
 have HA := lh hr
 have HZ := lh z
 have HS := lh hs
 have HBd := lh hb
 have HK := lh hk
 have HRb := lh hrb
 have HHv := lh hv
 have HC := lh hc
 have hcv1 := conv_bytes (w := ((w.alloc (.cells (entC e) 96)).alloc (.cells (entC noEn) 96)).drew) cb (HRb.out.on ((((Ext.refl w).alloc _).alloc _).drew)) hbl
 have hcv2 := conv_bytes (w := ((w.alloc (.cells (entC { e with hv := .slice A l.length c }) 96)).alloc (.cells (entC noEn) 96)).drew) cb (HRb.out.on ((((Ext.refl w).alloc _).alloc _).drew)) hbl
 clear hr z hs hb hk hrb hv hc
 have hf : fitsRow 45 (entC { e with hv := .slice A l.length c, bytes := strOfNums bl }) = true := ent_fits_of rfl
 have hsb := strOfNums_size bl
 have hsz : (strOfNums bl).size ≤ 65536 := by rw [hsb]; exact hbl2
 clear hsb
 obtain ⟨e2, he2⟩ : ∃ e2 : En, { e with hv := .slice A l.length c, bytes := strOfNums bl } = e2 := ⟨_, rfl⟩
 have hst : e2.st = e.st := by rw [← he2]
 have hso : e2.soft = e.soft := by rw [← he2]
 have hby : e2.bytes = strOfNums bl := by rw [← he2]
 go_enter Tryz.func122, Tryz.ntmps122
 go_wp2
 go_region
 have hxW : Ext w (((w.alloc (.cells (entC e2) 96)).alloc (.cells (entC noEn) 96)).drew) := (((Ext.refl w).alloc _).alloc _).drew
 have hr1 : RowAt (((w.alloc (.cells (entC e2) 96)).alloc (.cells (entC noEn) 96)).drew) w.heap.size (entC e2) := RowAt.drew (RowAt.alloc (RowAt.new _ _ _) _)
 have hr2 : RowAt (((w.alloc (.cells (entC e2) 96)).alloc (.cells (entC noEn) 96)).drew) (w.heap.size + 1) (entC noEn) := RowAt.drew (RowAt.newAt (by simp))
 generalize (((w.alloc (.cells (entC e2) 96)).alloc (.cells (entC noEn) 96)).drew) = W at hxW hr1 hr2 ⊢
 have HXW := lh hxW
 have HR1 := lh hr1
 have HR2 := lh hr2
 have hrow : rowOf W w.heap.size 0 45 = some (entC e2) := hr1.all (ent_size e2).symm (by omega)
 have hroom : roomOf W (w.heap.size + 1) 0 45 = true := by rw [hr2.room]; rfl
 have hl1 := hr1.lt
 have hl2 := hr2.lt
 rw [he2] at hf
 have HE2 := lh he2
 clear hxW hr1 hr2 hcv1 hcv2 he2
 go_wp2_with (first
  | (go_at_call 128; refine (all_any e2 _).mono ?_; rw [hst]; rintro e w' ⟨rfl, hxl⟩; obtain ⟨xl, rfl⟩ := hxl.asLater; clear hxl)
  | (go_at_call 161; refine (covers_any A c l (0, e.st.size) _ HS.out HBd.out ⟨⟨by show (-4611686018427387904 : Int) ≤ 0; omega, by show (0 : Int) ≤ _; omega⟩, by show _ ≤ e.st.size; omega, by show e.st.size ≤ _; omega⟩ (by omega) (HA.out.on (HXW.out.onto _)) HZ.out).mono ?_; rintro e' w' ⟨b, rfl, HCb, hxl⟩; obtain ⟨xl, rfl⟩ := hxl.asLater; clear hxl; obtain rfl := coversB_uniq HCb.out HC.out))
 refine post_two (v1 := .agg (entC e2)) (v2 := .int .i64 0) Tryz.results122 rfl ⟨_, rfl, ent_loaded (row_stored ((by (repeat (first | with_reducible exact HR2.out | with_reducible refine RowAt.drew ?_ | with_reducible refine RowAt.later ?_ _ | with_reducible exact RowAt.newAt (by first | rfl | omega | (simp [later_size, setCells_size]; done) | (simp [later_size, setCells_size]; omega)) | with_reducible refine RowAt.alloc ?_ _ | with_reducible apply RowAt.store | with_reducible refine RowAt.others ?_ ?_ _ _ | with_reducible refine RowAt.other ?_ ?_ _)); all_goals first | omega | (simp; done) | (simp; omega) | (simp [go_sem]; done))) (ent_size _) (ent_size _))⟩ rfl ⟨by rw [HE2.out], (by (with_reducible repeat first|exact HXW.out|exact eR _|apply eD|apply eN|apply eA|apply eO|apply eS|apply eC);all_goals first|omega|simp <;> omega)⟩
theorem settle_bad (e : En) (Ae : Option Addr) (ne ce : Nat) (A : Option Addr) (c : Nat) (l : List Sp) (Ab : Option Addr) (cb : Nat) (bl : List Int) (w : World) (hv : e.hv = .slice Ae ne ce) (h0 : 0 ≤ e.st.size) (h1 : e.st.size ≤ 65536)
  (hs : Sp.IsSet l) (hb : bd2 l) (hlen : l.length * 32 ≤ 140737488330000) (hr : ReadsSp w w.heap.size A l) (z : A = none → c = 0) (hbl : 0 < bl.length) (hbl2 : bl.length ≤ 65536) (hrb : ReadsB w w.heap.size Ab bl) (hk : Konst 4 w) (hc : coversB l (0, e.st.size) true)
  (hbo : e.st.body.length = 16) (hbb : Byt e.st.body) (hd : Wire.digest 34 [bts (strOfNums bl)] ≠ e.st.body) :
  Calls Tryz.prog 122 #[.agg (entC e), .slice A l.length c, .slice Ab bl.length cb] w fun e' w' => e' = .returned (.tuple #[.agg (entC (emptyEn e.st e.soft)), .int .i64 8]) ∧ Ext w w' := by
 have HD := lh hd
 have HBo := lh hbo
 have HBb := lh hbb
 clear hd hbo hbb
 have HA := lh hr
 have HZ := lh z
 have HS := lh hs
 have HBd := lh hb
 have HK := lh hk
 have HRb := lh hrb
 have HHv := lh hv
 have HC := lh hc
 have hcv1 := conv_bytes (w := ((w.alloc (.cells (entC e) 96)).alloc (.cells (entC noEn) 96)).drew) cb (HRb.out.on ((((Ext.refl w).alloc _).alloc _).drew)) hbl
 have hcv2 := conv_bytes (w := ((w.alloc (.cells (entC { e with hv := .slice A l.length c }) 96)).alloc (.cells (entC noEn) 96)).drew) cb (HRb.out.on ((((Ext.refl w).alloc _).alloc _).drew)) hbl
 clear hr z hs hb hk hrb hv hc
 have hf : fitsRow 45 (entC { e with hv := .slice A l.length c, bytes := strOfNums bl }) = true := ent_fits_of rfl
 have hsb := strOfNums_size bl
 have hsz : (strOfNums bl).size ≤ 65536 := by rw [hsb]; exact hbl2
 clear hsb
 obtain ⟨e2, he2⟩ : ∃ e2 : En, { e with hv := .slice A l.length c, bytes := strOfNums bl } = e2 := ⟨_, rfl⟩
 have hst : e2.st = e.st := by rw [← he2]
 have hso : e2.soft = e.soft := by rw [← he2]
 have hby : e2.bytes = strOfNums bl := by rw [← he2]
 go_enter Tryz.func122, Tryz.ntmps122
 go_wp2
 go_region
 have hxW : Ext w (((w.alloc (.cells (entC e2) 96)).alloc (.cells (entC noEn) 96)).drew) := (((Ext.refl w).alloc _).alloc _).drew
 have hr1 : RowAt (((w.alloc (.cells (entC e2) 96)).alloc (.cells (entC noEn) 96)).drew) w.heap.size (entC e2) := RowAt.drew (RowAt.alloc (RowAt.new _ _ _) _)
 have hr2 : RowAt (((w.alloc (.cells (entC e2) 96)).alloc (.cells (entC noEn) 96)).drew) (w.heap.size + 1) (entC noEn) := RowAt.drew (RowAt.newAt (by simp))
 generalize (((w.alloc (.cells (entC e2) 96)).alloc (.cells (entC noEn) 96)).drew) = W at hxW hr1 hr2 ⊢
 have HXW := lh hxW
 have HR1 := lh hr1
 have HR2 := lh hr2
 have hrow : rowOf W w.heap.size 0 45 = some (entC e2) := hr1.all (ent_size e2).symm (by omega)
 have hroom : roomOf W (w.heap.size + 1) 0 45 = true := by rw [hr2.room]; rfl
 have hl1 := hr1.lt
 have hl2 := hr2.lt
 rw [he2] at hf
 have HE2 := lh he2
 clear hxW hr1 hr2 hcv1 hcv2 he2
 go_wp2_with (first
  | (go_at_call 128; refine (all_any e2 _).mono ?_; rw [hst]; rintro e w' ⟨rfl, hxl⟩; obtain ⟨xl, rfl⟩ := hxl.asLater; clear hxl)
  | (go_at_call 161; refine (covers_any A c l (0, e.st.size) _ HS.out HBd.out ⟨⟨by show (-4611686018427387904 : Int) ≤ 0; omega, by show (0 : Int) ≤ _; omega⟩, by show _ ≤ e.st.size; omega, by show e.st.size ≤ _; omega⟩ (by omega) (HA.out.on (HXW.out.onto _)) HZ.out).mono ?_; rintro e' w' ⟨b, rfl, HCb, hxl⟩; obtain ⟨xl, rfl⟩ := hxl.asLater; clear hxl; obtain rfl := coversB_uniq HCb.out HC.out))
 have c43 : W.cell? ⟨w.heap.size, 43, none⟩ = some (.string (strOfNums bl)) := (HR1.out.cell 43).trans (by rw [ent_g43, hby])
 have c41 : W.cell? ⟨w.heap.size, 41, none⟩ = some (.bool e.soft) := (HR1.out.cell 41).trans (by rw [ent_g41, hso])
 have r41 : rowOf W w.heap.size 0 41 = some (stmC e.st) := by rw [HR1.out.row, if_neg (by omega), ent_stm, hst]
 have hbd : rowOf W w.heap.size 4 16 = some (dgC e.st.body) := by rw [HR1.out.row, if_neg (by omega), ent_body, hst]
 have hq := neq_dig (digest_length 34 [bts (strOfNums bl)]) HBo.out (digest_byt 34 [bts (strOfNums bl)]) HBb.out
 generalize hDD : Wire.digest 34 [bts (strOfNums bl)] = D at *
 have HDD := lh hDD
 clear hDD
 have dd : decide (D = e.st.body) = false := by simpa using HD.out
 have hfe : fitsRow 45 (entC (emptyEn e.st e.soft)) = true := ent_fits_of rfl
 simp only [dd, Bool.not_true, Bool.not_false] at hq
 clear dd
 refine wp_region_later (by kernel_rfl) (by kernel_rfl) ?_
 repeat (first | go_big_quiet_step ((go_at_call 120; exact quietE (odigest_is (strOfNums bl) D _ (RowAt.ext HK.out ((HXW.out.onto _).onto _)) (by omega) HDD.out))) | quiet_step ((go_at_call 120; exact quietE (odigest_is (strOfNums bl) D _ (RowAt.ext HK.out ((HXW.out.onto _).onto _)) (by omega) HDD.out))))
 refine wpQuiet_nil ?_
 rintro _ ⟨xq, rfl⟩
 go_wp2_with (go_at_call 121; refine (empty_any e.st e.soft _ h0 h1).mono ?_; rintro e w' ⟨rfl, hxl⟩; obtain ⟨xl, rfl⟩ := hxl.asLater; clear hxl)
 refine post_two (v1 := .agg (entC (emptyEn e.st e.soft))) (v2 := .int .i64 8) Tryz.results122 rfl ⟨_, rfl, ent_loaded (row_stored ((by (repeat (first | with_reducible exact HR2.out | with_reducible refine RowAt.drew ?_ | with_reducible refine RowAt.later ?_ _ | with_reducible exact RowAt.newAt (by first | rfl | omega | (simp [later_size, setCells_size]; done) | (simp [later_size, setCells_size]; omega)) | with_reducible refine RowAt.alloc ?_ _ | with_reducible apply RowAt.store | with_reducible refine RowAt.others ?_ ?_ _ _ | with_reducible refine RowAt.other ?_ ?_ _)); all_goals first | omega | (simp; done) | (simp; omega) | (simp [go_sem]; done))) (ent_size _) (ent_size _))⟩ rfl ⟨rfl, (by (with_reducible repeat first|exact HXW.out|exact eR _|apply eD|apply eN|apply eA|apply eO|apply eS|apply eC);all_goals first|omega|simp <;> omega)⟩
theorem settle_ok (e : En) (Ae : Option Addr) (ne ce : Nat) (A : Option Addr) (c : Nat) (l : List Sp) (Ab : Option Addr) (cb : Nat) (bl : List Int) (w : World) (hv : e.hv = .slice Ae ne ce) (h0 : 0 ≤ e.st.size) (h1 : e.st.size ≤ 65536)
  (hs : Sp.IsSet l) (hb : bd2 l) (hlen : l.length * 32 ≤ 140737488330000) (hr : ReadsSp w w.heap.size A l) (z : A = none → c = 0) (hbl : 0 < bl.length) (hbl2 : bl.length ≤ 65536) (hrb : ReadsB w w.heap.size Ab bl) (hk : Konst 4 w) (hc : coversB l (0, e.st.size) true)
  (hbo : e.st.body.length = 16) (hbb : Byt e.st.body) (hd : Wire.digest 34 [bts (strOfNums bl)] = e.st.body) :
  Calls Tryz.prog 122 #[.agg (entC e), .slice A l.length c, .slice Ab bl.length cb] w fun e' w' => e' = .returned (.tuple #[.agg (entC { e with hv := .slice A l.length c, bytes := strOfNums bl, whole := true }), .int .i64 0]) ∧ Ext w w' := by
 have HD := lh hd
 have HBo := lh hbo
 have HBb := lh hbb
 clear hd hbo hbb
 have HA := lh hr
 have HZ := lh z
 have HS := lh hs
 have HBd := lh hb
 have HK := lh hk
 have HRb := lh hrb
 have HHv := lh hv
 have HC := lh hc
 have hcv1 := conv_bytes (w := ((w.alloc (.cells (entC e) 96)).alloc (.cells (entC noEn) 96)).drew) cb (HRb.out.on ((((Ext.refl w).alloc _).alloc _).drew)) hbl
 have hcv2 := conv_bytes (w := ((w.alloc (.cells (entC { e with hv := .slice A l.length c }) 96)).alloc (.cells (entC noEn) 96)).drew) cb (HRb.out.on ((((Ext.refl w).alloc _).alloc _).drew)) hbl
 clear hr z hs hb hk hrb hv hc
 have hf : fitsRow 45 (entC { e with hv := .slice A l.length c, bytes := strOfNums bl }) = true := ent_fits_of rfl
 have hsb := strOfNums_size bl
 have hsz : (strOfNums bl).size ≤ 65536 := by rw [hsb]; exact hbl2
 clear hsb
 obtain ⟨e2, he2⟩ : ∃ e2 : En, { e with hv := .slice A l.length c, bytes := strOfNums bl } = e2 := ⟨_, rfl⟩
 have hst : e2.st = e.st := by rw [← he2]
 have hso : e2.soft = e.soft := by rw [← he2]
 have hby : e2.bytes = strOfNums bl := by rw [← he2]
 go_enter Tryz.func122, Tryz.ntmps122
 go_wp2
 go_region
 have hxW : Ext w (((w.alloc (.cells (entC e2) 96)).alloc (.cells (entC noEn) 96)).drew) := (((Ext.refl w).alloc _).alloc _).drew
 have hr1 : RowAt (((w.alloc (.cells (entC e2) 96)).alloc (.cells (entC noEn) 96)).drew) w.heap.size (entC e2) := RowAt.drew (RowAt.alloc (RowAt.new _ _ _) _)
 have hr2 : RowAt (((w.alloc (.cells (entC e2) 96)).alloc (.cells (entC noEn) 96)).drew) (w.heap.size + 1) (entC noEn) := RowAt.drew (RowAt.newAt (by simp))
 generalize (((w.alloc (.cells (entC e2) 96)).alloc (.cells (entC noEn) 96)).drew) = W at hxW hr1 hr2 ⊢
 have HXW := lh hxW
 have HR1 := lh hr1
 have HR2 := lh hr2
 have hrow : rowOf W w.heap.size 0 45 = some (entC e2) := hr1.all (ent_size e2).symm (by omega)
 have hroom : roomOf W (w.heap.size + 1) 0 45 = true := by rw [hr2.room]; rfl
 have hl1 := hr1.lt
 have hl2 := hr2.lt
 rw [he2] at hf
 have HE2 := lh he2
 clear hxW hr1 hr2 hcv1 hcv2 he2
 go_wp2_with (first
  | (go_at_call 128; refine (all_any e2 _).mono ?_; rw [hst]; rintro e w' ⟨rfl, hxl⟩; obtain ⟨xl, rfl⟩ := hxl.asLater; clear hxl)
  | (go_at_call 161; refine (covers_any A c l (0, e.st.size) _ HS.out HBd.out ⟨⟨by show (-4611686018427387904 : Int) ≤ 0; omega, by show (0 : Int) ≤ _; omega⟩, by show _ ≤ e.st.size; omega, by show e.st.size ≤ _; omega⟩ (by omega) (HA.out.on (HXW.out.onto _)) HZ.out).mono ?_; rintro e' w' ⟨b, rfl, HCb, hxl⟩; obtain ⟨xl, rfl⟩ := hxl.asLater; clear hxl; obtain rfl := coversB_uniq HCb.out HC.out))
 have hvv : e2.hv = .slice A l.length c := by rw [← HE2.out]
 have hfz : W.frozen? ⟨w.heap.size, 44, none⟩ = false := HR1.out.free 44
 have hc44 : W.cell? ⟨w.heap.size, 44, none⟩ = some (.bool e2.whole) := (HR1.out.cell 44).trans (ent_g44 e2)
 have c43 : W.cell? ⟨w.heap.size, 43, none⟩ = some (.string (strOfNums bl)) := (HR1.out.cell 43).trans (by rw [ent_g43, hby])
 have c41 : W.cell? ⟨w.heap.size, 41, none⟩ = some (.bool e.soft) := (HR1.out.cell 41).trans (by rw [ent_g41, hso])
 have r41 : rowOf W w.heap.size 0 41 = some (stmC e.st) := by rw [HR1.out.row, if_neg (by omega), ent_stm, hst]
 have hbd : rowOf W w.heap.size 4 16 = some (dgC e.st.body) := by rw [HR1.out.row, if_neg (by omega), ent_body, hst]
 have hq := neq_dig (digest_length 34 [bts (strOfNums bl)]) HBo.out (digest_byt 34 [bts (strOfNums bl)]) HBb.out
 generalize hDD : Wire.digest 34 [bts (strOfNums bl)] = D at *
 have HDD := lh hDD
 clear hDD
 have dd : decide (D = e.st.body) = true := by simpa using HD.out
 simp only [dd, Bool.not_true, Bool.not_false] at hq
 clear dd
 refine wp_region_later (by kernel_rfl) (by kernel_rfl) ?_
 repeat (first | go_big_quiet_step ((go_at_call 120; exact quietE (odigest_is (strOfNums bl) D _ (RowAt.ext HK.out ((HXW.out.onto _).onto _)) (by omega) HDD.out))) | quiet_step ((go_at_call 120; exact quietE (odigest_is (strOfNums bl) D _ (RowAt.ext HK.out ((HXW.out.onto _).onto _)) (by omega) HDD.out))))
 refine wpQuiet_nil ?_
 rintro _ ⟨xq, rfl⟩
 go_wp2
 refine post_two (v1 := .agg (entC { e with hv := .slice A l.length c, bytes := strOfNums bl, whole := true })) (v2 := .int .i64 0) Tryz.results122 rfl ⟨_, rfl, ent_loaded (row_stored ((by (repeat (first | with_reducible exact HR2.out | with_reducible refine RowAt.drew ?_ | with_reducible refine RowAt.later ?_ _ | with_reducible exact RowAt.newAt (by first | rfl | omega | (simp [later_size, setCells_size]; done) | (simp [later_size, setCells_size]; omega)) | with_reducible refine RowAt.alloc ?_ _ | with_reducible apply RowAt.store | with_reducible refine RowAt.others ?_ ?_ _ _ | with_reducible refine RowAt.other ?_ ?_ _)); all_goals first | omega | (simp; done) | (simp; omega) | (simp [go_sem]; done))) (ent_size _) (ent_size _))⟩ rfl ⟨rfl, (by (with_reducible repeat first|exact HXW.out|exact eR _|apply eD|apply eN|apply eA|apply eO|apply eS|apply eC);all_goals first|omega|simp <;> omega)⟩
end Go.Proofs.YtmgekdggahoboaaGreatDoor
namespace Go.Proofs.YtmgekdggahoboaaGreatDoor
open Go.RowKit Go.Shelf
open Go.Proofs
open Go.Proofs.Sp (Sp)
theorem over_len {blk x : List Int} {p : Nat} (h : p + x.length ≤ blk.length) : (Sha.over blk p x).length = blk.length := by
 simp [Sha.over]; omega
theorem over_getD {blk x : List Int} {p j : Nat} (h : p + x.length ≤ blk.length) (hj : j < blk.length) : (Sha.over blk p x).getD j 0 = if p ≤ j ∧ j < p + x.length then x.getD (j - p) 0 else blk.getD j 0 := by
 unfold Sha.over
 simp only [List.getD_eq_getElem?_getD]
 by_cases h1 : j < p
 ·rw [List.append_assoc, List.getElem?_append_left (by rw [List.length_take]; omega), List.getElem?_take, if_pos h1, if_neg (by omega)]
 ·rw [List.append_assoc, List.getElem?_append_right (by rw [List.length_take]; omega), List.length_take, Nat.min_eq_left (by omega)]
  by_cases h2 : j < p + x.length
  ·rw [List.getElem?_append_left (by omega), if_pos (by omega)]
  ·rw [List.getElem?_append_right (by omega), if_neg (by omega), List.getElem?_drop, show p + x.length + (j - p - x.length) = j by omega]
theorem ByteAt.copied {w : World} {b : Nat} {l x : List Int} {p : Nat} (h : ByteAt w b l) (hp : p + x.length ≤ l.length) : ByteAt (w.setCells b p (cells8 x).toList) b (Sha.over l p x) := by
 have hx : (cells8 x).toList.length = x.length := by simp [cells8]
 refine ⟨by rw [setCells_size]; exact h.1, fun j hj => ?_⟩
 rw [over_len hp] at hj
 obtain ⟨k1, k2⟩ := h.2 j hj
 refine ⟨?_, by rw [setCells_frozen]; exact k2⟩
 rw [setCells_cell_if, over_getD hp hj, hx, k1]
 by_cases hc : p ≤ j ∧ j < p + x.length
 ·rw [if_pos ⟨rfl, hc⟩, if_pos hc]
  have : j - p < x.length := by omega
  simp [cells8, this]
 ·rw [if_neg (by intro hh; exact hc hh.2), if_neg hc]
def putSoft (e : En) (A : Option Addr) (c : Nat) (l : List Sp) (f : Int) (more : ByteArray) (t : Int) (base : Nat) (bb : Value) (P : List Sp → Prop) (RS : Soft) (N : Int) : Nat → Soft
 | 0 => .eq (.agg (entC e))
 | 1 => .eq (.pointer (some ⟨base, 42, none⟩))
 | 5 => .eq (.string more)
 | 2 => .eq (.slice A l.length c)
 | 3 => .eq (.int .i64 f)
 | 4 => .eq (.int .i64 f)
 | 6 => .eq (.int .i64 more.size)
 | 7 => .eq (.int .i64 t)
 | 8 => .eq (.agg #[.int .i64 f, .int .i64 t])
 | 9 => ⟨fun v w => ∃ (A' : Option Addr) (c' : Nat) (out : List Sp), v = .slice A' out.length c' ∧ P out ∧ OwnsSp (base + 2) w A' c' out, fun v w w' ⟨A', c', out, h1, h2, h3⟩ hx => ⟨A', c', out, h1, h2, h3.ext hx⟩⟩
 | 10 => .eq bb
 | 11 => ⟨fun v w => ∃ u, v = .tuple #[u, .int .i64 N] ∧ RS.S u w, fun v w w' ⟨u, h1, h2⟩ hx => ⟨u, h1, RS.on _ _ _ h2 hx⟩⟩
 | 12 => RS
 | 13 => .eq (.int .i64 N)
 | _ => .any
theorem put_any (e : En) (A : Option Addr) (c : Nat) (l : List Sp) (f : Nat) (more : ByteArray) (w : World) (RS : Soft) (N : Int) (hv : e.hv = .slice A l.length c) (hw : e.whole = false) (hm0 : 0 < more.size) (h2 : (f : Int) + more.size ≤ e.st.size) (h3 : e.st.size ≤ 65536) (hb : (e.bytes.size : Int) = e.st.size)
  (hA : plainA A) (hbd : bdSp l) (hlen : l.length * 16 ≤ 140737488350000) (hr : ReadsSp w w.heap.size A l) (hRS2 : ∀ v W m vs, m < w.heap.size + 2 → RS.S v W → RS.S v (W.setCells m 0 vs)) (hRS : ∀ v W, RS.S v W → ∃ x, v = .agg (entC x) ∧ fitsRow 45 (entC x) = true)
  (HSet : ∀ (A' : Option Addr) (c' : Nat) (out : List Sp) (Ab : Option Addr) (cb : Nat) (W : World), Ext w W → (∃ srt, SortedOf (l ++ [((f : Int), (f : Int) + more.size)]) srt ∧ out = Sp.joined srt) → out.length ≤ l.length + 1 → OwnsSp (w.heap.size + 2) W A' c' out → ReadsB W W.heap.size Ab (Sha.over (bts e.bytes) f (bts more)) →
   Calls Tryz.prog 122 #[.agg (entC e), .slice A' out.length c', .slice Ab (Sha.over (bts e.bytes) f (bts more)).length cb] W fun e' w' => ∃ v, e' = .returned (.tuple #[v, .int .i64 N]) ∧ RS.S v w' ∧ Ext W w') :
  Calls Tryz.prog 72 #[.agg (entC e), .int .i64 f, .string more] w fun e' w' => ∃ v, e' = .returned (.tuple #[v, .int .i64 N]) ∧ RS.S v w' ∧ Ext w w' := by
 have hc44 : (entC e)[44]? = some (.bool false) := by rw [ent_g44, hw]
 have hc42 : (entC e)[42]? = some (.slice A l.length c) := by rw [ent_g42, hv]
 have HA := lh hA
 have HBd := lh hbd
 have HR := lh hr
 have HRS := lh hRS
 have HRS2 := lh hRS2
 have HS := lh HSet
 have HV := lh hv
 have d1 : decide ((f : Int) < 0) = false := by simp <;> omega
 have d2 : decide (e.st.size < (f : Int)) = false := by simp <;> omega
 have d3 : decide (e.st.size - (f : Int) < (more.size : Int)) = false := by simp <;> omega
 clear hA hbd hr hRS hRS2 HSet hv hw
 go_enter Tryz.func72, Tryz.ntmps72
 go_wp2
 rw [strConv]
 have hx0 : Ext w (Lib.bytesWorld ((w.alloc (.cells (entC e) 96)).alloc (.cells (entC noEn) 96)) 5 e.bytes) := (((Ext.refl w).alloc _).alloc _).trans (ext_bytes _ _ _)
 have hba : ByteAt (Lib.bytesWorld ((w.alloc (.cells (entC e) 96)).alloc (.cells (entC noEn) 96)) 5 e.bytes) (w.heap.size + 2) (bts e.bytes) := by
  have := bytes_at ((w.alloc (.cells (entC e) 96)).alloc (.cells (entC noEn) 96)) 5 e.bytes
  rw [World.size_alloc, World.size_alloc] at this
  exact this
 have hr1 : RowAt (Lib.bytesWorld ((w.alloc (.cells (entC e) 96)).alloc (.cells (entC noEn) 96)) 5 e.bytes) w.heap.size (entC e) := ((RowAt.new w (entC e) 96).alloc _).ext (ext_bytes _ _ _)
 have hr2 : RowAt (Lib.bytesWorld ((w.alloc (.cells (entC e) 96)).alloc (.cells (entC noEn) 96)) 5 e.bytes) (w.heap.size + 1) (entC noEn) := (RowAt.newAt (w := w.alloc (.cells (entC e) 96)) (by simp)).ext (ext_bytes _ _ _)
 have hge := grownCap_ge ((w.alloc (.cells (entC e) 96)).alloc (.cells (entC noEn) 96)) e.bytes.size 0 5
 generalize grownCap ((w.alloc (.cells (entC e) 96)).alloc (.cells (entC noEn) 96)) e.bytes.size 0 5 = cap at *
 generalize Lib.bytesWorld ((w.alloc (.cells (entC e) 96)).alloc (.cells (entC noEn) 96)) 5 e.bytes = W at *
 have hbl : (bts e.bytes).length = e.bytes.size := bts_length _
 have hml : (bts more).length = more.size := bts_length _
 have hroom : roomOf W (w.heap.size + 2) f more.size = true := hba.room f more.size (by omega)
 have HX0 := lh hx0
 have HBA := lh hba
 have HR1 := lh hr1
 have HR2 := lh hr2
 have hq1 : f + more.size ≤ cap := by omega
 have hq2 : f < cap := by omega
 have hq3 : more.size ≠ 0 := by omega
 have hq4 : more.toList.isEmpty = false := str_some more hm0
 clear hx0 hba hr1 hr2 d1 d2 d3
 go_wp2
 rw [run_copy_str (P := Tryz.prog) W 154 9 3 5 (w.heap.size + 1 + 1) f more.size more.size more (by kernel_rfl) u8_size (by rw [Nat.min_self]; exact hroom), Nat.min_self, List.take_of_length_le (by simp [cells8, bts_length])]
 have hxa : Ext w (W.setCells (w.heap.size + 1 + 1) f (cells8 (bts more)).toList) := HX0.out.setCells (by omega) _ _
 have hbb : ByteAt (W.setCells (w.heap.size + 1 + 1) f (cells8 (bts more)).toList) (w.heap.size + 2) (Sha.over (bts e.bytes) f (bts more)) := HBA.out.copied (by omega)
 have hra : RowAt (W.setCells (w.heap.size + 1 + 1) f (cells8 (bts more)).toList) w.heap.size (entC e) := HR1.out.others (by omega) _ _
 have hrb : RowAt (W.setCells (w.heap.size + 1 + 1) f (cells8 (bts more)).toList) (w.heap.size + 1) (entC noEn) := HR2.out.others (by omega) _ _
 generalize W.setCells (w.heap.size + 1 + 1) f (cells8 (bts more)).toList = W2 at *
 have hol : (Sha.over (bts e.bytes) f (bts more)).length = e.bytes.size := by rw [over_len (by omega), bts_length]
 have HOl := lh hol
 have hrow : rowOf W2 w.heap.size 0 45 = some (entC e) := hra.all (ent_size e).symm (by omega)
 have hroom2 : roomOf W2 (w.heap.size + 1) 0 45 = true := by rw [hrb.room]; rfl
 have hca : W2.cell? ⟨w.heap.size, 42, none⟩ = some (.slice A l.length c) := (hra.cell 42).trans hc42
 have hl1 := hra.lt
 have hl2 := hrb.lt
 have HX := lh hxa
 have HBB := lh hbb
 have HRb := lh hrb
 clear hxa hbb hra hrb HX0 HBA HR1 HR2 hroom hol hc42 hc44
 go_wp2
 refine wp_region_soft 14 (putSoft e A c l f more (f + more.size) w.heap.size (.slice (some ⟨w.heap.size + 1 + 1, 0, none⟩) e.bytes.size cap) (fun out => (∃ srt, SortedOf (l ++ [((f : Int), (f : Int) + more.size)]) srt ∧ out = Sp.joined srt) ∧ out.length ≤ l.length + 1) RS N) (by kernel_rfl) (by kernel_rfl) (lt_cons ?_ (lt_cons ?_ (lt_cons ?_ (lt_cons ?_ (lt_cons ?_ (lt_cons ?_ (lt_cons ?_ (lt_cons ?_ (lt_cons ?_ (lt_cons ?_ (lt_cons ?_ (lt_cons ?_ (lt_cons ?_ (lt_cons ?_ lt_none)))))))))))))) ?_
 ·refine sop rfl fun xs W HW hsW HD Q' HQ => ?_; simp only [fillAt, dstOf, lc0, lcs, obs, Act.put, lsa, lsz, lss, nz, Nat.reduceAdd] at HQ ⊢
  have hrow0 : rowOf W w.heap.size 0 45 = some (entC e) := by rw [rowOf_congr (w := W2) (fun i _ => HW.out.cell (p := ⟨w.heap.size, 0 + i, none⟩) hl1)]; exact hrow
  go_wp2
  exact HQ.out _ _ (eR _) rfl
 ·refine sop rfl fun xs W HW hsW HD Q' HQ => ?_; simp only [fillAt, dstOf, lc0, lcs, obs, Act.put, lsa, lsz, lss, nz, Nat.reduceAdd] at HQ ⊢
  go_wp2
  exact HQ.out _ _ (eR _) rfl
 ·refine sop rfl fun xs W HW hsW HD Q' HQ => ?_; simp only [fillAt, dstOf, lc0, lcs, obs, Act.put, lsa, lsz, lss, nz, Nat.reduceAdd] at HQ ⊢
  have h1 : xs 1 = .pointer (some ⟨w.heap.size, 42, none⟩) := (HD.out 1 (dk (by kernel_rfl)))
  generalize xs 1 = x1 at h1 HQ ⊢; subst h1
  have hca0 : W.cell? ⟨w.heap.size, 42, none⟩ = some (.slice A l.length c) := (HW.out.cell (p := ⟨w.heap.size, 42, none⟩) hl1).trans hca
  go_wp2
  exact HQ.out _ _ (eR _) rfl
 ·refine sop rfl fun xs W HW hsW HD Q' HQ => ?_; simp only [fillAt, dstOf, lc0, lcs, obs, Act.put, lsa, lsz, lss, nz, Nat.reduceAdd] at HQ ⊢
  go_wp2
  exact HQ.out _ _ (eR _) rfl
 ·refine sop rfl fun xs W HW hsW HD Q' HQ => ?_; simp only [fillAt, dstOf, lc0, lcs, obs, Act.put, lsa, lsz, lss, nz, Nat.reduceAdd] at HQ ⊢
  go_wp2
  exact HQ.out _ _ (eR _) rfl
 ·refine sop rfl fun xs W HW hsW HD Q' HQ => ?_; simp only [fillAt, dstOf, lc0, lcs, obs, Act.put, lsa, lsz, lss, nz, Nat.reduceAdd] at HQ ⊢
  go_wp2
  exact HQ.out _ _ (eR _) rfl
 ·refine sop rfl fun xs W HW hsW HD Q' HQ => ?_; simp only [fillAt, dstOf, lc0, lcs, obs, Act.put, lsa, lsz, lss, nz, Nat.reduceAdd] at HQ ⊢
  have h5 : xs 5 = .string more := (HD.out 5 (dk (by kernel_rfl)))
  generalize xs 5 = x5 at h5 HQ ⊢; subst h5
  go_wp2
  exact HQ.out _ _ (eR _) rfl
 ·refine sop rfl fun xs W HW hsW HD Q' HQ => ?_; simp only [fillAt, dstOf, lc0, lcs, obs, Act.put, lsa, lsz, lss, nz, Nat.reduceAdd] at HQ ⊢
  have h4 : xs 4 = .int .i64 (f : Int) := (HD.out 4 (dk (by kernel_rfl)))
  generalize xs 4 = x4 at h4 HQ ⊢; subst h4
  have h6 : xs 6 = .int .i64 (more.size : Int) := (HD.out 6 (dk (by kernel_rfl)))
  generalize xs 6 = x6 at h6 HQ ⊢; subst h6
  go_wp2
  exact HQ.out _ _ (eR _) rfl
 ·refine sop rfl fun xs W HW hsW HD Q' HQ => ?_; simp only [fillAt, dstOf, lc0, lcs, obs, Act.put, lsa, lsz, lss, nz, Nat.reduceAdd] at HQ ⊢
  have h3 : xs 3 = .int .i64 (f : Int) := (HD.out 3 (dk (by kernel_rfl)))
  generalize xs 3 = x3 at h3 HQ ⊢; subst h3
  have h7 : xs 7 = .int .i64 ((f : Int) + more.size) := (HD.out 7 (dk (by kernel_rfl)))
  generalize xs 7 = x7 at h7 HQ ⊢; subst h7
  go_wp2
  exact HQ.out _ _ (eR _) rfl
 ·refine sop rfl fun xs W HW hsW HD Q' HQ => ?_; simp only [fillAt, dstOf, lc0, lcs, obs, Act.put, lsa, lsz, lss, nz, Nat.reduceAdd] at HQ ⊢
  have h2 : xs 2 = .slice A l.length c := (HD.out 2 (dk (by kernel_rfl)))
  generalize xs 2 = x2 at h2 HQ ⊢; subst h2
  have h8 : xs 8 = .agg #[.int .i64 (f : Int), .int .i64 ((f : Int) + more.size)] := (HD.out 8 (dk (by kernel_rfl)))
  generalize xs 8 = x8 at h8 HQ ⊢; subst h8
  go_wp2_with (go_at_call 123; refine (add_any A c l ((f : Int), (f : Int) + more.size) _ HA.out (fun s hs => by
    rcases List.mem_append.1 hs with hs | hs
    ·exact HBd.out s hs
    ·simp at hs; subst hs; exact ⟨by show (-4611686018427387904 : Int) ≤ f; omega, by show (f : Int) ≤ _; omega⟩) (by omega) (HR.out.on (HX.out.trans HW.out))).mono ?_; rintro e' w1 ⟨A', c', out, rfl, HSo, hol', ho, hx⟩)
  exact HQ.out _ _ hx ⟨A', c', out, rfl, ⟨HSo.out, hol'⟩, ho.lower (by have := HBB.out.1; have := HW.out.size; omega)⟩
 ·refine sop rfl fun xs W HW hsW HD Q' HQ => ?_; simp only [fillAt, dstOf, lc0, lcs, obs, Act.put, lsa, lsz, lss, nz, Nat.reduceAdd] at HQ ⊢
  go_wp2
  exact HQ.out _ _ (eR _) rfl
 ·refine sop rfl fun xs W HW hsW HD Q' HQ => ?_; simp only [fillAt, dstOf, lc0, lcs, obs, Act.put, lsa, lsz, lss, nz, Nat.reduceAdd] at HQ ⊢
  have h0 : xs 0 = .agg (entC e) := (HD.out 0 (dk (by kernel_rfl)))
  obtain ⟨A', c', out, h9, ⟨hp1, hp2⟩, ho⟩ : ∃ (A' : Option Addr) (c' : Nat) (out : List Sp), xs 9 = .slice A' out.length c' ∧ ((∃ srt, SortedOf (l ++ [((f : Int), (f : Int) + more.size)]) srt ∧ out = Sp.joined srt) ∧ out.length ≤ l.length + 1) ∧ OwnsSp (w.heap.size + 2) W A' c' out := (HD.out 9 (dk (by kernel_rfl)))
  have h10 : xs 10 = .slice (some ⟨w.heap.size + 1 + 1, 0, none⟩) e.bytes.size cap := (HD.out 10 (dk (by kernel_rfl)))
  generalize xs 0 = x0 at h0 HQ ⊢; subst h0
  generalize xs 9 = x9 at h9 HQ ⊢; subst h9
  generalize xs 10 = x10 at h10 HQ ⊢; subst h10
  have HP1 := lh hp1
  have HO := lh ho
  clear hp1 ho
  go_wp2_with (go_at_call 122; rw [← HOl.out]; refine (HS.out A' c' out (some ⟨w.heap.size + 1 + 1, 0, none⟩) cap _ (HX.out.trans HW.out) HP1.out hp2 HO.out ((HBB.out.ext HW.out).reads)).mono ?_; rintro e' w1 ⟨v, rfl, hrs, hx⟩)
  rw [HOl.out]
  exact HQ.out _ _ hx ⟨v, rfl, hrs⟩
 ·refine sop rfl fun xs W HW hsW HD Q' HQ => ?_; simp only [fillAt, dstOf, lc0, lcs, obs, Act.put, lsa, lsz, lss, nz, Nat.reduceAdd] at HQ ⊢
  obtain ⟨u, h11, hu⟩ : ∃ u, xs 11 = .tuple #[u, .int .i64 N] ∧ RS.S u W := (HD.out 11 (dk (by kernel_rfl)))
  generalize xs 11 = x11 at h11 HQ ⊢; subst h11
  go_wp2
  exact HQ.out _ _ (eR _) hu
 ·refine sop rfl fun xs W HW hsW HD Q' HQ => ?_; simp only [fillAt, dstOf, lc0, lcs, obs, Act.put, lsa, lsz, lss, nz, Nat.reduceAdd] at HQ ⊢
  obtain ⟨u, h11, hu⟩ : ∃ u, xs 11 = .tuple #[u, .int .i64 N] ∧ RS.S u W := (HD.out 11 (dk (by kernel_rfl)))
  generalize xs 11 = x11 at h11 HQ ⊢; subst h11
  go_wp2
  exact HQ.out _ _ (eR _) rfl
 ·intro xs W hW hS
  have h12 : RS.S (xs 12) W := hS 12 (by omega)
  have h13 : xs 13 = .int .i64 N := hS 13 (by omega)
  obtain ⟨x, hx, hf⟩ := HRS.out _ _ h12
  simp only [fillAt, dstOf, lc0, lcs, obs, Act.put, lsa, lsz, lss, nz, Nat.reduceAdd, List.drop_succ_cons, List.drop_zero]
  generalize xs 12 = x12 at *; subst hx
  generalize xs 13 = x13 at *; subst h13
  have H12 := lh h12
  have HW := lh hW
  have hrr : RowAt W (w.heap.size + 1) (entC noEn) := HRb.out.ext hW
  have hroom3 : roomOf W (w.heap.size + 1) 0 45 = true := by rw [hrr.room]; rfl
  have HRR := lh hrr
  clear h12 hW hS hrr
  go_wp2
  refine post_two (v1 := .agg (entC x)) (v2 := .int .i64 N) Tryz.results72 rfl ⟨_, rfl, ent_loaded (row_stored HRR.out (ent_size _) (ent_size _))⟩ rfl ⟨_, rfl, HRS2.out _ _ _ _ (by omega) H12.out, (HX.out.trans HW.out).setCells (by omega) _ _⟩
end Go.Proofs.YtmgekdggahoboaaGreatDoor
namespace Go.Proofs.YtmgekdggahoboaaGreatDoor
open Go.RowKit Go.Shelf
open Go.Proofs
open Go.Proofs.Sp (Sp)
theorem lastB_iff {l : List Sp} {n : Int} (hs : Sp.IsSet l) : lastB l n = true ↔ ∀ s ∈ l, s.2 ≤ n := by
 unfold lastB
 simp only [Bool.or_eq_true, decide_eq_true_eq]
 constructor
 ·rintro (h | h) s hs'
  ·rw [List.eq_nil_of_length_eq_zero h] at hs'; cases hs'
  ·obtain ⟨i, hi, rfl⟩ := List.getElem_of_mem hs'
   rw [getD_at (show l.length - 1 < l.length by omega)] at h
   by_cases e : i = l.length - 1
   ·subst e; exact h
   ·have h1 := List.pairwise_iff_getElem.1 hs.1 i (l.length - 1) hi (by omega) (by omega)
    have h2 := hs.2 _ (List.getElem_mem (show l.length - 1 < l.length by omega))
    omega
 ·intro h
  by_cases h0 : l.length = 0
  ·exact .inl h0
  ·right
   rw [getD_at (show l.length - 1 < l.length by omega)]
   exact h _ (List.getElem_mem _)
theorem setIn_iff {l : List Sp} {n : Int} (hn : n ≤ 1099511627776) : (setB l = true ∧ lastB l n = true) ↔ SetIn l n := by
 constructor
 ·rintro ⟨h1, h2⟩
  have h3 := setB_set h1
  exact ⟨h3.1, fun s hs => ⟨(h3.2 s hs).1, (lastB_iff h3.1).1 h2 s hs⟩⟩
 ·intro h
  refine ⟨set_setB ⟨h.1, fun s hs => ⟨(h.2 s hs).1, by have := (h.2 s hs).2; omega⟩⟩, (lastB_iff h.1).2 (fun s hs => (h.2 s hs).2)⟩
structure Val (e : En) (l : List Sp) : Prop where
 rt : rightB e.st = true
 z0 : 0 ≤ e.st.size
 sz : e.st.size ≤ 65536
 bs : (e.bytes.size : Int) = e.st.size
 si : SetIn l e.st.size
 zr : ∀ k : Nat, k < e.bytes.size → (bts e.bytes).getD k 0 = 0 ∨ Sp.mem l k
 wh : e.whole = fullB l e.st.size
 dg : e.whole = true → Wire.digest 34 [bts e.bytes] = e.st.body
theorem rightB_z {s : St} (h : rightB s = true) : 0 ≤ s.size ∧ s.size ≤ 1099511627776 := by
 simp only [rightB, Bool.and_eq_true, decide_eq_true_eq] at h
 omega
theorem zeroB_iff {b : ByteArray} {l : List Sp} : zeroB b l = true ↔ ∀ k : Nat, k < b.size → (bts b).getD k 0 = 0 ∨ Sp.mem l k := by
 unfold zeroB zeroAt
 rw [List.all_eq_true]
 constructor
 ·intro h k hk
  have := h k (List.mem_range.2 hk)
  simp only [Bool.or_eq_true, decide_eq_true_eq, hasB_iff] at this
  exact this
 ·intro h k hk
  simp only [Bool.or_eq_true, decide_eq_true_eq, hasB_iff]
  exact h k (List.mem_range.1 hk)
theorem val_iff {e : En} {l : List Sp} : validB e l = true ↔ Val e l := by
 unfold validB
 simp only [Bool.and_eq_true, decide_eq_true_eq, beq_iff_eq, Bool.or_eq_true, Bool.not_eq_true']
 constructor
 ·rintro ⟨⟨⟨⟨⟨⟨⟨h1, h2⟩, h3⟩, h4⟩, h5⟩, h6⟩, h7⟩, h8⟩
  refine ⟨h1, (rightB_z h1).1, h3, h4, (setIn_iff (by omega)).1 ⟨h2, h5⟩, zeroB_iff.1 h6, h7, fun hw => ?_⟩
  rw [h7] at hw
  rcases h8 with h8 | h8
  ·rw [hw] at h8; cases h8
  ·exact h8
 ·intro h
  have hsz := h.sz
  obtain ⟨k1, k2⟩ := (setIn_iff (by omega)).2 h.si
  refine ⟨⟨⟨⟨⟨⟨⟨h.rt, k1⟩, h.sz⟩, h.bs⟩, k2⟩, zeroB_iff.2 h.zr⟩, h.wh⟩, ?_⟩
  cases hf : fullB l e.st.size with
  | false => exact .inl rfl
  | true => exact .inr (h.dg (h.wh.trans hf))
theorem bts_app (a b : ByteArray) : bts (a ++ b) = bts a ++ bts b := by
 unfold bts
 rw [ByteArray.data_append, Array.toList_append, List.map_append]
theorem bts_ext_at (b : ByteArray) (i j : Nat) : bts (b.extract i j) = ((bts b).drop i).take (j - i) := by
 unfold bts
 rw [Lib.extract_eq, List.map_take, List.map_drop]
end Go.Proofs.YtmgekdggahoboaaGreatDoor
namespace Go.Proofs.YtmgekdggahoboaaGreatDoor
open Go.RowKit Go.Shelf
open Go.Proofs
open Go.Proofs.Sp (Sp)
theorem extract_sz {b : ByteArray} {i j : Nat} (h : j ≤ b.size) : (b.extract i j).size = j - i := by
 rw [← bts_length, bts_ext_at, List.length_take, List.length_drop, bts_length]; omega
end Go.Proofs.YtmgekdggahoboaaGreatDoor
namespace Go.Proofs.YtmgekdggahoboaaGreatDoor
open Go.RowKit Go.Shelf
open Go.Proofs
open Go.Proofs.Sp (Sp)
def PartOf (w : ByteArray) (p : Int × ByteArray) : Prop := 0 ≤ p.1 ∧ p.1 + p.2.size ≤ w.size ∧ w.extract p.1.toNat (p.1.toNat + p.2.size) = p.2
theorem part_get {w : ByteArray} {p : Int × ByteArray} (h : PartOf w p) {k : Nat} (h1 : p.1.toNat ≤ k) (h2 : k < p.1.toNat + p.2.size) : (bts p.2).getD (k - p.1.toNat) 0 = (bts w).getD k 0 := by
 have e := h.2.2
 rw [← e, bts_ext_at, List.getD_eq_getElem?_getD, List.getElem?_take, if_pos (by omega), List.getElem?_drop, show p.1.toNat + (k - p.1.toNat) = k by omega, ← List.getD_eq_getElem?_getD]
theorem covers_full {l : List Sp} {n : Int} {b : Bool} (h : coversB l (0, n) b) : b = fullB l n := by
 rw [Bool.eq_iff_iff, fullB_iff]
 exact h
end Go.Proofs.YtmgekdggahoboaaGreatDoor

namespace Go.Proofs.YtmgekdggahoboaaGreatDoor
open Go.RowKit Go.Shelf
open Go.Proofs
open Go.Proofs.Sp (Sp)
theorem put_whole (e : En) (A : Option Addr) (n c : Nat) (f : Int) (more : ByteArray) (w : World) (hv : e.hv = .slice A n c) (hw : e.whole = true) :
  Calls Tryz.prog 72 #[.agg (entC e), .int .i64 f, .string more] w fun e' w' => e' = .returned (.tuple #[.agg (entC e), .int .i64 4]) ∧ Ext w w' := by
 have hc44 : (entC e)[44]? = some (.bool true) := by rw [ent_g44, hw]
 have hf : fitsRow 45 (entC e) = true := ent_fits_of hv
 go_enter Tryz.func72, Tryz.ntmps72
 go_wp2
 refine post_two (v1 := .agg (entC e)) (v2 := .int .i64 4) Tryz.results72 rfl ⟨_, rfl, ent_loaded (row_stored (RowAt.newAt (cs := entC noEn) (t := 96) (by simp)) (ent_size _) (ent_size _))⟩ rfl ⟨rfl, (by (with_reducible repeat first|exact eR _|apply eD|apply eN|apply eA|apply eO|apply eS|apply eC);all_goals first|omega|simp <;> omega)⟩
theorem begin_any (s : St) (w : World) (h1 : s.addr.size ≤ 4096) (h2 : s.var.size ≤ 4096) (h3 : s.tags.size ≤ 4096) (h : rightB s = true) (h4 : 0 < s.size) (h5 : s.size ≤ 65536) :
  Calls Tryz.prog 70 #[.agg (stmC s)] w fun e' w' => e' = .returned (.tuple #[.agg (entC (emptyEn s false)), .int .i64 0]) ∧ Ext w w' := by
 have H := lh h
 have hne : (s.size == 0) = false := by rw [beq_eq_false_iff_ne]; omega
 have d1 : decide (65536 < s.size) = false := by simp <;> omega
 have hf : fitsRow 45 (entC (emptyEn s false)) = true := ent_fits_of rfl
 clear h
 go_enter Tryz.func70, Tryz.ntmps70
 go_wp2_with (go_at_call 119; refine (right_ok s _ h1 h2 h3 H.out).mono ?_; rintro e w' ⟨rfl, hxl⟩; obtain ⟨xl, rfl⟩ := hxl.asLater; clear hxl)
 refine wp_region_later (by kernel_rfl) (by kernel_rfl) ?_
 repeat (first | go_big_quiet_step (fail) | quiet_step (fail))
 refine wpQuiet_nil ?_
 rintro _ ⟨xq, rfl⟩
 go_wp2_with (go_at_call 121; refine (empty_any s false _ (by omega) h5).mono ?_; rintro e w' ⟨rfl, hxl⟩; obtain ⟨xl, rfl⟩ := hxl.asLater; clear hxl)
 refine post_two (v1 := .agg (entC (emptyEn s false))) (v2 := .int .i64 0) Tryz.results70 rfl ⟨_, rfl, ent_loaded (row_stored ((by (repeat (first | with_reducible exact RowAt.newAt (cs := entC noEn) (t := 96) (by simp) | with_reducible refine RowAt.drew ?_ | with_reducible refine RowAt.later ?_ _ | with_reducible exact RowAt.newAt (by first | rfl | omega | (simp [later_size, setCells_size]; done) | (simp [later_size, setCells_size]; omega)) | with_reducible refine RowAt.alloc ?_ _ | with_reducible apply RowAt.store | with_reducible refine RowAt.others ?_ ?_ _ _ | with_reducible refine RowAt.other ?_ ?_ _)); all_goals first | omega | (simp; done) | (simp; omega) | (simp [go_sem]; done))) (ent_size _) (ent_size _))⟩ rfl ⟨rfl, (by (with_reducible repeat first|exact eR _|apply eD|apply eN|apply eA|apply eO|apply eS|apply eC);all_goals first|omega|simp <;> omega)⟩
theorem emissing_any (e : En) (A : Option Addr) (c : Nat) (l : List Sp) (s1 s2 : Int) (w : World) (hv : e.hv = .slice A l.length c) (h0 : 0 ≤ s1) (h1 : s1 < e.st.size) (h2 : e.st.size ≤ s2) (h3 : e.st.size ≤ 65536)
  (hs : Sp.IsSet l) (hb : bd2 l) (hlen : l.length * 32 ≤ 140737488340000) (hr : ReadsSp w w.heap.size A l) (z : A = none → c = 0) :
  Calls Tryz.prog 73 #[.agg (entC e), .agg #[.int .i64 s1, .int .i64 s2]] w fun e' w' => ∃ A' c' out, e' = .returned (.slice A' out.length c') ∧ Hid (SetOf (fun x => (s1 ≤ x ∧ x < e.st.size) ∧ ¬ Sp.mem l x) out) ∧ OwnsSp w.heap.size w' A' c' out ∧ Ext w w' := by
 have hc42 : (entC e)[42]? = some (.slice A l.length c) := by rw [ent_g42, hv]
 have HR := lh hr
 have HZ := lh z
 have HS := lh hs
 have HB := lh hb
 have hmx : max s1 0 = s1 := by omega
 have hmn : min s2 e.st.size = e.st.size := by omega
 clear hr z hs hb
 go_enter Tryz.func73, Tryz.ntmps73
 go_wp2
 go_region
 all_goals
  go_wp2_with (go_at_call 124; refine (missing_any A c l (s1, e.st.size) _ HS.out HB.out ⟨⟨by show _ ≤ s1; omega, by show s1 ≤ _; omega⟩, by show _ ≤ e.st.size; omega, by show e.st.size ≤ _; omega⟩ (by omega) (HR.out.on (by (with_reducible repeat first|exact eR _|apply eD|apply eN|apply eA|apply eO|apply eS|apply eC);all_goals first|omega|simp <;> omega)) HZ.out).mono ?_; rintro e' w2 ⟨A2, c2, out, rfl, HS2, hol2, ho2, hx2⟩; have HO2 := lh ho2; have HX2 := lh hx2; clear ho2 hx2)
  go_ret
  exact ⟨A2, c2, out, rfl, HS2, HO2.out.lower (by simp <;> omega), Ext.trans (by (with_reducible repeat first|exact eR _|apply eD|apply eN|apply eA|apply eO|apply eS|apply eC);all_goals first|omega|simp <;> omega) HX2.out⟩
def stmBuild (a b c d p g s : Value) : Sem Next := do pure (.value (← Instr.build 52 #[(0, a), (2, b), (3, c), (4, d), (6, p), (7, g), (8, s)]))
theorem stmBuild_x (ρ : Operand → Value) (dst : Option Tmp) (x0 x2 x3 x4 x6 x7 x8 : Operand) (t : TypeId) (pos : String) (after : Array Edge) (guard : Option (Nat × Bool)) : execOp ρ { dst, op := .build 52 #[(0, x0), (2, x2), (3, x3), (4, x4), (6, x6), (7, x7), (8, x8)], type := t, pos, after, guard } = stmBuild (ρ x0) (ρ x2) (ρ x3) (ρ x4) (ρ x6) (ρ x7) (ρ x8) := by kernel_rfl
theorem stmBuild_run (a : ByteArray) (st sz : Int) (D : List Int) (lo hi g s : Int) (W : World) : (stmBuild (.string a) (.int .i64 st) (.int .i64 sz) (.agg (dgC D)) (.agg #[.int .i64 lo, .int .i64 hi]) (.int .i64 g) (.int .i64 s)).run Tryz.prog W = .ok (.value (.agg (stmC ⟨a, ByteArray.empty, st, sz, D, ByteArray.empty, lo, hi, g, s, zeros32 16⟩))) W := by kernel_rfl
attribute [go_sem ↓] stmBuild_x
attribute [go_sem] stmBuild_run
def abcdef : ByteArray := ⟨#[97, 98, 99, 100, 101, 102]⟩
def theSt (D : List Int) : St := ⟨⟨#[47, 97]⟩, ByteArray.empty, 200, 6, D, ByteArray.empty, 100, 110, 7, 1, zeros32 16⟩
theorem rdigest_d (s : ByteArray) (D : List Int) (w : World) (hk : RKonst w) (hl : s.size ≤ 140737488351200) (h : Wire.digest 34 [bts s] = D) (h16 : D.length = 16) :
  Calls Tryz.prog 82 #[.string s] w fun e w' => e = .returned (.agg (dgC D)) ∧ Ext w w' := by
 rw [dgC_cells h16]; exact rdigest_is s D w hk hl h
theorem stamp_ok (D : List Int) (w : World) (hk : RKonst w) (hD : Wire.digest 34 [bts abcdef] = D) (h16 : D.length = 16) : Calls Tryz.prog 71 #[] w fun e' w' => e' = .returned (.agg (stmC (theSt D))) ∧ Ext w w' := by
 have HK := lh hk
 have HD : Hid (Wire.digest 34 [bts ⟨#[97, 98, 99, 100, 101, 102]⟩] = D) := lh hD
 have H16 := lh h16
 clear hk hD h16
 go_enter Tryz.func71, Tryz.ntmps71
 go_wp2_with (go_at_call 82; refine (rdigest_d ⟨#[97, 98, 99, 100, 101, 102]⟩ D _ (HK.out.alloc _) (by decide) HD.out H16.out).mono ?_; rintro e w' ⟨rfl, hxl⟩; obtain ⟨xl, rfl⟩ := hxl.asLater; clear hxl)
 have h1 : RowAt (later (w.alloc (.cells (stmC noSt) 52)) xl) w.heap.size (stmC noSt) := RowAt.later (RowAt.new _ _ _) _
 refine post_row stm_ty Tryz.results71 rfl rfl (h1.stored (n := 41) rfl rfl (by omega)) ⟨rfl, (by (with_reducible repeat first|exact eR _|apply eD|apply eN|apply eA|apply eO|apply eS|apply eC);all_goals first|omega|simp <;> omega)⟩
end Go.Proofs.YtmgekdggahoboaaGreatDoor
namespace Go.Proofs.YtmgekdggahoboaaGreatDoor
theorem dig_ne : Wire.digest 34 [[97, 98, 99, 100, 101, 103]] ≠ Wire.digest 34 [[97, 98, 99, 100, 101, 102]] := by decide +kernel
end Go.Proofs.YtmgekdggahoboaaGreatDoor
namespace Go.Proofs.YtmgekdggahoboaaGreatDoor
open Go.RowKit Go.Shelf
open Go.Proofs
open Go.Proofs.Sp (Sp)
def abc : ByteArray := ⟨#[97, 98, 99]⟩
def def_ : ByteArray := ⟨#[100, 101, 102]⟩
def deg : ByteArray := ⟨#[100, 101, 103]⟩
def E0 (D : List Int) : En := emptyEn (theSt D) false
def E1 (D : List Int) (A : Option Addr) (c : Nat) : En := { E0 D with hv := .slice A 1 c, bytes := strOfNums [97, 98, 99, 0, 0, 0] }
def E2 (D : List Int) (A : Option Addr) (c : Nat) : En := { E1 D A c with hv := .slice A 1 c, bytes := strOfNums [97, 98, 99, 100, 101, 102], whole := true }
structure IsD (D : List Int) : Prop where
 len : D.length = 16
 byt : Byt D
 yes : Wire.digest 34 [[97, 98, 99, 100, 101, 102]] = D
 no : Wire.digest 34 [[97, 98, 99, 100, 101, 103]] ≠ D
theorem set_one {out : List Sp} {p : Int → Prop} (h : SetOf p out) {a b : Int} (hab : a < b) (hp : ∀ x, p x ↔ a ≤ x ∧ x < b) : out = [(a, b)] :=
 Sp.IsSet.ext h.1 (Sp.IsSet.one hab) (fun x => (h.2 x).trans ((hp x).trans (Sp.mem_one (a, b) x).symm))
theorem bd_one {a b : Int} (h0 : 0 ≤ a) (h1 : a ≤ 1000) (h2 : 0 ≤ b) (h3 : b ≤ 1000) : bd2 [(a, b)] := fun s hs => by
 simp at hs; subst hs
 exact ⟨⟨by show _ ≤ a; omega, by show a ≤ _; omega⟩, by show _ ≤ b; omega, by show b ≤ _; omega⟩
theorem bdSp_of {l : List Sp} (h : bd2 l) : bdSp l := fun s hs => (h s hs).1
def S1 (D : List Int) (base : Nat) (v : Value) (W : World) : Prop := ∃ A c, v = .agg (entC (E1 D A c)) ∧ OwnsSp base W A c [(0, 3)]
def S2 (D : List Int) (base : Nat) (v : Value) (W : World) : Prop := ∃ A c, v = .agg (entC (E2 D A c)) ∧ OwnsSp base W A c [(0, 6)]
theorem fits_E (e : En) (A : Option Addr) (n c : Nat) (h : e.hv = .slice A n c) : fitsRow 45 (entC e) = true := ent_fits_of h
theorem put1 (D : List Int) (w : World) (hk : Konst 4 w) : Calls Tryz.prog 72 #[.agg (entC (E0 D)), .int .i64 0, .string abc] w fun e' w' => ∃ v, e' = .returned (.tuple #[v, .int .i64 0]) ∧ S1 D (w.heap.size + 2) v w' ∧ Ext w w' := by
 refine put_any (E0 D) none 0 [] 0 abc w ⟨S1 D (w.heap.size + 2), fun v W W' ⟨A, c, h1, h2⟩ hx => ⟨A, c, h1, h2.ext hx⟩⟩ 0 rfl rfl (by decide) (by show (0 : Int) + 3 ≤ 6; decide) (by show (6 : Int) ≤ 65536; decide) (by show (6 : Int) = 6; rfl) (fun a h => by cases h) (fun s hs => by cases hs) (by decide) (Reads.nil _ _ _ _ _)
  (fun v W m vs hm ⟨A, c, h1, h2⟩ => ⟨A, c, h1, h2.others hm 0 vs⟩) (fun v W ⟨A, c, h1, _⟩ => ⟨_, h1, fits_E _ A 1 c rfl⟩) ?_
 intro A c out Ab cb W hx hsrt hol ho hrb
 have hset := of_set hsrt
 have e1 : out = [(0, 3)] := set_one hset (by decide) (fun x => by
  show Sp.mem [(0, 3)] x ↔ _
  exact Sp.mem_one (0, 3) x)
 subst e1
 have e2 : Sha.over (bts (E0 D).bytes) 0 (bts abc) = [97, 98, 99, 0, 0, 0] := by show Sha.over (bts (zb 6)) 0 (bts abc) = _; decide
 rw [e2] at hrb ⊢
 refine (settle_no (E0 D) none 0 0 A c [(0, 3)] Ab cb [97, 98, 99, 0, 0, 0] W rfl (by show (0 : Int) ≤ 6; decide) (by show (6 : Int) ≤ 65536; decide) (Sp.IsSet.one (by decide)) (bd_one (by decide) (by decide) (by decide) (by decide)) (by decide) (ho.reads spE) ho.none0 (by decide) (by decide) hrb (hk.ext hx) ⟨fun h => (by cases h), fun h => ?_⟩).mono ?_
 ·have := h 5 (by show (0 : Int) ≤ 5; decide) (by show (5 : Int) < 6; decide)
  rw [Sp.mem_one] at this
  exact absurd this.2 (by decide)
 ·rintro e' w' ⟨rfl, hx'⟩
  exact ⟨_, rfl, ⟨A, c, rfl, ho.ext hx'⟩, hx'⟩
theorem two_join (x : Int) : Sp.mem ([((0 : Int), (3 : Int))] ++ [((3 : Int), (6 : Int))]) x ↔ 0 ≤ x ∧ x < 6 := by
 rw [Sp.mem_append, Sp.mem_one, Sp.mem_one]
 show (0 ≤ x ∧ x < 3) ∨ (3 ≤ x ∧ x < 6) ↔ _
 omega
theorem cov6 : coversB [(0, 6)] (0, 6) true := ⟨fun _ x h1 h2 => (Sp.mem_one (0, 6) x).2 ⟨h1, h2⟩, fun _ => rfl⟩
theorem bts1 : bts (strOfNums [97, 98, 99, 0, 0, 0]) = [97, 98, 99, 0, 0, 0] := bts_nums (by decide)
theorem put2 (D : List Int) (hD : IsD D) (A : Option Addr) (c : Nat) (base : Nat) (w : World) (hk : Konst 4 w) (ho0 : OwnsSp base w A c [(0, 3)]) : Calls Tryz.prog 72 #[.agg (entC (E1 D A c)), .int .i64 3, .string deg] w fun e' w' => ∃ v, e' = .returned (.tuple #[v, .int .i64 8]) ∧ v = .agg (entC (E0 D)) ∧ Ext w w' := by
 refine put_any (E1 D A c) A c [(0, 3)] 3 deg w (.eq (.agg (entC (E0 D)))) 8 rfl rfl (by decide) (by show (3 : Int) + 3 ≤ 6; decide) (by show (6 : Int) ≤ 65536; decide) (by show ((strOfNums [97, 98, 99, 0, 0, 0]).size : Int) = 6; rw [strOfNums_size]; decide) ho0.plain (bdSp_of (bd_one (by decide) (by decide) (by decide) (by decide))) (by decide) (ho0.reads spE)
  (fun v W m vs hm h => h) (fun v W h => ⟨_, h, fits_E _ none 0 0 rfl⟩) ?_
 intro A' c' out Ab cb W hx hsrt hol ho hrb
 have hset := of_set hsrt
 have e1 : out = [(0, 6)] := set_one hset (by decide) two_join
 subst e1
 have e2 : Sha.over (bts (E1 D A c).bytes) 3 (bts deg) = [97, 98, 99, 100, 101, 103] := by show Sha.over (bts (strOfNums [97, 98, 99, 0, 0, 0])) 3 (bts deg) = _; rw [bts1]; decide
 rw [e2] at hrb ⊢
 refine (settle_bad (E1 D A c) A 1 c A' c' [(0, 6)] Ab cb [97, 98, 99, 100, 101, 103] W rfl (by show (0 : Int) ≤ 6; decide) (by show (6 : Int) ≤ 65536; decide) (Sp.IsSet.one (by decide)) (bd_one (by decide) (by decide) (by decide) (by decide)) (by decide) (ho.reads spE) ho.none0 (by decide) (by decide) hrb (hk.ext hx) cov6 hD.len hD.byt ?_).mono ?_
 ·rw [bts_nums (by decide)]
  exact hD.no
 ·rintro e' w' ⟨rfl, hx'⟩
  exact ⟨_, rfl, rfl, hx'⟩
theorem put3 (D : List Int) (hD : IsD D) (A : Option Addr) (c : Nat) (base : Nat) (w : World) (hk : Konst 4 w) (ho0 : OwnsSp base w A c [(0, 3)]) : Calls Tryz.prog 72 #[.agg (entC (E1 D A c)), .int .i64 3, .string def_] w fun e' w' => ∃ v, e' = .returned (.tuple #[v, .int .i64 0]) ∧ S2 D (w.heap.size + 2) v w' ∧ Ext w w' := by
 refine put_any (E1 D A c) A c [(0, 3)] 3 def_ w ⟨S2 D (w.heap.size + 2), fun v W W' ⟨A, c, h1, h2⟩ hx => ⟨A, c, h1, h2.ext hx⟩⟩ 0 rfl rfl (by decide) (by show (3 : Int) + 3 ≤ 6; decide) (by show (6 : Int) ≤ 65536; decide) (by show ((strOfNums [97, 98, 99, 0, 0, 0]).size : Int) = 6; rw [strOfNums_size]; decide) ho0.plain (bdSp_of (bd_one (by decide) (by decide) (by decide) (by decide))) (by decide) (ho0.reads spE)
  (fun v W m vs hm ⟨A, c, h1, h2⟩ => ⟨A, c, h1, h2.others hm 0 vs⟩) (fun v W ⟨A, c, h1, _⟩ => ⟨_, h1, fits_E _ A 1 c rfl⟩) ?_
 intro A' c' out Ab cb W hx hsrt hol ho hrb
 have hset := of_set hsrt
 have e1 : out = [(0, 6)] := set_one hset (by decide) two_join
 subst e1
 have e2 : Sha.over (bts (E1 D A c).bytes) 3 (bts def_) = [97, 98, 99, 100, 101, 102] := by show Sha.over (bts (strOfNums [97, 98, 99, 0, 0, 0])) 3 (bts def_) = _; rw [bts1]; decide
 rw [e2] at hrb ⊢
 refine (settle_ok (E1 D A c) A 1 c A' c' [(0, 6)] Ab cb [97, 98, 99, 100, 101, 102] W rfl (by show (0 : Int) ≤ 6; decide) (by show (6 : Int) ≤ 65536; decide) (Sp.IsSet.one (by decide)) (bd_one (by decide) (by decide) (by decide) (by decide)) (by decide) (ho.reads spE) ho.none0 (by decide) (by decide) hrb (hk.ext hx) cov6 hD.len hD.byt ?_).mono ?_
 ·rw [bts_nums (by decide)]
  exact hD.yes
 ·rintro e' w' ⟨rfl, hx'⟩
  exact ⟨_, rfl, ⟨A', c', rfl, ho.ext hx'⟩, hx'⟩
end Go.Proofs.YtmgekdggahoboaaGreatDoor
namespace Go.Proofs.YtmgekdggahoboaaGreatDoor
open Go.RowKit Go.Shelf
open Go.Proofs
open Go.Proofs.Sp (Sp)
theorem age_is (D : List Int) (A : Option Addr) (c : Nat) (lo hi n : Int) (w : World) (h2 : 0 ≤ hi) (h3 : hi ≤ 1099511627776) (h : max (hi - 100) 0 = n) : Calls Tryz.prog 74 #[.agg (entC (E2 D A c)), .agg #[.int .i64 lo, .int .i64 hi]] w fun e' w' => e' = .returned (.int .i64 n) ∧ Ext w w' := by
 subst h
 exact age_any (E2 D A c) lo hi w (by show (0 : Int) ≤ 100; decide) (by show (100 : Int) ≤ _; decide) h2 h3
theorem state_is (D : List Int) (A : Option Addr) (c : Nat) (r : Ru) (lo hi mode n : Int) (w : World) (h2 : 0 ≤ hi) (h3 : hi ≤ 1099511627776) (hr : RuR r) (h : stateN (E2 D A c) r (max (hi - 100) 0) mode = n) : Calls Tryz.prog 75 #[.agg (entC (E2 D A c)), .agg (ruC r), .agg #[.int .i64 lo, .int .i64 hi], .int .i64 mode] w fun e' w' => e' = .returned (.int .i64 n) ∧ Ext w w' := by
 subst h
 exact state_any (E2 D A c) r lo hi mode w (by show (0 : Int) ≤ 100; decide) (by show (100 : Int) ≤ _; decide) h2 h3 hr
def noRu : Ru := ⟨0, 0, 0, 0, .string ⟨#[]⟩, .string ⟨#[]⟩, .slice none 0 0, [.slice none 0 0, .int .i64 0, .int .i64 0, .string ⟨#[]⟩, .slice none 0 0, .slice none 0 0, .slice none 0 0, .int .i64 0, .bool false, .int .i64 0, .string ⟨#[]⟩]⟩
def theRu : Ru := { noRu with fresh := 50, stale := 20, down := 100, neg := 10 }
theorem rul_ty : RowTy Tryz.prog 50 18 := ⟨by kernel_rfl, by kernel_rfl⟩
theorem rul_ld (w : World) (b o : Nat) : (rowLoad 50 18 (.pointer (some ⟨b, o, none⟩))).run Tryz.prog w = rowLoadR Tryz.prog w 50 18 b o (rowOf w b o 18) := run_rowLoad rul_ty w b o
theorem rul_st (w : World) (b o : Nat) (cells : Array Value) : (rowStore 50 18 (.pointer (some ⟨b, o, none⟩)) (.agg cells)).run Tryz.prog w = rowStoreR Tryz.prog w 50 18 b o cells (roomOf w b o 18 && fitsRow 18 cells) := run_rowStore rul_ty w b o cells
theorem rul_al (w : World) : (rowAlloc 50).run Tryz.prog w = .ok (.value (.pointer (some ⟨w.heap.size, 0, none⟩))) (w.alloc (.cells (ruC noRu) 50)) := run_rowAlloc (by kernel_rfl) w
theorem rul_xl (ρ : Operand → Value) (dst : Option Tmp) (x : Operand) (t : TypeId) (pos : String) (after : Array Edge) (guard : Option (Nat × Bool)) : execOp ρ { dst, op := .load 50 x, type := t, pos, after, guard } = rowLoad 50 18 (ρ x) := rfl
theorem rul_xs (ρ : Operand → Value) (dst : Option Tmp) (x y : Operand) (t : TypeId) (pos : String) (after : Array Edge) (guard : Option (Nat × Bool)) : execOp ρ { dst, op := .store 50 x y, type := t, pos, after, guard } = rowStore 50 18 (ρ x) (ρ y) := rfl
theorem rul_xa (ρ : Operand → Value) (dst : Option Tmp) (t : TypeId) (pos : String) (after : Array Edge) (guard : Option (Nat × Bool)) : execOp ρ { dst, op := .alloc 50, type := t, pos, after, guard } = rowAlloc 50 := rfl
attribute [go_sem ↓] rul_xl rul_xs rul_xa
attribute [go_sem] rul_ld rul_st rul_al
def rulBuild (a b c d : Value) : Sem Next := do pure (.value (← Instr.build 50 #[(3, a), (4, b), (5, c), (6, d)]))
theorem rulBuild_x (ρ : Operand → Value) (dst : Option Tmp) (x3 x4 x5 x6 : Operand) (t : TypeId) (pos : String) (after : Array Edge) (guard : Option (Nat × Bool)) : execOp ρ { dst, op := .build 50 #[(3, x3), (4, x4), (5, x5), (6, x6)], type := t, pos, after, guard } = rulBuild (ρ x3) (ρ x4) (ρ x5) (ρ x6) := by kernel_rfl
theorem rulBuild_run (W : World) : (rulBuild (.int .i64 50) (.int .i64 20) (.int .i64 100) (.int .i64 10)).run Tryz.prog W = .ok (.value (.agg (ruC theRu))) W := by kernel_rfl
attribute [go_sem ↓] rulBuild_x
attribute [go_sem] rulBuild_run
theorem ruR_ex : RuR theRu := ⟨by show (0 : Int) ≤ 50; decide, by show (50 : Int) ≤ _; decide, by show (0 : Int) ≤ 20; decide, by show (20 : Int) ≤ _; decide, by show (0 : Int) ≤ 100; decide, by show (100 : Int) ≤ _; decide, by show (0 : Int) ≤ 10; decide, by show (10 : Int) ≤ _; decide⟩
theorem fits_ru : fitsRow 18 (ruC theRu) = true := by kernel_rfl
theorem ru_size : (ruC theRu).size = 18 := rfl
theorem noRu_size : (ruC noRu).size = 18 := rfl
theorem noru_all : rowSub (ruC noRu) 0 18 = some (ruC noRu) := rowSub_all _ _ rfl
attribute [local go_sem] fits_ru ru_size noRu_size noru_all
theorem fitsE0 (D : List Int) : fitsRow 45 (entC (E0 D)) = true := fits_E _ none 0 0 rfl
theorem fitsE1 (D : List Int) (A : Option Addr) (c : Nat) : fitsRow 45 (entC (E1 D A c)) = true := fits_E _ A 1 c rfl
theorem fitsE2 (D : List Int) (A : Option Addr) (c : Nat) : fitsRow 45 (entC (E2 D A c)) = true := fits_E _ A 1 c rfl
theorem E1_44 (D : List Int) (A : Option Addr) (c : Nat) : (entC (E1 D A c))[44]? = some (.bool false) := rfl
theorem E2_44 (D : List Int) (A : Option Addr) (c : Nat) : (entC (E2 D A c))[44]? = some (.bool true) := rfl
attribute [local go_sem] fitsE0 fitsE1 fitsE2
attribute [local go_sem ↓] E1_44 E2_44
theorem begin0 (D : List Int) (w : World) : Calls Tryz.prog 70 #[.agg (stmC (theSt D))] w fun e' w' => e' = .returned (.tuple #[.agg (entC (E0 D)), .int .i64 0]) ∧ Ext w w' :=
 begin_any (theSt D) w (by show 2 ≤ _; decide) (by show 0 ≤ _; decide) (by show 0 ≤ _; decide) (by rfl) (by show (0 : Int) < 6; decide) (by show (6 : Int) ≤ _; decide)
theorem miss1 (D : List Int) (A : Option Addr) (c base : Nat) (w : World) (ho : OwnsSp base w A c [(0, 3)]) : Calls Tryz.prog 73 #[.agg (entC (E1 D A c)), .agg #[.int .i64 0, .int .i64 9]] w fun e' w' => ∃ A' c', e' = .returned (.slice A' 1 c') ∧ OwnsSp w.heap.size w' A' c' [(3, 6)] ∧ Ext w w' := by
 refine (emissing_any (E1 D A c) A c [(0, 3)] 0 9 w rfl (by decide) (by show (0 : Int) < 6; decide) (by show (6 : Int) ≤ 9; decide) (by show (6 : Int) ≤ 65536; decide) (Sp.IsSet.one (by decide)) (bd_one (by decide) (by decide) (by decide) (by decide)) (by decide) (ho.reads spE) ho.none0).mono ?_
 rintro e' w' ⟨A', c', out, rfl, HS, ho', hx⟩
 have e1 : out = [(3, 6)] := set_one HS.out (by decide) (fun x => by
  rw [Sp.mem_one]
  show (0 ≤ x ∧ x < 6) ∧ ¬ (0 ≤ x ∧ x < 3) ↔ _
  omega)
 subst e1
 exact ⟨A', c', rfl, ho', hx⟩
theorem put4 (D : List Int) (A : Option Addr) (c : Nat) (w : World) : Calls Tryz.prog 72 #[.agg (entC (E2 D A c)), .int .i64 0, .string ⟨#[120]⟩] w fun e' w' => e' = .returned (.tuple #[.agg (entC (E2 D A c)), .int .i64 4]) ∧ Ext w w' := put_whole (E2 D A c) A 1 c 0 _ w rfl rfl
def lostCell (w : World) (m j : Nat) : Option Value := w.cell? ⟨m, j, none⟩
theorem setCells_cell_or (w : World) (b o : Nat) (vs : List Value) (m j : Nat) : (w.setCells b o vs).cell? ⟨m, j, none⟩ = if m = b then lostCell (w.setCells b o vs) m j else w.cell? ⟨m, j, none⟩ := by
 by_cases h : m = b
 ·rw [if_pos h]; rfl
 ·rw [if_neg h, setCells_cell_if, if_neg (fun k => h k.1)]
attribute [local go_sem ↓] setCells_cell_or
theorem sanity_ok (w : World) (hk : Konst 4 w) (hrk : RKonst w) : Calls Tryz.prog 31 #[] w fun e' w' => e' = .returned (.bool true) ∧ Ext w w' := by
 obtain ⟨D, hDe⟩ : ∃ D, Wire.digest 34 [[97, 98, 99, 100, 101, 102]] = D := ⟨_, rfl⟩
 have HDD : Hid (IsD D) := lh ⟨by rw [← hDe]; exact digest_length _ _, by rw [← hDe]; exact digest_byt _ _, hDe, by rw [← hDe]; exact dig_ne⟩
 have HK := lh hk
 have HRK := lh hrk
 clear hk hrk hDe
 go_enter Tryz.func31, Tryz.ntmps31
 go_wp2_with (first
  | (go_at_call 71; refine (show Hid _ from ?_).out)
  | (go_at_call 70; refine (show Hid _ from ?_).out)
  | (go_at_call 72; refine (show Hid _ from ?_).out)
  | (go_at_call 73; refine (show Hid _ from ?_).out)
  | (go_at_call 74; refine (show Hid _ from ?_).out)
  | (go_at_call 75; refine (show Hid _ from ?_).out))
 refine lh ?_
 refine (stamp_ok D _ (RowAt.ext HRK.out (by (with_reducible repeat first|exact eR _|apply eD|apply eN|apply eA|apply eO|apply eS|apply eC);all_goals first|omega|simp <;> omega)) HDD.out.yes HDD.out.len).mono ?_
 rintro e' w' ⟨rfl, hxl⟩
 obtain ⟨xa, rfl⟩ := hxl.asLater
 clear hxl
 go_wp2_with (first
  | (go_at_call 71; refine (show Hid _ from ?_).out)
  | (go_at_call 70; refine (show Hid _ from ?_).out)
  | (go_at_call 72; refine (show Hid _ from ?_).out)
  | (go_at_call 73; refine (show Hid _ from ?_).out)
  | (go_at_call 74; refine (show Hid _ from ?_).out)
  | (go_at_call 75; refine (show Hid _ from ?_).out))
 refine lh ?_
 refine (begin0 D _).mono ?_
 rintro e' w' ⟨rfl, hxl⟩
 obtain ⟨xb, rfl⟩ := hxl.asLater
 clear hxl
 go_wp2_with (first
  | (go_at_call 71; refine (show Hid _ from ?_).out)
  | (go_at_call 70; refine (show Hid _ from ?_).out)
  | (go_at_call 72; refine (show Hid _ from ?_).out)
  | (go_at_call 73; refine (show Hid _ from ?_).out)
  | (go_at_call 74; refine (show Hid _ from ?_).out)
  | (go_at_call 75; refine (show Hid _ from ?_).out))
 refine lh ?_
 have hB : w.heap.size < w.heap.size + 1 + (xa.comp xb).n := by omega
 refine calls_world (fun W => Ext w W ∧ RowAt W w.heap.size (ruC theRu) ∧ RowAt W (w.heap.size + 1 + (xa.comp xb).n) (entC (E0 D))) ⟨(by (with_reducible repeat first|exact eR _|apply eD|apply eN|apply eA|apply eO|apply eS|apply eC);all_goals first|omega|simp <;> omega), RowAt.others (RowAt.alloc (RowAt.later ((RowAt.new w (ruC noRu) 50).store (by rw [ru_size, noRu_size])) _) _) (by omega) _ _, (RowAt.newAt (cs := entC noEn) (t := 96) (by simp [later_size])).store (by rw [ent_size, ent_size])⟩ ?_
 rintro W0 ⟨hx0, hu0, he0⟩
 generalize w.heap.size + 1 + (xa.comp xb).n = B at *
 have HX0 := lh hx0
 have HU0 := lh hu0
 have HE0 := lh he0
 have hl0 := he0.lt
 have hroom0 : roomOf W0 B 0 45 = true := by rw [he0.room, ent_size]; rfl
 have hrow0 : rowOf W0 B 0 45 = some (entC (E0 D)) := he0.all (ent_size _).symm (by omega)
 clear hx0 hu0 he0
 refine (put1 D _ (RowAt.ext HK.out HX0.out)).mono ?_
 rintro e' w' ⟨v, rfl, ⟨A1, c1, rfl, ho⟩, hxl⟩
 obtain ⟨xc, rfl⟩ := hxl.asLater
 have HO1 := lh ho
 clear hxl ho
 go_wp2_with (first
  | (go_at_call 71; refine (show Hid _ from ?_).out)
  | (go_at_call 70; refine (show Hid _ from ?_).out)
  | (go_at_call 72; refine (show Hid _ from ?_).out)
  | (go_at_call 73; refine (show Hid _ from ?_).out)
  | (go_at_call 74; refine (show Hid _ from ?_).out)
  | (go_at_call 75; refine (show Hid _ from ?_).out))
 refine lh ?_
 refine calls_world (fun W => Ext w W ∧ RowAt W w.heap.size (ruC theRu) ∧ RowAt W B (entC (E1 D A1 c1)) ∧ OwnsSp (W0.heap.size + 2) W A1 c1 [(0, 3)] ∧ W0.heap.size ≤ W.heap.size) ⟨(HX0.out.onto _).setCells (by omega) _ _, RowAt.others (RowAt.later HU0.out _) (by omega) _ _, RowAt.store (RowAt.later HE0.out _) (by rw [ent_size, ent_size]), HO1.out.others (by omega) _ _, by rw [setCells_size, later_size]; omega⟩ ?_
 rintro W1 ⟨hx1, hu1, he1, ho1, hs1⟩
 have HX1 := lh hx1
 have HU1 := lh hu1
 have HE1 := lh he1
 have HO1' := lh ho1
 have hl1 := he1.lt
 have hrow1 : rowOf W1 B 0 45 = some (entC (E1 D A1 c1)) := he1.all (ent_size _).symm (by omega)
 clear hx1 hu1 he1 ho1 hroom0 hrow0 HO1
 refine (miss1 D A1 c1 _ _ HO1'.out).mono ?_
 rintro e' w' ⟨A2, c2, rfl, ho, hxl⟩
 obtain ⟨b2, off2, rfl, hb2, y1, y2⟩ := ReadsSp.cell (ho.reads spE) 0 (by decide)
 obtain ⟨xd, rfl⟩ := hxl.asLater
 clear hxl ho
 go_wp2_with (first
  | (go_at_call 71; refine (show Hid _ from ?_).out)
  | (go_at_call 70; refine (show Hid _ from ?_).out)
  | (go_at_call 72; refine (show Hid _ from ?_).out)
  | (go_at_call 73; refine (show Hid _ from ?_).out)
  | (go_at_call 74; refine (show Hid _ from ?_).out)
  | (go_at_call 75; refine (show Hid _ from ?_).out))
 refine lh ?_
 refine (put2 D HDD.out A1 c1 _ _ (RowAt.ext HK.out (HX1.out.onto _)) (HO1'.out.later _)).mono ?_
 rintro e' w' ⟨v, rfl, rfl, hxl⟩
 obtain ⟨xe, rfl⟩ := hxl.asLater
 clear hxl
 go_wp2_with (first
  | (go_at_call 71; refine (show Hid _ from ?_).out)
  | (go_at_call 70; refine (show Hid _ from ?_).out)
  | (go_at_call 72; refine (show Hid _ from ?_).out)
  | (go_at_call 73; refine (show Hid _ from ?_).out)
  | (go_at_call 74; refine (show Hid _ from ?_).out)
  | (go_at_call 75; refine (show Hid _ from ?_).out))
 refine lh ?_
 have hE2 : Ext (later W1 xd) (later W1 (xd.comp xe)) := ext_later (later W1 xd) xe
 refine calls_world (fun W => Ext w W ∧ RowAt W w.heap.size (ruC theRu) ∧ RowAt W B (entC (E1 D A1 c1)) ∧ OwnsSp (W0.heap.size + 2) W A1 c1 [(0, 3)] ∧ W.cell? ⟨b2, off2 + 0 * 2, none⟩ = some (.int .i64 3) ∧ W.cell? ⟨b2, off2 + 0 * 2 + 1, none⟩ = some (.int .i64 6) ∧ b2 < W.heap.size)
  ⟨Ext.setCells ((HX1.out.onto _).alloc _) (by have := HX1.out.size; omega) _ _, RowAt.others (RowAt.alloc (RowAt.later HU1.out _) _) (by have := HU1.out.lt; omega) _ _, RowAt.others (RowAt.alloc (RowAt.later HE1.out _) _) (by omega) _ _, HO1'.out.ext (Ext.setCells ((ext_later W1 _).alloc _) (by omega) _ _), (Ext.cell (p := ⟨b2, off2 + 0 * 2, none⟩) (Ext.setCells (hE2.alloc _) (by simp only [later_size, Later.comp_n]; omega) _ _) hb2).trans y1, (Ext.cell (p := ⟨b2, off2 + 0 * 2 + 1, none⟩) (Ext.setCells (hE2.alloc _) (by simp only [later_size, Later.comp_n]; omega) _ _) hb2).trans y2, Nat.lt_of_lt_of_le hb2 (Ext.size (Ext.setCells (hE2.alloc _) (by simp only [later_size, Later.comp_n]; omega) _ _))⟩ ?_
 rintro W2 ⟨hx2, hu2, he2, ho2, z1, z2, hb3⟩
 have HX2 := lh hx2
 have HU2 := lh hu2
 have HE2 := lh he2
 have HO2 := lh ho2
 have hl2 := he2.lt
 have hlu2 := hu2.lt
 have hrow2 : rowOf W2 B 0 45 = some (entC (E1 D A1 c1)) := he2.all (ent_size _).symm (by omega)
 clear hx2 hu2 he2 ho2 hrow1 HO1' y1 y2 hb2 HX1 HU1 HE1 HX0 HU0 HE0
 refine (put3 D HDD.out A1 c1 _ _ (RowAt.ext HK.out HX2.out) HO2.out).mono ?_
 rintro e' w' ⟨v, rfl, ⟨A3, c3, rfl, _⟩, hxl⟩
 obtain ⟨xf, rfl⟩ := hxl.asLater
 clear hxl
 go_wp2_with (first
  | (go_at_call 71; refine (show Hid _ from ?_).out)
  | (go_at_call 70; refine (show Hid _ from ?_).out)
  | (go_at_call 72; refine (show Hid _ from ?_).out)
  | (go_at_call 73; refine (show Hid _ from ?_).out)
  | (go_at_call 74; refine (show Hid _ from ?_).out)
  | (go_at_call 75; refine (show Hid _ from ?_).out))
 refine lh ?_
 have hB8 : W2.heap.size ≤ W2.heap.size + xf.n := by omega
 refine calls_world (fun W => Ext w W ∧ RowAt W w.heap.size (ruC theRu) ∧ RowAt W B (entC (E1 D A1 c1)) ∧ RowAt W (W2.heap.size + xf.n) (entC (E2 D A3 c3)) ∧ W.cell? ⟨b2, off2 + 0 * 2, none⟩ = some (.int .i64 3) ∧ W.cell? ⟨b2, off2 + 0 * 2 + 1, none⟩ = some (.int .i64 6) ∧ b2 < W.heap.size)
  ⟨Ext.setCells ((HX2.out.onto _).alloc _) (by have := HX2.out.size; omega) _ _, RowAt.others (RowAt.alloc (RowAt.later HU2.out _) _) (by omega) _ _, RowAt.others (RowAt.alloc (RowAt.later HE2.out _) _) (by omega) _ _, (RowAt.newAt (cs := entC noEn) (t := 96) (by simp [later_size])).store (by rw [ent_size, ent_size]), (Ext.cell (p := ⟨b2, off2 + 0 * 2, none⟩) (Ext.setCells ((ext_later W2 _).alloc _) (by omega) _ _) hb3).trans z1, (Ext.cell (p := ⟨b2, off2 + 0 * 2 + 1, none⟩) (Ext.setCells ((ext_later W2 _).alloc _) (by omega) _ _) hb3).trans z2, Nat.lt_of_lt_of_le hb3 (Ext.size (Ext.setCells ((ext_later W2 _).alloc _) (by omega) _ _))⟩ ?_
 rintro W3 ⟨hx3, hu3, he3, h83, q1, q2, hb4⟩
 generalize W2.heap.size + xf.n = B8 at *
 have HX3 := lh hx3
 have q1' : W3.cell? ⟨b2, off2, none⟩ = some (.int .i64 3) := by rw [Nat.zero_mul, Nat.add_zero] at q1; exact q1
 have q2' : W3.cell? ⟨b2, off2 + 1, none⟩ = some (.int .i64 6) := by rw [Nat.zero_mul, Nat.add_zero] at q2; exact q2
 clear q1 q2
 have hl3 := he3.lt
 have hl8 := h83.lt
 have hlu3 := hu3.lt
 have hrow3 : rowOf W3 B8 0 45 = some (entC (E2 D A3 c3)) := h83.all (ent_size _).symm (by omega)
 have k44 : W3.cell? ⟨B8, 44, none⟩ = some (.bool true) := (h83.cell 44).trans (E2_44 _ _ _)
 have j44 : W3.cell? ⟨B, 44, none⟩ = some (.bool false) := (he3.cell 44).trans (E1_44 _ _ _)
 have hrowU : rowOf W3 w.heap.size 0 18 = some (ruC theRu) := hu3.all ru_size.symm (by omega)
 clear hx3 hu3 he3 h83 hrow2 z1 z2 hb3 HX2 HU2 HE2 HO2 hl2 hlu2 hB8
 refine (put4 D A3 c3 _).mono ?_
 rintro e w' ⟨rfl, hxl⟩; obtain ⟨xl, rfl⟩ := hxl.asLater; clear hxl
 go_wp2_with (first
  | (go_at_call 71; refine (show Hid _ from ?_).out)
  | (go_at_call 70; refine (show Hid _ from ?_).out)
  | (go_at_call 72; refine (show Hid _ from ?_).out)
  | (go_at_call 73; refine (show Hid _ from ?_).out)
  | (go_at_call 74; refine (show Hid _ from ?_).out)
  | (go_at_call 75; refine (show Hid _ from ?_).out))
 refine lh ?_
 refine (age_is D A3 c3 140 150 50 _ (by decide) (by decide) (by decide)).mono ?_
 rintro e w' ⟨rfl, hxl⟩; obtain ⟨xl, rfl⟩ := hxl.asLater; clear hxl
 go_wp2_with (first
  | (go_at_call 71; refine (show Hid _ from ?_).out)
  | (go_at_call 70; refine (show Hid _ from ?_).out)
  | (go_at_call 72; refine (show Hid _ from ?_).out)
  | (go_at_call 73; refine (show Hid _ from ?_).out)
  | (go_at_call 74; refine (show Hid _ from ?_).out)
  | (go_at_call 75; refine (show Hid _ from ?_).out))
 refine lh ?_
 refine (state_is D A3 c3 theRu 140 150 0 1 _ (by decide) (by decide) ruR_ex (by rfl)).mono ?_
 rintro e w' ⟨rfl, hxl⟩; obtain ⟨xl, rfl⟩ := hxl.asLater; clear hxl
 go_wp2_with (first
  | (go_at_call 71; refine (show Hid _ from ?_).out)
  | (go_at_call 70; refine (show Hid _ from ?_).out)
  | (go_at_call 72; refine (show Hid _ from ?_).out)
  | (go_at_call 73; refine (show Hid _ from ?_).out)
  | (go_at_call 74; refine (show Hid _ from ?_).out)
  | (go_at_call 75; refine (show Hid _ from ?_).out))
 refine lh ?_
 refine (state_is D A3 c3 theRu 150 151 0 0 _ (by decide) (by decide) ruR_ex (by rfl)).mono ?_
 rintro e w' ⟨rfl, hxl⟩; obtain ⟨xl, rfl⟩ := hxl.asLater; clear hxl
 go_wp2_with (first
  | (go_at_call 71; refine (show Hid _ from ?_).out)
  | (go_at_call 70; refine (show Hid _ from ?_).out)
  | (go_at_call 72; refine (show Hid _ from ?_).out)
  | (go_at_call 73; refine (show Hid _ from ?_).out)
  | (go_at_call 74; refine (show Hid _ from ?_).out)
  | (go_at_call 75; refine (show Hid _ from ?_).out))
 refine lh ?_
 refine (state_is D A3 c3 theRu 150 151 1 2 _ (by decide) (by decide) ruR_ex (by rfl)).mono ?_
 rintro e w' ⟨rfl, hxl⟩; obtain ⟨xl, rfl⟩ := hxl.asLater; clear hxl
 go_wp2_with (first
  | (go_at_call 71; refine (show Hid _ from ?_).out)
  | (go_at_call 70; refine (show Hid _ from ?_).out)
  | (go_at_call 72; refine (show Hid _ from ?_).out)
  | (go_at_call 73; refine (show Hid _ from ?_).out)
  | (go_at_call 74; refine (show Hid _ from ?_).out)
  | (go_at_call 75; refine (show Hid _ from ?_).out))
 refine lh ?_
 refine (state_is D A3 c3 theRu 250 251 2 0 _ (by decide) (by decide) ruR_ex (by rfl)).mono ?_
 rintro e w' ⟨rfl, hxl⟩; obtain ⟨xl, rfl⟩ := hxl.asLater; clear hxl
 go_wp2_with (first
  | (go_at_call 71; refine (show Hid _ from ?_).out)
  | (go_at_call 70; refine (show Hid _ from ?_).out)
  | (go_at_call 72; refine (show Hid _ from ?_).out)
  | (go_at_call 73; refine (show Hid _ from ?_).out)
  | (go_at_call 74; refine (show Hid _ from ?_).out)
  | (go_at_call 75; refine (show Hid _ from ?_).out))
 refine lh ?_
 refine (state_is D A3 c3 theRu 250 251 1 0 _ (by decide) (by decide) ruR_ex (by rfl)).mono ?_
 rintro e w' ⟨rfl, hxl⟩; obtain ⟨xl, rfl⟩ := hxl.asLater; clear hxl
 go_wp2_with (first
  | (go_at_call 71; refine (show Hid _ from ?_).out)
  | (go_at_call 70; refine (show Hid _ from ?_).out)
  | (go_at_call 72; refine (show Hid _ from ?_).out)
  | (go_at_call 73; refine (show Hid _ from ?_).out)
  | (go_at_call 74; refine (show Hid _ from ?_).out)
  | (go_at_call 75; refine (show Hid _ from ?_).out))
 refine lh ?_
 refine (state_is D A3 c3 theRu 250 250 2 2 _ (by decide) (by decide) ruR_ex (by rfl)).mono ?_
 rintro e w' ⟨rfl, hxl⟩; obtain ⟨xl, rfl⟩ := hxl.asLater; clear hxl
 go_wp2
 go_ret
 exact ⟨rfl, (by (with_reducible repeat first|exact HX3.out|exact eR _|apply eD|apply eN|apply eA|apply eO|apply eS|apply eC);all_goals first|omega|simp <;> omega)⟩
end Go.Proofs.YtmgekdggahoboaaGreatDoor
namespace Go.Proofs.YtmgekdggahoboaaGreatDoor
open Go.RowKit Go.Shelf
open Go.Proofs
open Go.Proofs.Sp (Sp)
end Go.Proofs.YtmgekdggahoboaaGreatDoor
namespace Go.Proofs.YtmgekdggahoboaaGreatDoor
open Go.RowKit Go.Shelf
open Go.Proofs
open Go.Proofs.Sp (Sp)
end Go.Proofs.YtmgekdggahoboaaGreatDoor
namespace Go.Proofs.YtmgekdggahoboaaGreatDoor
open Go.RowKit Go.Shelf
open Go.Proofs
open Go.Proofs.Sp (Sp)
end Go.Proofs.YtmgekdggahoboaaGreatDoor
namespace Go.Proofs.YtmgekdggahoboaaGreatDoor
open Go.RowKit Go.Shelf
open Go.Proofs
open Go.Proofs.Sp (Sp)
end Go.Proofs.YtmgekdggahoboaaGreatDoor

namespace Go.Proofs.YtmgekdggahoboaaGreatDoor
open Go.RowKit Go.Shelf
open Go.Proofs
open Go.Proofs.Sp (Sp)
def goodP (s : Sp) : Bool := decide (0 ≤ s.1) && decide (s.1 < s.2) && decide (s.2 ≤ 1099511627776)
theorem pgood_any (s1 s2 : Int) (w : World) : Calls Tryz.prog 207 #[.agg #[.int .i64 s1, .int .i64 s2]] w fun e' w' => e' = .returned (.bool (goodP (s1, s2))) ∧ Ext w w' := by
 go_enter Tryz.func207, Tryz.ntmps207
 go_wp2
 all_goals
  go_ret
  refine ⟨ret_bool ?_, (by (with_reducible repeat first|exact eR _|apply eD|apply eN|apply eA|apply eO|apply eS|apply eC);all_goals first|omega|simp <;> omega)⟩
  first
   | (simp_all [goodP]; done)
   | (rw [Bool.eq_iff_iff]; simp_all [goodP]; done)
   | (rw [Bool.eq_iff_iff]; simp_all [goodP]; omega)
theorem okAt_good {l : List Sp} {i : Nat} (hi : i < l.length) : okAt l i = (goodP l[i] && !(decide (l[i].1 ≤ if i = 0 then -1 else (l.getD (i - 1) (0, 0)).2))) := by
 rw [Bool.eq_iff_iff, okAt_iff, getD_at hi]
 simp only [goodP, Bool.and_eq_true, decide_eq_true_eq, Bool.not_eq_true', decide_eq_false_iff_not]
 by_cases h0 : i = 0
 ·rw [if_pos h0]; omega
 ·rw [if_neg h0]; omega
theorem pvalid_any (A : Option Addr) (c : Nat) (l : List Sp) (w : World) (hl : l.length ≤ 140737488355328) (hr : ReadsSp w w.heap.size A l) :
  Calls Tryz.prog 169 #[.slice A l.length c] w fun e' w' => e' = .returned (.bool (setB l)) ∧ Ext w w' := by
 have HR := lh hr
 clear hr
 go_enter Tryz.func169, Tryz.ntmps169
 go_wp2
 go_loopw [8, 3] (fun i v wr => ∃ (k : Nat) (t : Int), k ≤ l.length ∧ i = .int .i64 k ∧ v = .int .i64 t ∧ Ext w wr ∧ Hid (t = if k = 0 then -1 else (l.getD (k - 1) (0, 0)).2) ∧ Hid (∀ j, j < k → okAt l j = true)) (fun i _ _ => l.length - (intOf i).toNat)
 case atStart => exact ⟨0, -1, Nat.zero_le _, rfl, rfl, eR _, lh rfl, lh (fun j hj => absurd hj (Nat.not_lt_zero _))⟩
 case round =>
  obtain ⟨k, t, hk, rfl, rfl, hx, HT, HN⟩ := hrel
  have HX := lh hx
  by_cases hlt : k < l.length
  ·obtain ⟨b, off, rfl, hb, c1, c2⟩ := ReadsSp.cell (HR.out.ext hx (Nat.le_refl _)) k hlt
   have ho := okAt_good hlt
   rw [← HT.out] at ho
   have HY : Hid (okAt l k = true → ∀ j, j < k + 1 → okAt l j = true) := lh (fun h j hj => by
    by_cases ej : j = k
    ·rw [ej]; exact h
    ·exact HN.out j (by omega))
   have HNo : Hid (okAt l k = false → setB l = false) := lh (setB_no hlt)
   have HT2 : Hid (l[k].2 = if k + 1 = 0 then -1 else (l.getD (k + 1 - 1) (0, 0)).2) := lh (by rw [if_neg (by omega), Nat.add_sub_cancel, getD_at hlt])
   have HO := lh ho
   clear ho hx
   generalize l[k] = s at *
   obtain ⟨s1, s2⟩ := s
   simp only [] at c1 c2 HT2
   cases hg : goodP (s1, s2) with
   | false =>
    have HV := lh (HNo.out (by rw [HO.out, hg]; rfl))
    have HG := lh hg
    clear hg
    go_wp2_with (go_at_call 207; refine (pgood_any s1 s2 _).mono ?_; rw [HG.out]; rintro e w' ⟨rfl, hxl⟩; obtain ⟨xl, rfl⟩ := hxl.asLater; clear hxl)
    go_ret
    exact ⟨ret_bool (by rw [HV.out]), (by (with_reducible repeat first|exact HX.out|exact eR _|apply eD|apply eN|apply eA|apply eO|apply eS|apply eC);all_goals first|omega|simp <;> omega)⟩
   | true =>
    have HG := lh hg
    by_cases hlast : s1 ≤ t
    ·have HV := lh (HNo.out (by rw [HO.out, hg]; simpa using hlast))
     have d1 : decide (s1 ≤ t) = true := by simpa using hlast
     clear hg hlast
     go_wp2_with (go_at_call 207; refine (pgood_any s1 s2 _).mono ?_; rw [HG.out]; rintro e w' ⟨rfl, hxl⟩; obtain ⟨xl, rfl⟩ := hxl.asLater; clear hxl)
     go_ret
     exact ⟨ret_bool (by rw [HV.out]), (by (with_reducible repeat first|exact HX.out|exact eR _|apply eD|apply eN|apply eA|apply eO|apply eS|apply eC);all_goals first|omega|simp <;> omega)⟩
    ·have HY2 := lh (HY.out (by rw [HO.out, hg]; simpa using hlast))
     have d1 : decide (s1 ≤ t) = false := by simpa using hlast
     clear hg hlast
     go_wp2_with (go_at_call 207; refine (pgood_any s1 s2 _).mono ?_; rw [HG.out]; rintro e w' ⟨rfl, hxl⟩; obtain ⟨xl, rfl⟩ := hxl.asLater; clear hxl)
     go_roundw
     case rel => exact ⟨k + 1, s2, by omega, by go_num, rfl, (by (with_reducible repeat first|exact HX.out|exact eR _|apply eD|apply eN|apply eA|apply eO|apply eS|apply eC);all_goals first|omega|simp <;> omega), HT2, HY2⟩
     case measure => simp [intOf]; omega
  ·have HV : Hid (setB l = true) := lh (setB_yes (fun j hj => HN.out j (by omega)))
   clear hx
   go_wp2
   go_ret
   exact ⟨ret_bool (by rw [HV.out]), HX.out⟩
end Go.Proofs.YtmgekdggahoboaaGreatDoor
namespace Go.Proofs.YtmgekdggahoboaaGreatDoor
open Go.RowKit
end Go.Proofs.YtmgekdggahoboaaGreatDoor
namespace Go.Proofs.YtmgekdggahoboaaGreatDoor
open Go.RowKit Go.Shelf
open Go.Proofs
open Go.Proofs.Sp (Sp)
end Go.Proofs.YtmgekdggahoboaaGreatDoor
namespace Go.Proofs.YtmgekdggahoboaaGreatDoor
open Go.RowKit Go.Shelf
open Go.Proofs
open Go.Proofs.Sp (Sp)
theorem right_any (s : St) (w : World) (h1 : s.addr.size ≤ 9223372036854775807) (h2 : s.var.size ≤ 9223372036854775807) (h3 : s.tags.size ≤ 9223372036854775807) :
  Calls Tryz.prog 119 #[.agg (stmC s)] w fun e' w' => e' = .returned (.bool (rightB s)) ∧ Ext w w' := by
 go_enter Tryz.func119, Tryz.ntmps119
 go_wp2_with (go_at_call 158; refine (within_any _ _ _ _).mono ?_; rintro e w' ⟨rfl, rfl⟩)
 all_goals
  go_ret
  refine ⟨ret_bool ?_, (by (with_reducible repeat first|exact eR _|apply eD|apply eN|apply eA|apply eO|apply eS|apply eC);all_goals first|omega|simp <;> omega)⟩
  first
   | (simp_all [rightB]; done)
   | (rw [Bool.eq_iff_iff]; simp_all [rightB]; done)
   | (rw [Bool.eq_iff_iff]; simp_all [rightB]; omega)
end Go.Proofs.YtmgekdggahoboaaGreatDoor
namespace Go.Proofs.YtmgekdggahoboaaGreatDoor
open Go.RowKit Go.Shelf
open Go.Proofs
open Go.Proofs.Sp (Sp)
theorem dropW_nil (p : UInt8 → Bool) : ∀ l : List UInt8, l.dropWhile p = [] ↔ ∀ b ∈ l, p b = true
 | [] => ⟨fun _ b h => (by cases h), fun _ => rfl⟩
 | a :: l => by
  rw [List.dropWhile_cons]
  by_cases h : p a = true
  ·rw [if_pos h, dropW_nil p l]
   exact ⟨fun k b hb => (List.mem_cons.1 hb).elim (fun e => e ▸ h) (k b), fun k b hb => k b (List.mem_cons_of_mem _ hb)⟩
  ·rw [if_neg h]
   exact ⟨fun k => (by cases k), fun k => absurd (k a (by simp)) h⟩
theorem dropW_head (p : UInt8 → Bool) : ∀ (l : List UInt8) (a : UInt8) (t : List UInt8), l.dropWhile p = a :: t → p a = false
 | [], _, _, h => (by cases h)
 | b :: l, a, t, h => by
  rw [List.dropWhile_cons] at h
  by_cases hb : p b = true
  ·rw [if_pos hb] at h; exact dropW_head p l a t h
  ·rw [if_neg hb] at h
   injection h with h1 _
   subst h1
   simpa using hb
theorem dropW_mem (p : UInt8 → Bool) : ∀ (l : List UInt8) (a : UInt8), a ∈ l.dropWhile p → a ∈ l
 | [], _, h => (by cases h)
 | b :: l, a, h => by
  rw [List.dropWhile_cons] at h
  by_cases hb : p b = true
  ·rw [if_pos hb] at h; exact List.mem_cons_of_mem _ (dropW_mem p l a h)
  ·rw [if_neg hb] at h; exact h
theorem trimB_nil (l : List UInt8) (c : UInt8) : Lib.trimB l c = [] ↔ ∀ b ∈ l, b = c := by
 unfold Lib.trimB Lib.trimLeftB Lib.trimRightB
 rw [dropW_nil]
 constructor
 ·intro h
  cases hr : l.reverse.dropWhile (· == c) with
  | nil =>
   rw [dropW_nil] at hr
   exact fun b hb => by simpa using hr b (by simpa using hb)
  | cons a t =>
   have h1 := dropW_head _ _ _ _ hr
   have h2 := h a (by rw [hr]; simp)
   rw [h2] at h1; cases h1
 ·intro h b hb
  have hb2 : b ∈ l := by simpa using dropW_mem (· == c) l.reverse b (by simpa using hb)
  simpa using h b hb2
theorem trimR_any (s : ByteArray) (w : World) (hs : s.size ≤ 9223372036854775807) : Calls Tryz.prog 209 #[.string s, .int .u8 0] w fun e w' => e = .returned (.string ⟨(Lib.trimRightB s.data.toList 0).toArray⟩) ∧ Ext w w' := by
 have h := Any.strings_trimRightByte Tryz.trimRB s 0 w hs
 change Calls Tryz.prog 209 _ _ _ at h
 exact h.mono (fun e w' ⟨a, b⟩ => ⟨a, by rw [b]; exact eR _⟩)
theorem trimL_any (s : ByteArray) (w : World) : Calls Tryz.prog 208 #[.string s, .int .u8 0] w fun e w' => e = .returned (.string ⟨(Lib.trimLeftB s.data.toList 0).toArray⟩) ∧ Ext w w' := by
 have h := Any.strings_trimLeftByte Tryz.trimLB s 0 w
 change Calls Tryz.prog 208 _ _ _ at h
 exact h.mono (fun e w' ⟨a, b⟩ => ⟨a, by rw [b]; exact eR _⟩)
theorem trim_any (s : ByteArray) (w : World) (hs : s.size ≤ 9223372036854775807) : Calls Tryz.prog 170 #[.string s, .string ⟨#[0]⟩] w fun e w' => e = .returned (.string ⟨(Lib.trimB s.data.toList 0).toArray⟩) ∧ Ext w w' := by
 cases h0 : s.toList.isEmpty with
 | true =>
  have e : s.data.toList = [] := by rw [← Lib.toList_data]; simpa using h0
  have e2 : (⟨(Lib.trimB s.data.toList 0).toArray⟩ : ByteArray) = s := by
   apply ByteArray.ext
   apply Array.toList_inj.1
   rw [e]; rfl
  rw [e2]
  clear e e2
  go_enter Tryz.func170, Tryz.ntmps170
  go_wp2
  all_goals
   go_ret
   exact ⟨rfl, eR _⟩
 | false =>
  go_enter Tryz.func170, Tryz.ntmps170
  go_wp2
  all_goals first | (exfalso; rename_i hh; revert hh; decide) | skip
  refine wp_region_later (by kernel_rfl) (by kernel_rfl) ?_
  repeat (first | go_big_quiet_step ((first | (go_at_call 209; exact quietE (trimR_any s _ hs)) | (go_at_call 208; exact quietE (trimL_any _ _)))) | quiet_step ((first | (go_at_call 209; exact quietE (trimR_any s _ hs)) | (go_at_call 208; exact quietE (trimL_any _ _)))))
  refine wpQuiet_nil ?_
  rintro _ ⟨xq, rfl⟩
  go_wp2
  go_ret
  exact ⟨rfl, ext_later _ _⟩
end Go.Proofs.YtmgekdggahoboaaGreatDoor
namespace Go.Proofs.YtmgekdggahoboaaGreatDoor
open Go.RowKit Go.Shelf
open Go.Proofs
open Go.Proofs.Sp (Sp)
def SegZ (b : ByteArray) (s : Sp) : Prop := ∀ k : Nat, s.1 ≤ k → (k : Int) < s.2 → (bts b).getD k 0 = 0
theorem ext_at (b : ByteArray) (p q : Nat) : (b.extract p q).data.toList = (b.data.toList.drop p).take (q - p) := by rw [Lib.extract_eq]
theorem bts_zero (b : ByteArray) {k : Nat} (h : k < b.size) : (bts b).getD k 0 = 0 ↔ b.data.toList[k]? = some 0 := by
 have hl : k < b.data.toList.length := by simpa using h
 unfold bts
 rw [List.getD_eq_getElem?_getD, List.getElem?_map, List.getElem?_eq_getElem hl]
 simp only [Option.map_some, Option.getD_some, Option.some.injEq]
 constructor
 ·intro e
  apply UInt8.toNat_inj.1
  have : (b.data.toList[k]).toNat = 0 := by omega
  rw [this]; rfl
 ·intro e; rw [e]; rfl
theorem seg_trim {b : ByteArray} {p q : Nat} (hq : q ≤ b.size) : Lib.trimB (b.extract p q).data.toList 0 = [] ↔ SegZ b ((p : Int), (q : Int)) := by
 rw [trimB_nil, ext_at]
 have hlen : b.data.toList.length = b.size := by simp
 constructor
 ·intro h k h1 h2
  have h1' : p ≤ k := Int.ofNat_le.1 h1
  have h2' : k < q := Int.ofNat_lt.1 h2
  rw [bts_zero b (by omega), List.getElem?_eq_getElem (by omega)]
  congr 1
  apply h
  rw [List.mem_iff_getElem?]
  refine ⟨k - p, ?_⟩
  rw [List.getElem?_take, if_pos (by omega), List.getElem?_drop, show p + (k - p) = k by omega, List.getElem?_eq_getElem (by omega)]
 ·intro h x hx
  obtain ⟨i, hi⟩ := List.mem_iff_getElem?.1 hx
  rw [List.getElem?_take] at hi
  split at hi
  ·rw [List.getElem?_drop] at hi
   have hb := (List.getElem?_eq_some_iff.1 hi).1
   have h3 := h (p + i) (by show (p : Int) ≤ ((p + i : Nat) : Int); omega) (by show ((p + i : Nat) : Int) < (q : Int); omega)
   rw [bts_zero b (by omega), hi] at h3
   exact Option.some.inj h3
  ·cases hi
theorem zero_missing {b : ByteArray} {l m : List Sp} (hm : SetOf (fun x => ((0 : Int) ≤ x ∧ x < b.size) ∧ ¬ Sp.mem l x) m) : zeroB b l = true ↔ ∀ s ∈ m, SegZ b s := by
 rw [zeroB_iff]
 constructor
 ·intro h s hs k h1 h2
  have hk := (hm.2 k).1 ⟨s, hs, h1, h2⟩
  have hkb : k < b.size := by have := hk.1.2; omega
  rcases h k hkb with q | q
  ·exact q
  ·exact absurd q hk.2
 ·intro h k hk
  by_cases hmem : Sp.mem l k
  ·exact .inr hmem
  ·obtain ⟨s, hs, h1, h2⟩ := (hm.2 k).2 ⟨⟨by omega, by omega⟩, hmem⟩
   exact .inl (h s hs k h1 h2)
theorem pcovers_any (A : Option Addr) (c : Nat) (l : List Sp) (n : Int) (w : World) (h0 : 0 ≤ n) (h1 : n ≤ 65536) (hsi : SetIn l n) (hr : ReadsSp w w.heap.size A l) (z : A = none → c = 0) :
  Calls Tryz.prog 161 #[.slice A l.length c, .agg #[.int .i64 0, .int .i64 n]] w fun e w' => e = .returned (.bool (fullB l n)) ∧ Ext w w' := by
 have hlen := hsi.len h0
 refine (covers_any A c l (0, n) w hsi.1 (hsi.bd2 (by omega)) ⟨⟨by show (-4611686018427387904 : Int) ≤ 0; omega, by show (0 : Int) ≤ _; omega⟩, by show _ ≤ n; omega, by show n ≤ _; omega⟩ (by omega) hr z).mono ?_
 rintro e w' ⟨b, rfl, hc, hx⟩
 rw [covers_full hc.out]
 exact ⟨rfl, hx⟩
def validSoft (e : En) (A : Option Addr) (c : Nat) (l m : List Sp) (base : Nat) (blk : Nat) : Nat → Soft
 | 0 => .eq (.pointer (some ⟨blk, 42, none⟩))
 | 1 => .eq (.slice A l.length c)
 | 2 => .eq (.agg (entC e))
 | 3 => .eq (.agg #[.int .i64 0, .int .i64 e.st.size])
 | 4 => ownSoft m base
 | 5 => .eq (.int .i64 m.length)
 | _ => .eq (.int .i64 0)
theorem evalid_any (e : En) (A : Option Addr) (c : Nat) (l : List Sp) (w : World) (hv : e.hv = .slice A l.length c) (hl : l.length ≤ 65536) (h1 : e.st.addr.size ≤ 9223372036854775807) (h2 : e.st.var.size ≤ 9223372036854775807) (h3 : e.st.tags.size ≤ 9223372036854775807) (h4 : e.bytes.size ≤ 140737488351200)
  (hb : e.st.body.length = 16) (hby : Byt e.st.body) (hk : Konst 4 w) (hr : ReadsSp w w.heap.size A l) (hz : A = none → c = 0) :
  Calls Tryz.prog 129 #[.agg (entC e)] w fun e' w' => e' = .returned (.bool (validB e l)) ∧ Ext w w' := by
 have HR := lh hr
 have HK := lh hk
 have HB := lh hb
 have HBy := lh hby
 have HZ := lh hz
 have HRt := lh (fun W => right_any e.st W h1 h2 h3)
 have hfit : fitsRow 45 (entC e) = true := ent_fits_of hv
 have c42 : (entC e)[42]? = some (.slice A l.length c) := by rw [ent_g42, hv]
 obtain ⟨vv, hvv⟩ : ∃ vv, validB e l = vv := ⟨_, rfl⟩
 rw [hvv]
 have HVV := lh hvv
 clear hr hk hb hby hz h1 h2 h3 hvv hv
 cases hrt : rightB e.st with
 | false =>
  have HV : Hid (false = vv) := lh (by rw [← HVV.out]; simp [validB, hrt])
  rw [hrt] at HRt
  clear hrt
  go_enter Tryz.func129, Tryz.ntmps129
  go_wp2_with (first
   | (go_at_call 119; refine (HRt.out _).mono ?_; rintro e w' ⟨rfl, hxl⟩; obtain ⟨xl, rfl⟩ := hxl.asLater; clear hxl)
   | (go_at_call 169; refine (pvalid_any A c l _ (by omega) (HR.out.on (by (with_reducible repeat first|exact eR _|apply eD|apply eN|apply eA|apply eO|apply eS|apply eC);all_goals first|omega|simp <;> omega))).mono ?_; rw [HSt.out]; rintro e w' ⟨rfl, hxl⟩; obtain ⟨xl, rfl⟩ := hxl.asLater; clear hxl))
  go_ret
  exact ⟨ret_bool HV.out, (by (with_reducible repeat first|exact eR _|apply eD|apply eN|apply eA|apply eO|apply eS|apply eC);all_goals first|omega|simp <;> omega)⟩
 | true =>
  have hz0 := (rightB_z hrt).1
  have HRr := lh hrt
  rw [hrt] at HRt
  clear hrt
  by_cases hs : 65536 < e.st.size
  ·have HV : Hid (false = vv) := lh (by rw [← HVV.out]; simp [validB]; omega)
   have d1 : decide (65536 < e.st.size) = true := by simpa using hs
   clear hs
   go_enter Tryz.func129, Tryz.ntmps129
   go_wp2_with (first
    | (go_at_call 119; refine (HRt.out _).mono ?_; rintro e w' ⟨rfl, hxl⟩; obtain ⟨xl, rfl⟩ := hxl.asLater; clear hxl)
    | (go_at_call 169; refine (pvalid_any A c l _ (by omega) (HR.out.on (by (with_reducible repeat first|exact eR _|apply eD|apply eN|apply eA|apply eO|apply eS|apply eC);all_goals first|omega|simp <;> omega))).mono ?_; rw [HSt.out]; rintro e w' ⟨rfl, hxl⟩; obtain ⟨xl, rfl⟩ := hxl.asLater; clear hxl))
   go_ret
   exact ⟨ret_bool HV.out, (by (with_reducible repeat first|exact eR _|apply eD|apply eN|apply eA|apply eO|apply eS|apply eC);all_goals first|omega|simp <;> omega)⟩
  have d1 : decide (65536 < e.st.size) = false := by simpa using hs
  by_cases hn : (e.bytes.size : Int) ≠ e.st.size
  ·have HV : Hid (false = vv) := lh (by rw [← HVV.out]; simp [validB, hn])
   have d2 : ((e.bytes.size : Int) != e.st.size) = true := by simpa using hn
   clear hs hn
   go_enter Tryz.func129, Tryz.ntmps129
   go_wp2_with (first
    | (go_at_call 119; refine (HRt.out _).mono ?_; rintro e w' ⟨rfl, hxl⟩; obtain ⟨xl, rfl⟩ := hxl.asLater; clear hxl)
    | (go_at_call 169; refine (pvalid_any A c l _ (by omega) (HR.out.on (by (with_reducible repeat first|exact eR _|apply eD|apply eN|apply eA|apply eO|apply eS|apply eC);all_goals first|omega|simp <;> omega))).mono ?_; rw [HSt.out]; rintro e w' ⟨rfl, hxl⟩; obtain ⟨xl, rfl⟩ := hxl.asLater; clear hxl))
   go_ret
   exact ⟨ret_bool HV.out, (by (with_reducible repeat first|exact eR _|apply eD|apply eN|apply eA|apply eO|apply eS|apply eC);all_goals first|omega|simp <;> omega)⟩
  have hn' : (e.bytes.size : Int) = e.st.size := by omega
  have d2 : ((e.bytes.size : Int) != e.st.size) = false := by simpa using hn'
  clear hn
  cases hst : setB l with
  | false =>
   have HV : Hid (false = vv) := lh (by rw [← HVV.out]; simp [validB, hst])
   have HSt := lh hst
   clear hs hst
   go_enter Tryz.func129, Tryz.ntmps129
   go_wp2_with (first
    | (go_at_call 119; refine (HRt.out _).mono ?_; rintro e w' ⟨rfl, hxl⟩; obtain ⟨xl, rfl⟩ := hxl.asLater; clear hxl)
    | (go_at_call 169; refine (pvalid_any A c l _ (by omega) (HR.out.on (by (with_reducible repeat first|exact eR _|apply eD|apply eN|apply eA|apply eO|apply eS|apply eC);all_goals first|omega|simp <;> omega))).mono ?_; rw [HSt.out]; rintro e w' ⟨rfl, hxl⟩; obtain ⟨xl, rfl⟩ := hxl.asLater; clear hxl))
   go_ret
   exact ⟨ret_bool HV.out, (by (with_reducible repeat first|exact eR _|apply eD|apply eN|apply eA|apply eO|apply eS|apply eC);all_goals first|omega|simp <;> omega)⟩
  | true =>
   have HSt := lh hst
   have HV0 : Hid ((lastB l e.st.size && zeroB e.bytes l && (e.whole == fullB l e.st.size) && (!(fullB l e.st.size) || decide (Wire.digest 34 [bts e.bytes] = e.st.body))) = vv) := lh (by
    rw [← HVV.out]
    simp [validB, hst, HRr.out, hn', show e.st.size ≤ 65536 by omega])
   have hsize : e.st.size ≤ 65536 := by omega
   clear hst hs
   go_enter Tryz.func129, Tryz.ntmps129
   go_wp2_with (first
    | (go_at_call 119; refine (HRt.out _).mono ?_; rintro e w' ⟨rfl, hxl⟩; obtain ⟨xl, rfl⟩ := hxl.asLater; clear hxl)
    | (go_at_call 169; refine (pvalid_any A c l _ (by omega) (HR.out.on (by (with_reducible repeat first|exact eR _|apply eD|apply eN|apply eA|apply eO|apply eS|apply eC);all_goals first|omega|simp <;> omega))).mono ?_; rw [HSt.out]; rintro e w' ⟨rfl, hxl⟩; obtain ⟨xl, rfl⟩ := hxl.asLater; clear hxl))
   refine wp_world (fun W => Ext w W ∧ RowAt W w.heap.size (entC e)) ⟨(by (with_reducible repeat first|exact eR _|apply eD|apply eN|apply eA|apply eO|apply eS|apply eC);all_goals first|omega|simp <;> omega), (by (repeat (first | with_reducible exact RowAt.new _ _ _ | with_reducible refine RowAt.drew ?_ | with_reducible refine RowAt.later ?_ _ | with_reducible exact RowAt.newAt (by first | rfl | omega | (simp [later_size, setCells_size]; done) | (simp [later_size, setCells_size]; omega)) | with_reducible refine RowAt.alloc ?_ _ | with_reducible apply RowAt.store | with_reducible refine RowAt.others ?_ ?_ _ _ | with_reducible refine RowAt.other ?_ ?_ _)); all_goals first | omega | (simp; done) | (simp; omega) | (simp [go_sem]; done))⟩ ?_
   rintro W ⟨hx, h5⟩
   have HX := lh hx
   have H5 := lh h5
   have w42 : W.cell? ⟨w.heap.size, 42, none⟩ = some (.slice A l.length c) := (h5.cell 42).trans c42
   have w3 : W.cell? ⟨w.heap.size, 3, none⟩ = some (.int .i64 e.st.size) := (h5.cell 3).trans (ent_g3 e)
   have hszW := h5.lt
   clear d1 d2
   by_cases h0 : l.length = 0
   ·have hlf : lastB l e.st.size = true := by
     simp only [lastB, Bool.or_eq_true, decide_eq_true_eq]
     exact .inl h0
    rw [hlf, Bool.true_and] at HV0
    have HLf := lh hlf
    have d0 : decide (0 < l.length) = false := by simp only [decide_eq_false_iff_not]; omega
    have d1 : decide (0 < (l.length : Int)) = false := by simp only [decide_eq_false_iff_not]; omega
    clear hx h5 hlf h0
    refine wp_region_later (by kernel_rfl) (by kernel_rfl) ?_
    repeat (first | go_big_quiet_step (fail) | quiet_step (fail))
    refine wpQuiet_nil ?_
    rintro _ ⟨xq, rfl⟩
    clear d0 d1
    have HSI : Hid (SetIn l e.st.size) := lh ((setIn_iff (by omega)).1 ⟨HSt.out, HLf.out⟩)
    obtain ⟨m, hm⟩ : ∃ m, rMissing l (0, e.st.size) = m := ⟨_, rfl⟩
    have HM : Hid (SetOf (fun x => ((0 : Int) ≤ x ∧ x < e.st.size) ∧ ¬ Sp.mem l x) m) := lh (by rw [← hm]; exact rMissing_spec l (0, e.st.size))
    have HMI : Hid (SetIn m e.st.size) := lh (SetIn.of_mem HM.out.1 (fun x hx => ((HM.out.2 x).1 hx).1))
    have hml := HMI.out.len hz0
    clear hm
    go_wp2
    refine wp_world (fun W2 => Ext w W2 ∧ RowAt W2 w.heap.size (entC e)) ⟨HX.out.onto _, H5.out.later _⟩ ?_
    rintro W2 ⟨hx2, h52⟩
    have HX2 := lh hx2
    have H52 := lh h52
    have v42 : W2.cell? ⟨w.heap.size, 42, none⟩ = some (.slice A l.length c) := (h52.cell 42).trans c42
    have hrow : rowOf W2 w.heap.size 0 45 = some (entC e) := h52.all (ent_size e).symm (by omega)
    have hsz2 := h52.lt
    clear hx2 h52 w42 w3 hszW
    refine wp_region_softE 7 (validSoft e A c l m W2.heap.size w.heap.size) (by kernel_rfl) (by kernel_rfl) (lt_cons ?_ (lt_cons ?_ (lt_cons ?_ (lt_cons ?_ (lt_cons ?_ (lt_cons ?_ (lt_cons ?_ lt_none))))))) ?_
    ·
     refine sop rfl fun xs W HW hsW HD Q' HQ => ?_; simp only [fillAt, dstOf, lc0, lcs, obs, Act.put, lsa, lsz, lss, nz, Nat.reduceAdd] at HQ ⊢
     go_wp2
     exact HQ.out _ _ (eR _) rfl
    ·
     refine sop rfl fun xs W HW hsW HD Q' HQ => ?_; simp only [fillAt, dstOf, lc0, lcs, obs, Act.put, lsa, lsz, lss, nz, Nat.reduceAdd] at HQ ⊢
     have hd0 : xs 0 = (.pointer (some ⟨w.heap.size, 42, none⟩)) := (HD.out 0 (dk (by kernel_rfl)))
     generalize xs 0 = x0 at hd0 HQ ⊢; subst hd0
     have hc : W.cell? ⟨w.heap.size, 42, none⟩ = some ((.slice A l.length c)) := (HW.out.cell (p := ⟨w.heap.size, 42, none⟩) (by show w.heap.size < _; omega)).trans v42
     go_wp2
     exact HQ.out _ _ (eR _) rfl
    ·
     refine sop rfl fun xs W HW hsW HD Q' HQ => ?_; simp only [fillAt, dstOf, lc0, lcs, obs, Act.put, lsa, lsz, lss, nz, Nat.reduceAdd] at HQ ⊢
     have hrw : rowOf W w.heap.size 0 45 = some (entC e) := (rowOf_congr (fun i _ => HW.out.cell (p := ⟨w.heap.size, 0 + i, none⟩) (by show w.heap.size < _; omega))).trans hrow
     go_wp2
     exact HQ.out _ _ (eR _) rfl
    ·
     refine sop rfl fun xs W HW hsW HD Q' HQ => ?_; simp only [fillAt, dstOf, lc0, lcs, obs, Act.put, lsa, lsz, lss, nz, Nat.reduceAdd] at HQ ⊢
     have hd2 : xs 2 = .agg (entC e) := (HD.out 2 (dk (by kernel_rfl)))
     generalize xs 2 = x2 at hd2 HQ ⊢; subst hd2
     go_wp2_with (go_at_call 128; refine (all_any e _).mono ?_; rintro e1 w1 ⟨rfl, hx⟩)
     exact HQ.out _ _ hx rfl
    ·
     refine sop rfl fun xs W HW hsW HD Q' HQ => ?_; simp only [fillAt, dstOf, lc0, lcs, obs, Act.put, lsa, lsz, lss, nz, Nat.reduceAdd] at HQ ⊢
     have hd1 : xs 1 = .slice A l.length c := (HD.out 1 (dk (by kernel_rfl)))
     generalize xs 1 = x1 at hd1 HQ ⊢; subst hd1
     have hd3 : xs 3 = .agg #[.int .i64 0, .int .i64 e.st.size] := (HD.out 3 (dk (by kernel_rfl)))
     generalize xs 3 = x3 at hd3 HQ ⊢; subst hd3
     go_wp2_with (go_at_call 124; refine (missing_any A c l (0, e.st.size) _ HSI.out.1 (HSI.out.bd2 (by omega)) ⟨⟨by show (-4611686018427387904 : Int) ≤ 0; omega, by show (0 : Int) ≤ _; omega⟩, by show _ ≤ e.st.size; omega, by show e.st.size ≤ _; omega⟩ (by omega) (HR.out.on (HX2.out.trans HW.out)) HZ.out).mono ?_; rintro e1 w1 ⟨A1, c1, out, rfl, HS1, _, ho1, hx⟩)
     obtain rfl : out = m := setOf_uniq HS1.out HM.out
     exact HQ.out _ _ hx ⟨A1, c1, rfl, ho1.lower hsW⟩
    ·
     refine sop rfl fun xs W HW hsW HD Q' HQ => ?_; simp only [fillAt, dstOf, lc0, lcs, obs, Act.put, lsa, lsz, lss, nz, Nat.reduceAdd] at HQ ⊢
     obtain ⟨A4, c4, h4, ho4⟩ : (ownSoft m W2.heap.size).S (xs 4) W := (HD.out 4 (dk (by kernel_rfl)))
     generalize xs 4 = x4 at h4 HQ ⊢; subst h4
     go_wp2
     exact HQ.out _ _ (eR _) rfl
    ·
     refine sop rfl fun xs W HW hsW HD Q' HQ => ?_; simp only [fillAt, dstOf, lc0, lcs, obs, Act.put, lsa, lsz, lss, nz, Nat.reduceAdd] at HQ ⊢
     go_wp2
     exact HQ.out _ _ (eR _) rfl
    ·
     intro xs W3 hW hS
     obtain ⟨A4, c4, h4, ho4⟩ : (ownSoft m W2.heap.size).S (xs 4) W3 := hS 4 (by omega)
     have h5' : xs 5 = .int .i64 m.length := hS 5 (by omega)
     have h6 : xs 6 = .int .i64 0 := hS 6 (by omega)
     simp only [fillAt, dstOf, lc0, lcs, obs, Act.put, lsa, lsz, lss, nz, Nat.reduceAdd, List.drop_succ_cons, List.drop_zero, List.drop_nil]
     generalize xs 4 = x4 at *; subst h4
     generalize xs 5 = x5 at *; subst h5'
     generalize xs 6 = x6 at *; subst h6
     have HO4 := lh ho4
     have HX3 : Hid (Ext w W3) := lh (HX2.out.trans hW)
     have H53 := lh (H52.out.ext hW)
     clear hS ho4 hW
     go_wp2
     go_loopw [56] (fun i wr => ∃ k : Nat, k ≤ m.length ∧ i = .int .i64 k ∧ Hid (Ext W3 wr) ∧ Hid (∀ j (hj : j < m.length), j < k → SegZ e.bytes m[j])) (fun i _ => m.length - (intOf i).toNat)
     case atStart => exact ⟨0, Nat.zero_le _, rfl, lh (eR _), lh (fun j _ hj => absurd hj (Nat.not_lt_zero _))⟩
     case round =>
      obtain ⟨k, hk, rfl, HXr, HN⟩ := hrel
      have h5r := H53.out.ext HXr.out
      have H5r := lh h5r
      have c43 : wr.cell? ⟨w.heap.size, 43, none⟩ = some (.string e.bytes) := (h5r.cell 43).trans (ent_g43 e)
      have hlr := h5r.lt
      have hx0 := HX3.out.trans HXr.out
      have HX0 := lh hx0
      clear h5r hx0
      by_cases hlt : k < m.length
      ·obtain ⟨bq, oq, rfl, hbq, y1, y2⟩ := ReadsSp.cell ((HO4.out.reads spE).on HXr.out) k hlt
       have hin1 := HMI.out.1.2 m[k] (List.getElem_mem hlt)
       have hin2 := HMI.out.2 m[k] (List.getElem_mem hlt)
       have HNY : Hid (SegZ e.bytes m[k] → ∀ j (hj : j < m.length), j < k + 1 → SegZ e.bytes m[j]) := lh (fun h j hj hj2 => by
        by_cases ej : j = k
        ·subst ej; exact h
        ·exact HN.out j hj (by omega))
       have HNN : Hid (¬ SegZ e.bytes m[k] → zeroB e.bytes l = false) := lh (fun h => by
        rw [Bool.eq_false_iff]
        intro hzz
        exact h ((zero_missing (by rw [hn']; exact HM.out)).1 hzz m[k] (List.getElem_mem hlt)))
       generalize m[k] = s at *
       obtain ⟨s1, s2⟩ := s
       simp only [] at y1 y2 hin1 hin2
       obtain ⟨p, rfl⟩ : ∃ p : Nat, s1 = p := ⟨s1.toNat, by omega⟩
       obtain ⟨q, rfl⟩ : ∃ q : Nat, s2 = q := ⟨s2.toNat, by omega⟩
       have hqb : q ≤ e.bytes.size := by omega
       have hpq : p ≤ q := by omega
       have hseg := seg_trim (b := e.bytes) (p := p) (q := q) hqb
       have hxs : (e.bytes.extract p q).size ≤ 9223372036854775807 := by rw [extract_sz hqb]; omega
       have HXS := lh hxs
       clear hxs
       by_cases hsg : SegZ e.bytes ((p : Int), (q : Int))
       ·have HY := lh (HNY.out hsg)
        have ht : (⟨(Lib.trimB (e.bytes.extract p q).data.toList 0).toArray⟩ : ByteArray) = ⟨#[]⟩ := by rw [hseg.2 hsg]
        have HT := lh ht
        have hem : (⟨#[]⟩ : ByteArray).toList.isEmpty = true := by rw [Lib.toList_data]; rfl
        clear hsg hseg ht
        go_wp2_with (go_at_call 170; refine (trim_any (e.bytes.extract p q) _ HXS.out).mono ?_; rw [HT.out]; rintro e w' ⟨rfl, hxl⟩; obtain ⟨xl, rfl⟩ := hxl.asLater; clear hxl)
        go_roundw
        case rel => exact ⟨k + 1, by omega, by go_num, lh ((HXr.out.alloc _).onto _), HY⟩
        case measure => simp [intOf]; omega
       ·have HVf : Hid (false = vv) := lh (by rw [← HV0.out, HNN.out hsg, Bool.false_and, Bool.false_and])
        obtain ⟨t, ht⟩ : ∃ t, (⟨(Lib.trimB (e.bytes.extract p q).data.toList 0).toArray⟩ : ByteArray) = t := ⟨_, rfl⟩
        have hem : t.toList.isEmpty = false := by
         rw [Bool.eq_false_iff]
         intro hh
         apply hsg
         apply hseg.1
         rw [← ht, Lib.toList_data] at hh
         simpa using hh
        have HT := lh ht
        clear hsg hseg ht
        go_wp2_with (go_at_call 170; refine (trim_any (e.bytes.extract p q) _ HXS.out).mono ?_; rw [HT.out]; rintro e w' ⟨rfl, hxl⟩; obtain ⟨xl, rfl⟩ := hxl.asLater; clear hxl)
        go_ret
        exact ⟨ret_bool HVf.out, (HX0.out.alloc _).onto _⟩
      ·have hzz : zeroB e.bytes l = true := (zero_missing (by rw [hn']; exact HM.out)).2 (fun s hs => by
        obtain ⟨j, hj, rfl⟩ := List.getElem_of_mem hs
        exact HN.out j hj (by omega))
       rw [hzz, Bool.true_and] at HV0
       have u42 : wr.cell? ⟨w.heap.size, 42, none⟩ = some (.slice A l.length c) := (H5r.out.cell 42).trans c42
       have u44 : wr.cell? ⟨w.heap.size, 44, none⟩ = some (.bool e.whole) := (H5r.out.cell 44).trans (ent_g44 e)
       have hrow : rowOf wr w.heap.size 0 45 = some (entC e) := H5r.out.all (ent_size e).symm (by omega)
       have hbd : rowOf wr w.heap.size 4 16 = some (dgC e.st.body) := by rw [H5r.out.row, if_neg (by omega), ent_body]
       clear hzz
       go_wp2
       refine wp_region_later (by kernel_rfl) (by kernel_rfl) ?_
       repeat (first | go_big_quiet_step ((first | (go_at_call 128; exact quietE (all_any e _)) | (go_at_call 161; exact quietE (pcovers_any A c l e.st.size _ hz0 hsize HSI.out (HR.out.on (HX0.out.onto _)) HZ.out)))) | quiet_step ((first | (go_at_call 128; exact quietE (all_any e _)) | (go_at_call 161; exact quietE (pcovers_any A c l e.st.size _ hz0 hsize HSI.out (HR.out.on (HX0.out.onto _)) HZ.out)))))
       refine wpQuiet_nil ?_
       rintro _ ⟨xq, rfl⟩
       go_wp2
       cases hfu : fullB l e.st.size with
       | false =>
        rw [hfu] at HV0
        cases hwh : e.whole with
        | true =>
         rw [hwh] at HV0 u44
         refine wp_region_later (by kernel_rfl) (by kernel_rfl) ?_
         repeat (first | go_big_quiet_step (fail) | quiet_step (fail))
         refine wpQuiet_nil ?_
         rintro _ ⟨xq, rfl⟩
         go_wp2
         go_ret
         exact ⟨ret_bool (by rw [← HV0.out]; rfl), (HX0.out.onto _).onto _⟩
        | false =>
         rw [hwh] at HV0 u44
         refine wp_region_later (by kernel_rfl) (by kernel_rfl) ?_
         repeat (first | go_big_quiet_step (fail) | quiet_step (fail))
         refine wpQuiet_nil ?_
         rintro _ ⟨xq, rfl⟩
         go_wp2
         go_ret
         exact ⟨ret_bool (by rw [← HV0.out]; rfl), (HX0.out.onto _).onto _⟩
       | true =>
        rw [hfu] at HV0
        cases hwh : e.whole with
        | false =>
         rw [hwh] at HV0 u44
         refine wp_region_later (by kernel_rfl) (by kernel_rfl) ?_
         repeat (first | go_big_quiet_step (fail) | quiet_step (fail))
         refine wpQuiet_nil ?_
         rintro _ ⟨xq, rfl⟩
         go_wp2
         go_ret
         exact ⟨ret_bool (by rw [← HV0.out]; rfl), (HX0.out.onto _).onto _⟩
        | true =>
         rw [hwh] at HV0 u44
         have hq := eq_dig (digest_length 34 [bts e.bytes]) HB.out (digest_byt 34 [bts e.bytes]) HBy.out
         generalize hDD : Wire.digest 34 [bts e.bytes] = D at *
         have HDD := lh hDD
         clear hDD
         refine wp_region_later (by kernel_rfl) (by kernel_rfl) ?_
         repeat (first | go_big_quiet_step ((go_at_call 120; exact quietE (odigest_is e.bytes D _ (RowAt.ext HK.out ((HX0.out.onto _).onto _)) h4 HDD.out))) | quiet_step ((go_at_call 120; exact quietE (odigest_is e.bytes D _ (RowAt.ext HK.out ((HX0.out.onto _).onto _)) h4 HDD.out))))
         refine wpQuiet_nil ?_
         rintro _ ⟨xq, rfl⟩
         go_wp2
         go_ret
         exact ⟨ret_bool (by rw [← HV0.out]; rfl), (HX0.out.onto _).onto _⟩
   ·obtain ⟨b, off, rfl, hbb, _, cl⟩ := ReadsSp.cell (HR.out.ext hx (Nat.le_refl _)) (l.length - 1) (by omega)
    have hgl : l.getD (l.length - 1) (0, 0) = l[l.length - 1] := by simp [show l.length - 1 < l.length by omega]
    have hp0 : 0 < l.length := by omega
    by_cases hla : e.st.size < l[l.length - 1].2
    ·have hlf : lastB l e.st.size = false := by
      simp only [lastB, hgl, Bool.or_eq_false_iff, decide_eq_false_iff_not]
      exact ⟨h0, by omega⟩
     have HV : Hid (false = vv) := lh (by rw [← HV0.out, hlf, Bool.false_and, Bool.false_and, Bool.false_and])
     clear hlf
     generalize l[l.length - 1] = s at *
     clear hx h5 hgl h0
     refine wp_region_later (by kernel_rfl) (by kernel_rfl) ?_
     repeat (first | go_big_quiet_step (fail) | quiet_step (fail))
     refine wpQuiet_nil ?_
     rintro _ ⟨xq, rfl⟩
     go_wp2
     go_ret
     exact ⟨ret_bool HV.out, (by (with_reducible repeat first|exact HX.out|exact eR _|apply eD|apply eN|apply eA|apply eO|apply eS|apply eC);all_goals first|omega|simp <;> omega)⟩
    ·have hlf : lastB l e.st.size = true := by
      simp only [lastB, hgl, Bool.or_eq_true, decide_eq_true_eq]
      exact .inr (by omega)
     rw [hlf, Bool.true_and] at HV0
     have HLf := lh hlf
     generalize l[l.length - 1] = s at *
     clear hx h5 hgl h0 hlf
     refine wp_region_later (by kernel_rfl) (by kernel_rfl) ?_
     repeat (first | go_big_quiet_step (fail) | quiet_step (fail))
     refine wpQuiet_nil ?_
     rintro _ ⟨xq, rfl⟩
     have HSI : Hid (SetIn l e.st.size) := lh ((setIn_iff (by omega)).1 ⟨HSt.out, HLf.out⟩)
     obtain ⟨m, hm⟩ : ∃ m, rMissing l (0, e.st.size) = m := ⟨_, rfl⟩
     have HM : Hid (SetOf (fun x => ((0 : Int) ≤ x ∧ x < e.st.size) ∧ ¬ Sp.mem l x) m) := lh (by rw [← hm]; exact rMissing_spec l (0, e.st.size))
     have HMI : Hid (SetIn m e.st.size) := lh (SetIn.of_mem HM.out.1 (fun x hx => ((HM.out.2 x).1 hx).1))
     have hml := HMI.out.len hz0
     clear hm
     go_wp2
     refine wp_world (fun W2 => Ext w W2 ∧ RowAt W2 w.heap.size (entC e)) ⟨HX.out.onto _, H5.out.later _⟩ ?_
     rintro W2 ⟨hx2, h52⟩
     have HX2 := lh hx2
     have H52 := lh h52
     have v42 : W2.cell? ⟨w.heap.size, 42, none⟩ = some (.slice (some ⟨b, off, none⟩) l.length c) := (h52.cell 42).trans c42
     have hrow : rowOf W2 w.heap.size 0 45 = some (entC e) := h52.all (ent_size e).symm (by omega)
     have hsz2 := h52.lt
     clear hx2 h52 w42 w3 hszW
     refine wp_region_softE 7 (validSoft e (some ⟨b, off, none⟩) c l m W2.heap.size w.heap.size) (by kernel_rfl) (by kernel_rfl) (lt_cons ?_ (lt_cons ?_ (lt_cons ?_ (lt_cons ?_ (lt_cons ?_ (lt_cons ?_ (lt_cons ?_ lt_none))))))) ?_
     ·
      refine sop rfl fun xs W HW hsW HD Q' HQ => ?_; simp only [fillAt, dstOf, lc0, lcs, obs, Act.put, lsa, lsz, lss, nz, Nat.reduceAdd] at HQ ⊢
      go_wp2
      exact HQ.out _ _ (eR _) rfl
     ·
      refine sop rfl fun xs W HW hsW HD Q' HQ => ?_; simp only [fillAt, dstOf, lc0, lcs, obs, Act.put, lsa, lsz, lss, nz, Nat.reduceAdd] at HQ ⊢
      have hd0 : xs 0 = (.pointer (some ⟨w.heap.size, 42, none⟩)) := (HD.out 0 (dk (by kernel_rfl)))
      generalize xs 0 = x0 at hd0 HQ ⊢; subst hd0
      have hc : W.cell? ⟨w.heap.size, 42, none⟩ = some ((.slice (some ⟨b, off, none⟩) l.length c)) := (HW.out.cell (p := ⟨w.heap.size, 42, none⟩) (by show w.heap.size < _; omega)).trans v42
      go_wp2
      exact HQ.out _ _ (eR _) rfl
     ·
      refine sop rfl fun xs W HW hsW HD Q' HQ => ?_; simp only [fillAt, dstOf, lc0, lcs, obs, Act.put, lsa, lsz, lss, nz, Nat.reduceAdd] at HQ ⊢
      have hrw : rowOf W w.heap.size 0 45 = some (entC e) := (rowOf_congr (fun i _ => HW.out.cell (p := ⟨w.heap.size, 0 + i, none⟩) (by show w.heap.size < _; omega))).trans hrow
      go_wp2
      exact HQ.out _ _ (eR _) rfl
     ·
      refine sop rfl fun xs W HW hsW HD Q' HQ => ?_; simp only [fillAt, dstOf, lc0, lcs, obs, Act.put, lsa, lsz, lss, nz, Nat.reduceAdd] at HQ ⊢
      have hd2 : xs 2 = .agg (entC e) := (HD.out 2 (dk (by kernel_rfl)))
      generalize xs 2 = x2 at hd2 HQ ⊢; subst hd2
      go_wp2_with (go_at_call 128; refine (all_any e _).mono ?_; rintro e1 w1 ⟨rfl, hx⟩)
      exact HQ.out _ _ hx rfl
     ·
      refine sop rfl fun xs W HW hsW HD Q' HQ => ?_; simp only [fillAt, dstOf, lc0, lcs, obs, Act.put, lsa, lsz, lss, nz, Nat.reduceAdd] at HQ ⊢
      have hd1 : xs 1 = .slice (some ⟨b, off, none⟩) l.length c := (HD.out 1 (dk (by kernel_rfl)))
      generalize xs 1 = x1 at hd1 HQ ⊢; subst hd1
      have hd3 : xs 3 = .agg #[.int .i64 0, .int .i64 e.st.size] := (HD.out 3 (dk (by kernel_rfl)))
      generalize xs 3 = x3 at hd3 HQ ⊢; subst hd3
      go_wp2_with (go_at_call 124; refine (missing_any (some ⟨b, off, none⟩) c l (0, e.st.size) _ HSI.out.1 (HSI.out.bd2 (by omega)) ⟨⟨by show (-4611686018427387904 : Int) ≤ 0; omega, by show (0 : Int) ≤ _; omega⟩, by show _ ≤ e.st.size; omega, by show e.st.size ≤ _; omega⟩ (by omega) (HR.out.on (HX2.out.trans HW.out)) HZ.out).mono ?_; rintro e1 w1 ⟨A1, c1, out, rfl, HS1, _, ho1, hx⟩)
      obtain rfl : out = m := setOf_uniq HS1.out HM.out
      exact HQ.out _ _ hx ⟨A1, c1, rfl, ho1.lower hsW⟩
     ·
      refine sop rfl fun xs W HW hsW HD Q' HQ => ?_; simp only [fillAt, dstOf, lc0, lcs, obs, Act.put, lsa, lsz, lss, nz, Nat.reduceAdd] at HQ ⊢
      obtain ⟨A4, c4, h4, ho4⟩ : (ownSoft m W2.heap.size).S (xs 4) W := (HD.out 4 (dk (by kernel_rfl)))
      generalize xs 4 = x4 at h4 HQ ⊢; subst h4
      go_wp2
      exact HQ.out _ _ (eR _) rfl
     ·
      refine sop rfl fun xs W HW hsW HD Q' HQ => ?_; simp only [fillAt, dstOf, lc0, lcs, obs, Act.put, lsa, lsz, lss, nz, Nat.reduceAdd] at HQ ⊢
      go_wp2
      exact HQ.out _ _ (eR _) rfl
     ·
      intro xs W3 hW hS
      obtain ⟨A4, c4, h4, ho4⟩ : (ownSoft m W2.heap.size).S (xs 4) W3 := hS 4 (by omega)
      have h5' : xs 5 = .int .i64 m.length := hS 5 (by omega)
      have h6 : xs 6 = .int .i64 0 := hS 6 (by omega)
      simp only [fillAt, dstOf, lc0, lcs, obs, Act.put, lsa, lsz, lss, nz, Nat.reduceAdd, List.drop_succ_cons, List.drop_zero, List.drop_nil]
      generalize xs 4 = x4 at *; subst h4
      generalize xs 5 = x5 at *; subst h5'
      generalize xs 6 = x6 at *; subst h6
      have HO4 := lh ho4
      have HX3 : Hid (Ext w W3) := lh (HX2.out.trans hW)
      have H53 := lh (H52.out.ext hW)
      clear hS ho4 hW
      go_wp2
      go_loopw [56] (fun i wr => ∃ k : Nat, k ≤ m.length ∧ i = .int .i64 k ∧ Hid (Ext W3 wr) ∧ Hid (∀ j (hj : j < m.length), j < k → SegZ e.bytes m[j])) (fun i _ => m.length - (intOf i).toNat)
      case atStart => exact ⟨0, Nat.zero_le _, rfl, lh (eR _), lh (fun j _ hj => absurd hj (Nat.not_lt_zero _))⟩
      case round =>
       obtain ⟨k, hk, rfl, HXr, HN⟩ := hrel
       have h5r := H53.out.ext HXr.out
       have H5r := lh h5r
       have c43 : wr.cell? ⟨w.heap.size, 43, none⟩ = some (.string e.bytes) := (h5r.cell 43).trans (ent_g43 e)
       have hlr := h5r.lt
       have hx0 := HX3.out.trans HXr.out
       have HX0 := lh hx0
       clear h5r hx0
       by_cases hlt : k < m.length
       ·obtain ⟨bq, oq, rfl, hbq, y1, y2⟩ := ReadsSp.cell ((HO4.out.reads spE).on HXr.out) k hlt
        have hin1 := HMI.out.1.2 m[k] (List.getElem_mem hlt)
        have hin2 := HMI.out.2 m[k] (List.getElem_mem hlt)
        have HNY : Hid (SegZ e.bytes m[k] → ∀ j (hj : j < m.length), j < k + 1 → SegZ e.bytes m[j]) := lh (fun h j hj hj2 => by
         by_cases ej : j = k
         ·subst ej; exact h
         ·exact HN.out j hj (by omega))
        have HNN : Hid (¬ SegZ e.bytes m[k] → zeroB e.bytes l = false) := lh (fun h => by
         rw [Bool.eq_false_iff]
         intro hzz
         exact h ((zero_missing (by rw [hn']; exact HM.out)).1 hzz m[k] (List.getElem_mem hlt)))
        generalize m[k] = s at *
        obtain ⟨s1, s2⟩ := s
        simp only [] at y1 y2 hin1 hin2
        obtain ⟨p, rfl⟩ : ∃ p : Nat, s1 = p := ⟨s1.toNat, by omega⟩
        obtain ⟨q, rfl⟩ : ∃ q : Nat, s2 = q := ⟨s2.toNat, by omega⟩
        have hqb : q ≤ e.bytes.size := by omega
        have hpq : p ≤ q := by omega
        have hseg := seg_trim (b := e.bytes) (p := p) (q := q) hqb
        have hxs : (e.bytes.extract p q).size ≤ 9223372036854775807 := by rw [extract_sz hqb]; omega
        have HXS := lh hxs
        clear hxs
        by_cases hsg : SegZ e.bytes ((p : Int), (q : Int))
        ·have HY := lh (HNY.out hsg)
         have ht : (⟨(Lib.trimB (e.bytes.extract p q).data.toList 0).toArray⟩ : ByteArray) = ⟨#[]⟩ := by rw [hseg.2 hsg]
         have HT := lh ht
         have hem : (⟨#[]⟩ : ByteArray).toList.isEmpty = true := by rw [Lib.toList_data]; rfl
         clear hsg hseg ht
         go_wp2_with (go_at_call 170; refine (trim_any (e.bytes.extract p q) _ HXS.out).mono ?_; rw [HT.out]; rintro e w' ⟨rfl, hxl⟩; obtain ⟨xl, rfl⟩ := hxl.asLater; clear hxl)
         go_roundw
         case rel => exact ⟨k + 1, by omega, by go_num, lh ((HXr.out.alloc _).onto _), HY⟩
         case measure => simp [intOf]; omega
        ·have HVf : Hid (false = vv) := lh (by rw [← HV0.out, HNN.out hsg, Bool.false_and, Bool.false_and])
         obtain ⟨t, ht⟩ : ∃ t, (⟨(Lib.trimB (e.bytes.extract p q).data.toList 0).toArray⟩ : ByteArray) = t := ⟨_, rfl⟩
         have hem : t.toList.isEmpty = false := by
          rw [Bool.eq_false_iff]
          intro hh
          apply hsg
          apply hseg.1
          rw [← ht, Lib.toList_data] at hh
          simpa using hh
         have HT := lh ht
         clear hsg hseg ht
         go_wp2_with (go_at_call 170; refine (trim_any (e.bytes.extract p q) _ HXS.out).mono ?_; rw [HT.out]; rintro e w' ⟨rfl, hxl⟩; obtain ⟨xl, rfl⟩ := hxl.asLater; clear hxl)
         go_ret
         exact ⟨ret_bool HVf.out, (HX0.out.alloc _).onto _⟩
       ·have hzz : zeroB e.bytes l = true := (zero_missing (by rw [hn']; exact HM.out)).2 (fun s hs => by
         obtain ⟨j, hj, rfl⟩ := List.getElem_of_mem hs
         exact HN.out j hj (by omega))
        rw [hzz, Bool.true_and] at HV0
        have u42 : wr.cell? ⟨w.heap.size, 42, none⟩ = some (.slice (some ⟨b, off, none⟩) l.length c) := (H5r.out.cell 42).trans c42
        have u44 : wr.cell? ⟨w.heap.size, 44, none⟩ = some (.bool e.whole) := (H5r.out.cell 44).trans (ent_g44 e)
        have hrow : rowOf wr w.heap.size 0 45 = some (entC e) := H5r.out.all (ent_size e).symm (by omega)
        have hbd : rowOf wr w.heap.size 4 16 = some (dgC e.st.body) := by rw [H5r.out.row, if_neg (by omega), ent_body]
        clear hzz
        go_wp2
        refine wp_region_later (by kernel_rfl) (by kernel_rfl) ?_
        repeat (first | go_big_quiet_step ((first | (go_at_call 128; exact quietE (all_any e _)) | (go_at_call 161; exact quietE (pcovers_any (some ⟨b, off, none⟩) c l e.st.size _ hz0 hsize HSI.out (HR.out.on (HX0.out.onto _)) HZ.out)))) | quiet_step ((first | (go_at_call 128; exact quietE (all_any e _)) | (go_at_call 161; exact quietE (pcovers_any (some ⟨b, off, none⟩) c l e.st.size _ hz0 hsize HSI.out (HR.out.on (HX0.out.onto _)) HZ.out)))))
        refine wpQuiet_nil ?_
        rintro _ ⟨xq, rfl⟩
        go_wp2
        cases hfu : fullB l e.st.size with
        | false =>
         rw [hfu] at HV0
         cases hwh : e.whole with
         | true =>
          rw [hwh] at HV0 u44
          refine wp_region_later (by kernel_rfl) (by kernel_rfl) ?_
          repeat (first | go_big_quiet_step (fail) | quiet_step (fail))
          refine wpQuiet_nil ?_
          rintro _ ⟨xq, rfl⟩
          go_wp2
          go_ret
          exact ⟨ret_bool (by rw [← HV0.out]; rfl), (HX0.out.onto _).onto _⟩
         | false =>
          rw [hwh] at HV0 u44
          refine wp_region_later (by kernel_rfl) (by kernel_rfl) ?_
          repeat (first | go_big_quiet_step (fail) | quiet_step (fail))
          refine wpQuiet_nil ?_
          rintro _ ⟨xq, rfl⟩
          go_wp2
          go_ret
          exact ⟨ret_bool (by rw [← HV0.out]; rfl), (HX0.out.onto _).onto _⟩
        | true =>
         rw [hfu] at HV0
         cases hwh : e.whole with
         | false =>
          rw [hwh] at HV0 u44
          refine wp_region_later (by kernel_rfl) (by kernel_rfl) ?_
          repeat (first | go_big_quiet_step (fail) | quiet_step (fail))
          refine wpQuiet_nil ?_
          rintro _ ⟨xq, rfl⟩
          go_wp2
          go_ret
          exact ⟨ret_bool (by rw [← HV0.out]; rfl), (HX0.out.onto _).onto _⟩
         | true =>
          rw [hwh] at HV0 u44
          have hq := eq_dig (digest_length 34 [bts e.bytes]) HB.out (digest_byt 34 [bts e.bytes]) HBy.out
          generalize hDD : Wire.digest 34 [bts e.bytes] = D at *
          have HDD := lh hDD
          clear hDD
          refine wp_region_later (by kernel_rfl) (by kernel_rfl) ?_
          repeat (first | go_big_quiet_step ((go_at_call 120; exact quietE (odigest_is e.bytes D _ (RowAt.ext HK.out ((HX0.out.onto _).onto _)) h4 HDD.out))) | quiet_step ((go_at_call 120; exact quietE (odigest_is e.bytes D _ (RowAt.ext HK.out ((HX0.out.onto _).onto _)) h4 HDD.out))))
          refine wpQuiet_nil ?_
          rintro _ ⟨xq, rfl⟩
          go_wp2
          go_ret
          exact ⟨ret_bool (by rw [← HV0.out]; rfl), (HX0.out.onto _).onto _⟩
end Go.Proofs.YtmgekdggahoboaaGreatDoor

namespace Go.Proofs.YtmgekdggahoboaaGreatDoor
open Go.RowKit
section
variable {P : Program} {id : Nat} {Q : Exit → Act → World → Prop} {a0 : Act} {w0 : World} {l : List Oper}
end
end Go.Proofs.YtmgekdggahoboaaGreatDoor
namespace Go.Proofs.YtmgekdggahoboaaGreatDoor
open Go.RowKit Go.Shelf
open Go.Proofs
open Go.Proofs.Sp (Sp)
theorem alloc_setCells_at (w : World) (c cs : Array Value) (t : TypeId) (b m j : Nat) : ((w.alloc (.cells c t)).setCells b 0 cs.toList).cell? ⟨m, j, none⟩ = if m = b then (if b = w.heap.size then (if cs.size = c.size then cs[j]? else lostCell ((w.alloc (.cells c t)).setCells b 0 cs.toList) m j) else lostCell ((w.alloc (.cells c t)).setCells b 0 cs.toList) m j) else (w.alloc (.cells c t)).cell? ⟨m, j, none⟩ := by
 by_cases h : m = b
 ·rw [if_pos h]
  by_cases hb : b = w.heap.size
  ·rw [if_pos hb]
   by_cases hs : cs.size = c.size
   ·rw [if_pos hs, h]
    exact ((RowAt.newAt hb).store hs).cell j
   ·rw [if_neg hs]; rfl
  ·rw [if_neg hb]; rfl
 ·rw [if_neg h, setCells_cell_if, if_neg (fun k => h k.1)]
attribute [local go_sem ↓] setCells_cell_or
attribute [local go_sem ↓ 2000] alloc_setCells_at
end Go.Proofs.YtmgekdggahoboaaGreatDoor
namespace Go.Proofs.YtmgekdggahoboaaGreatDoor
open Go.RowKit Go.Shelf
open Go.Proofs
open Go.Proofs.Sp (Sp)
attribute [local go_sem ↓] setCells_cell_or
attribute [local go_sem ↓ 2000] alloc_setCells_at
end Go.Proofs.YtmgekdggahoboaaGreatDoor

namespace Go.Proofs.YtmgekdggahoboaaGreatDoor
open Go.RowKit Go.Shelf
open Go.Proofs
open Go.Proofs.Sp (Sp)
theorem dg_self (a0 a1 a2 a3 a4 a5 a6 a7 a8 a9 a10 a11 a12 a13 a14 a15 : Int) (W : World) : (Op.equalIn 9999 43 (.agg #[.int .u8 a0, .int .u8 a1, .int .u8 a2, .int .u8 a3, .int .u8 a4, .int .u8 a5, .int .u8 a6, .int .u8 a7, .int .u8 a8, .int .u8 a9, .int .u8 a10, .int .u8 a11, .int .u8 a12, .int .u8 a13, .int .u8 a14, .int .u8 a15]) (.agg #[.int .u8 a0, .int .u8 a1, .int .u8 a2, .int .u8 a3, .int .u8 a4, .int .u8 a5, .int .u8 a6, .int .u8 a7, .int .u8 a8, .int .u8 a9, .int .u8 a10, .int .u8 a11, .int .u8 a12, .int .u8 a13, .int .u8 a14, .int .u8 a15])).run Tryz.prog W = .ok true W := by
 have hc : Tryz.prog.cellsOf 5 = 1 := by kernel_rfl
 have hr : List.range 16 = [0, 1, 2, 3, 4, 5, 6, 7, 8, 9, 10, 11, 12, 13, 14, 15] := by decide
 have hinf : (Tryz.prog.info? 5).map (fun i => (i.zero, i.size, i.bytes)) = some (some (.int .u8 0), 1, 1) := by kernel_rfl
 obtain ⟨i, hi, _, _, _⟩ := info_parts hinf
 rw [run_equalIn_array W 9998 (t := 43) (e := 5) (n := 16) _ _ (by kernel_rfl) hi, hc, hr]
 simp [Op.eqItems, go_sem]
theorem sl_self (a0 a1 a2 a3 a4 a5 a6 a7 a8 a9 a10 a11 a12 a13 a14 a15 : Int) (W : World) : (Op.equalIn 9999 40 (.agg #[.int .u8 a0, .int .u8 a1, .int .u8 a2, .int .u8 a3, .int .u8 a4, .int .u8 a5, .int .u8 a6, .int .u8 a7, .int .u8 a8, .int .u8 a9, .int .u8 a10, .int .u8 a11, .int .u8 a12, .int .u8 a13, .int .u8 a14, .int .u8 a15]) (.agg #[.int .u8 a0, .int .u8 a1, .int .u8 a2, .int .u8 a3, .int .u8 a4, .int .u8 a5, .int .u8 a6, .int .u8 a7, .int .u8 a8, .int .u8 a9, .int .u8 a10, .int .u8 a11, .int .u8 a12, .int .u8 a13, .int .u8 a14, .int .u8 a15])).run Tryz.prog W = .ok true W := by
 have hc : Tryz.prog.cellsOf 5 = 1 := by kernel_rfl
 have hr : List.range 16 = [0, 1, 2, 3, 4, 5, 6, 7, 8, 9, 10, 11, 12, 13, 14, 15] := by decide
 have hinf : (Tryz.prog.info? 5).map (fun i => (i.zero, i.size, i.bytes)) = some (some (.int .u8 0), 1, 1) := by kernel_rfl
 obtain ⟨i, hi, _, _, _⟩ := info_parts hinf
 rw [run_equalIn_array W 9998 (t := 40) (e := 5) (n := 16) _ _ (by kernel_rfl) hi, hc, hr]
 simp [Op.eqItems, go_sem]
theorem stm_self (s : St) (W : World) : (binOp .neq 52 (.agg (stmC s)) (.agg (stmC s))).run Tryz.prog W = .ok (.bool false) W := by
 rw [run_neq_struct]
 simp [go_sem, stmC, stmL, dgC, dg_self, sl_self]
attribute [go_sem ↓] stm_self
theorem same_any (e : En) (A B : Option Addr) (c d : Nat) (l : List Sp) (w : World) (hv : e.hv = .slice A l.length c) (hm : l.length ≤ 140737488355328) (hr1 : ReadsSp w w.heap.size A l) (hr2 : ReadsSp w w.heap.size B l) :
  Calls Tryz.prog 33 #[.agg (entC e), .agg (entC { e with hv := .slice B l.length d })] w fun e' w' => e' = .returned (.bool true) ∧ Ext w w' := by
 have hc42 : (entC e)[42]? = some (.slice A l.length c) := by rw [ent_g42, hv]
 have HR1 := lh hr1
 have HR2 := lh hr2
 clear hr1 hr2
 have hc42b : (entC { e with hv := .slice B l.length d })[42]? = some (.slice B l.length d) := ent_g42 _
 go_enter Tryz.func33, Tryz.ntmps33
 go_wp2
 refine wp_world (fun W => Ext w W ∧ RowAt W w.heap.size (entC e) ∧ RowAt W (w.heap.size + 1) (entC { e with hv := .slice B l.length d })) ⟨(by (with_reducible repeat first|exact eR _|apply eD|apply eN|apply eA|apply eO|apply eS|apply eC);all_goals first|omega|simp <;> omega), (RowAt.new _ _ _).alloc _, RowAt.newAt (by simp)⟩ ?_
 rintro W ⟨hx0, h1, h2⟩
 have HX0 := lh hx0
 have H1 := lh h1
 have H2 := lh h2
 clear hx0 h1 h2
 go_loopw [5] (fun i wr => ∃ k : Nat, k ≤ l.length ∧ i = .int .i64 k ∧ Ext W wr) (fun i _ => l.length - (intOf i).toNat)
 case atStart => exact ⟨0, Nat.zero_le _, rfl, eR _⟩
 case round =>
  obtain ⟨k, hk, rfl, hx⟩ := hrel
  have HX := lh hx
  have c1 : wr.cell? ⟨w.heap.size, 42, none⟩ = some (.slice A l.length c) := ((H1.out.ext hx).cell 42).trans hc42
  have c2 : wr.cell? ⟨w.heap.size + 1, 42, none⟩ = some (.slice B l.length d) := ((H2.out.ext hx).cell 42).trans hc42b
  have hl2 := (H2.out.ext hx).lt
  by_cases hlt : k < l.length
  ·obtain ⟨b1, o1, rfl, hb1, y1, y2⟩ := ReadsSp.cell (HR1.out.on (HX0.out.trans hx)) k hlt
   obtain ⟨b2, o2, rfl, hb2, z1, z2⟩ := ReadsSp.cell (HR2.out.on (HX0.out.trans hx)) k hlt
   generalize l[k] = s at *
   obtain ⟨s1, s2⟩ := s
   simp only [] at y1 y2 z1 z2
   clear hx
   go_wp2
   refine wp_region_later (by kernel_rfl) (by kernel_rfl) ?_
   repeat (first | go_big_quiet_step (fail) | quiet_step (fail))
   refine wpQuiet_nil ?_
   rintro _ ⟨xq, rfl⟩
   go_wp2
   go_roundw
   case rel => exact ⟨k + 1, by omega, by go_num, (by (with_reducible repeat first|exact HX.out|exact eR _|apply eD|apply eN|apply eA|apply eO|apply eS|apply eC);all_goals first|omega|simp <;> omega)⟩
   case measure => simp [intOf]; omega
  ·clear hx
   go_wp2
   go_ret
   exact ⟨rfl, HX0.out.trans HX.out⟩
end Go.Proofs.YtmgekdggahoboaaGreatDoor
namespace Go.Proofs.YtmgekdggahoboaaGreatDoor
open Go.RowKit Go.Shelf
open Go.Proofs
open Go.Proofs.Sp (Sp)
theorem alloc_setCells_cell (w : World) (c cs : Array Value) (t : TypeId) (b m j : Nat) : ((w.alloc (.cells c t)).setCells b 0 cs.toList).cell? ⟨m, j, none⟩ = if m = b then (if b = w.heap.size then (if cs.size = c.size then cs[j]? else lostCell ((w.alloc (.cells c t)).setCells b 0 cs.toList) m j) else lostCell ((w.alloc (.cells c t)).setCells b 0 cs.toList) m j) else (w.alloc (.cells c t)).cell? ⟨m, j, none⟩ := by
 by_cases h : m = b
 ·rw [if_pos h]
  by_cases hb : b = w.heap.size
  ·rw [if_pos hb]
   by_cases hs : cs.size = c.size
   ·rw [if_pos hs, h]
    exact ((RowAt.newAt hb).store hs).cell j
   ·rw [if_neg hs]; rfl
  ·rw [if_neg hb]; rfl
 ·rw [if_neg h, setCells_cell_if, if_neg (fun k => h k.1)]
attribute [local go_sem ↓] setCells_cell_or
attribute [local go_sem ↓ 2000] alloc_setCells_cell
end Go.Proofs.YtmgekdggahoboaaGreatDoor
namespace Go.Proofs.YtmgekdggahoboaaGreatDoor
open Go.RowKit Go.Shelf
open Go.Proofs
open Go.Proofs.Sp (Sp)
theorem fine_val {e : En} {l : List Sp} (h : fineB e l = true) : Val e l := by
 simp only [fineB, Bool.and_eq_true] at h
 exact val_iff.1 h.2
end Go.Proofs.YtmgekdggahoboaaGreatDoor