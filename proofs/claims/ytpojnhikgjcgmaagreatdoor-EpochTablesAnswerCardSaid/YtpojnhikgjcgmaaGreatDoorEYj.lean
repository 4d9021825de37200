/- weirgateref04.Short and ShortStamp; weirgateref31.Canon. -/
import Derived.WalkKit
import Derived.WalkSpells
import Derived.WalkLawsBesides
import Derived.Deep.QuietTactic
import Derived.BigQuiet
import Derived.Test.YtpojnhikgjcgmaaGreatDoorENx
set_option maxRecDepth 100000
set_option maxHeartbeats 64000000
set_option linter.unusedVariables false
set_option linter.unusedSimpArgs false
namespace Go.Proofs.YtpojnhikgjcgmaaGreatDoor
open Go.RowKit Go.Shelf
open Go.Proofs
def rcC (a b : ByteArray) (f : Bool) : Array Value := #[.string a, .string b, .bool f]
theorem rc_size (a b : ByteArray) (f : Bool) : (rcC a b f).size = 3 := rfl
theorem rc_all (a b : ByteArray) (f : Bool) : rowSub (rcC a b f) 0 3 = some (rcC a b f) := rowSub_all _ _ rfl
theorem rc_fits (a b : ByteArray) (f : Bool) : fitsRow 3 (rcC a b f) = true := by kernel_rfl
theorem rc_g0 (a b : ByteArray) (f : Bool) : (rcC a b f)[0]? = some (.string a) := rfl
theorem rc_g1 (a b : ByteArray) (f : Bool) : (rcC a b f)[1]? = some (.string b) := rfl
theorem rc_g2 (a b : ByteArray) (f : Bool) : (rcC a b f)[2]? = some (.bool f) := rfl
attribute [go_sem] rc_size rc_all rc_fits rc_g0 rc_g1 rc_g2
theorem rct_ty : RowTy Tryz.prog 111 3 := ⟨by kernel_rfl, by kernel_rfl⟩
theorem rct_ld (w : World) (b o : Nat) : (rowLoad 111 3 (.pointer (some ⟨b, o, none⟩))).run Tryz.prog w = rowLoadR Tryz.prog w 111 3 b o (rowOf w b o 3) := run_rowLoad rct_ty w b o
theorem rct_st (w : World) (b o : Nat) (cells : Array Value) : (rowStore 111 3 (.pointer (some ⟨b, o, none⟩)) (.agg cells)).run Tryz.prog w = rowStoreR Tryz.prog w 111 3 b o cells (roomOf w b o 3 && fitsRow 3 cells) := run_rowStore rct_ty w b o cells
theorem rct_al (w : World) : (rowAlloc 111).run Tryz.prog w = .ok (.value (.pointer (some ⟨w.heap.size, 0, none⟩))) (w.alloc (.cells (rcC ByteArray.empty ByteArray.empty false) 111)) := run_rowAlloc (by kernel_rfl) w
theorem rct_xl (ρ : Operand → Value) (dst : Option Tmp) (x : Operand) (t : TypeId) (pos : String) (after : Array Edge) (guard : Option (Nat × Bool)) : execOp ρ { dst, op := .load 111 x, type := t, pos, after, guard } = rowLoad 111 3 (ρ x) := rfl
theorem rct_xs (ρ : Operand → Value) (dst : Option Tmp) (x y : Operand) (t : TypeId) (pos : String) (after : Array Edge) (guard : Option (Nat × Bool)) : execOp ρ { dst, op := .store 111 x y, type := t, pos, after, guard } = rowStore 111 3 (ρ x) (ρ y) := rfl
theorem rct_xa (ρ : Operand → Value) (dst : Option Tmp) (t : TypeId) (pos : String) (after : Array Edge) (guard : Option (Nat × Bool)) : execOp ρ { dst, op := .alloc 111, type := t, pos, after, guard } = rowAlloc 111 := rfl
attribute [go_sem ↓] rct_xl rct_xs rct_xa
attribute [go_sem] rct_ld rct_st rct_al
def rcB3 (x y z : Value) : Sem Next := do pure (.value (← Instr.build 111 #[(0, x), (1, y), (2, z)]))
theorem rcB3_x (ρ : Operand → Value) (dst : Option Tmp) (x y z : Operand) (t : TypeId) (pos : String) (after : Array Edge) (guard : Option (Nat × Bool)) : execOp ρ { dst, op := .build 111 #[(0, x), (1, y), (2, z)], type := t, pos, after, guard } = rcB3 (ρ x) (ρ y) (ρ z) := by kernel_rfl
theorem rcB3_run (a b : ByteArray) (f : Bool) (W : World) : (rcB3 (.string a) (.string b) (.bool f)).run Tryz.prog W = .ok (.value (.agg (rcC a b f))) W := by kernel_rfl
def rcB1 (x : Value) : Sem Next := do pure (.value (← Instr.build 111 #[(0, x)]))
theorem rcB1_x (ρ : Operand → Value) (dst : Option Tmp) (x : Operand) (t : TypeId) (pos : String) (after : Array Edge) (guard : Option (Nat × Bool)) : execOp ρ { dst, op := .build 111 #[(0, x)], type := t, pos, after, guard } = rcB1 (ρ x) := by kernel_rfl
theorem rcB1_run (a : ByteArray) (W : World) : (rcB1 (.string a)).run Tryz.prog W = .ok (.value (.agg (rcC a ByteArray.empty false))) W := by kernel_rfl
attribute [go_sem ↓] rcB3_x rcB1_x
attribute [go_sem] rcB3_run rcB1_run
def RCutIs (c : UInt8) (s : ByteArray) (e : Ending) : Prop := ∃ (a b : ByteArray) (f : Bool), e = .returned (.agg (rcC a b f)) ∧ (bsT a, bsT b, f) = Ad.cutB c (bsT s) ∧ a.size ≤ s.size ∧ b.size ≤ s.size
theorem r31split_any (s : ByteArray) (sep : UInt8) (w : World) (hs : s.size ≤ 900000) :
  Calls Tryz.prog 70 #[.string s, .int .u8 sep.toNat] w fun e w' => RCutIs sep s e ∧ Ext w w' := by
 have hsb := sep.toNat_lt
 go_enter Tryz.func70, Tryz.ntmps70
 go_wp2
 refine wp_world (fun W => Ext w W ∧ RowAt W w.heap.size (rcC ByteArray.empty ByteArray.empty false) ∧ W.heap.size = w.heap.size + 1) ⟨(by (with_reducible repeat first|exact eR _|apply eD|apply eN|apply eA|apply eO|apply eS|apply eC);all_goals first|omega|simp <;> omega), RowAt.new _ _ _, by simp⟩ ?_
 obtain ⟨B, hB⟩ : ∃ B, w.heap.size = B := ⟨_, rfl⟩
 rw [hB]
 rintro W1 ⟨x1, u0, hs1⟩
 have HX1 := lh x1
 have HU0 := lh u0
 clear x1 u0
 go_loopw [5] (fun i wr => ∃ k : Nat, i = .int .i64 k ∧ k ≤ s.size ∧ Hid (∀ j (hj : j < (bsT s).length), j < k → (bsT s)[j] ≠ sep) ∧ Hid (Ext W1 wr)) (fun i _ => s.size - (intOf i).toNat)
 case atStart => exact ⟨0, rfl, Nat.zero_le _, lh (fun j _ h => absurd h (by omega)), lh (eR _)⟩
 case round =>
  obtain ⟨k, rfl, hk, HN, HX⟩ := hrel
  have hsz := HX.out.size
  have HU := lh (HU0.out.ext HX.out)
  by_cases hlt : k < s.size
  ·have hl : k < (bsT s).length := by rw [bsT_size]; exact hlt
   have hg : (bsT s)[k] = s[k] := by simp only [bsT, Array.getElem_toList]; rfl
   by_cases hc : s[k] = sep
   ·have hcc : ((s[k].toNat : Int) == (sep.toNat : Int)) = true := by rw [hc]; simp
    have HC : Hid ((bsT (s.extract 0 k), bsT (s.extract (k + 1) s.size), true) = Ad.cutB sep (bsT s)) := lh (by rw [bsT_take, bsT_rest, Ad.cutB_hit hl (hg.trans hc) HN.out])
    have hz1 : (s.extract 0 k).size ≤ s.size := by rw [ByteArray.size_extract]; omega
    have hz2 : (s.extract (k + 1) s.size).size ≤ s.size := by rw [ByteArray.size_extract]; omega
    clear hc hg
    go_upto_region 5 with (fail)
    refine wp_region_soft 8 (softsL [.eq (.string s), .eq (.int .i64 k), .eq (.string (s.extract 0 k)), .eq (.string s), .eq (.int .i64 k), .eq (.int .i64 (k + 1)), .eq (.string (s.extract (k + 1) s.size)), .eq (.agg (rcC (s.extract 0 k) (s.extract (k + 1) s.size) true))]) (by kernel_rfl) (by kernel_rfl) (lt_cons ?_ (lt_cons ?_ (lt_cons ?_ (lt_cons ?_ (lt_cons ?_ (lt_cons ?_ (lt_cons ?_ (lt_cons ?_ (lt_none))))))))) ?_
    any_goals (refine sop rfl fun xs W HW hsW HD Q' HQ => ?_; simp only [fillAt, dstOf, lc0, lcs, obs, Act.put, lsa, lsz, lss, nz, Nat.reduceAdd] at HQ ⊢)
    ·
     go_wp2
     exact HQ.out _ _ (eR _) rfl
    ·
     go_wp2
     exact HQ.out _ _ (eR _) rfl
    ·
     have hd0 : xs 0 = .string s := (HD.out 0 (dk (by kernel_rfl)))
     generalize xs 0 = x0 at hd0 HQ ⊢; subst hd0
     have hd1 : xs 1 = .int .i64 k := (HD.out 1 (dk (by kernel_rfl)))
     generalize xs 1 = x1 at hd1 HQ ⊢; subst hd1
     go_wp2
     exact HQ.out _ _ (eR _) rfl
    ·
     go_wp2
     exact HQ.out _ _ (eR _) rfl
    ·
     go_wp2
     exact HQ.out _ _ (eR _) rfl
    ·
     have hd4 : xs 4 = .int .i64 k := (HD.out 4 (dk (by kernel_rfl)))
     generalize xs 4 = x4 at hd4 HQ ⊢; subst hd4
     go_wp2
     exact HQ.out _ _ (eR _) rfl
    ·
     have hd3 : xs 3 = .string s := (HD.out 3 (dk (by kernel_rfl)))
     generalize xs 3 = x3 at hd3 HQ ⊢; subst hd3
     have hd5 : xs 5 = .int .i64 (k + 1) := (HD.out 5 (dk (by kernel_rfl)))
     generalize xs 5 = x5 at hd5 HQ ⊢; subst hd5
     go_wp2
     exact HQ.out _ _ (eR _) rfl
    ·
     have hd2 : xs 2 = .string (s.extract 0 k) := (HD.out 2 (dk (by kernel_rfl)))
     generalize xs 2 = x2 at hd2 HQ ⊢; subst hd2
     have hd6 : xs 6 = .string (s.extract (k + 1) s.size) := (HD.out 6 (dk (by kernel_rfl)))
     generalize xs 6 = x6 at hd6 HQ ⊢; subst hd6
     go_wp2
     exact HQ.out _ _ (eR _) rfl
    intro xs W3 hW hS
    have h7 : xs 7 = .agg (rcC (s.extract 0 k) (s.extract (k + 1) s.size) true) := hS 7 (by omega)
    simp only [fillAt, dstOf, lc0, lcs, obs, Act.put, lsa, lsz, lss, nz, Nat.reduceAdd, List.drop_succ_cons, List.drop_zero, List.drop_nil]
    generalize xs 7 = x7 at *; subst h7
    have HW3 := lh (HX.out.trans hW)
    have HWW3 := lh hW
    clear hS hW 
    generalize s.extract 0 k = a at *
    generalize s.extract (k + 1) s.size = b at *
    have HU3 := lh (HU.out.ext HWW3.out)
    have hm : roomOf W3 B 0 3 = true := by rw [HU3.out.room]; rfl
    have hs3 := HWW3.out.size
    have hft := rc_fits a b true
    go_wp2
    exact post_row rct_ty Tryz.results70 rfl rfl (RowAt.stored (n := 3) (ds := rcC a b true) HU3.out rfl rfl (by omega)) ⟨⟨a, b, true, rfl, HC.out, hz1, hz2⟩, (by (with_reducible repeat first|exact HX1.out.trans HW3.out|exact eR _|apply eD|apply eN|apply eA|apply eO|apply eS|apply eC);all_goals first|omega|simp <;> omega)⟩
   ·have hcc : ((s[k].toNat : Int) == (sep.toNat : Int)) = false := by
     rw [beq_eq_false_iff_ne]
     exact fun h => hc (UInt8.toNat_inj.1 (by omega))
    have HN2 : Hid (∀ j (hj : j < (bsT s).length), j < k + 1 → (bsT s)[j] ≠ sep) := lh (fun j hj h => by
     by_cases e : j = k
     ·subst e; rw [hg]; exact hc
     ·exact HN.out j hj (by omega))
    clear hc hg HN
    go_wp2
    go_roundw
    case rel => exact ⟨k + 1, by go_num, by omega, HN2, HX⟩
    case measure => simp [intOf]; omega
  ·have HC : Hid ((bsT s, bsT ByteArray.empty, false) = Ad.cutB sep (bsT s)) := lh (by
    rw [Ad.cutB_miss (fun hm => by
     obtain ⟨j, hj, e⟩ := List.mem_iff_getElem.1 hm
     exact HN.out j hj (by rw [bsT_size] at hj; omega) e)]
    rfl)
   have hm : roomOf wr B 0 3 = true := by rw [HU.out.room]; rfl
   have hft := rc_fits s ByteArray.empty false
   clear HN
   go_wp2
   exact post_row rct_ty Tryz.results70 rfl rfl (RowAt.stored (n := 3) (ds := rcC s ByteArray.empty false) HU.out rfl rfl (by omega)) ⟨⟨s, ByteArray.empty, false, rfl, HC.out, Nat.le_refl _, Nat.zero_le _⟩, (by (with_reducible repeat first|exact HX1.out.trans HX.out|exact eR _|apply eD|apply eN|apply eA|apply eO|apply eS|apply eC);all_goals first|omega|simp <;> omega)⟩
theorem cut_in (c : UInt8) (s : List UInt8) : (Ad.cutB c s).2.2 = s.contains c := by
 by_cases h : c ∈ s
 ·have h1 : s.contains c = true := by simpa using h
  rcases Ad.cutB_index c s with ⟨_, _, h2⟩ | ⟨i, _, _, h2, _⟩
  ·exact absurd h h2
  ·rw [h1, h2]
 ·rw [Ad.cutB_miss h]
  have : s.contains c = false := by simpa using h
  rw [this]
theorem r31right_any (p : Pu) (w : World) (hw : p.what.size ≤ 4096) :
  Calls Tryz.prog 58 #[.agg (puC p)] w fun e w' => e = .returned (.bool (okPu p)) ∧ Ext w w' := by
 have HC := lh (fun W => rcanon_any p.what W (by omega))
 have HK := lh (fun W => r31split_any p.what 63 W (by omega))
 have HT := lh (fun W => r31split_any p.what 58 W (by omega))
 have HNm := lh (fun (s : ByteArray) (W : World) (h : s.size ≤ 4096) => rname_any s W (by omega))
 replace HNm : Hid (∀ (s : ByteArray) (W : World) (h : s.size ≤ 4096), Calls Tryz.prog 110 #[.string s] W fun e w' => e = .returned (.bool (Tg.nameB (bsT s))) ∧ Ext W w') := HNm
 replace HK : Hid (∀ W, Calls Tryz.prog 70 #[.string p.what, .int .u8 63] W fun e w' => RCutIs 63 p.what e ∧ Ext W w') := HK
 replace HT : Hid (∀ W, Calls Tryz.prog 70 #[.string p.what, .int .u8 58] W fun e w' => RCutIs 58 p.what e ∧ Ext W w') := HT
 have hft := pu_fits p
 have d0 : decide (4096 < (p.what.size : Int)) = false := by simp; omega
 have d00 : ¬ 4096 < p.what.size := by omega
 by_cases k1 : p.kind = 1
 ·have HO : Hid (okPu p = Ad.canonB (bsT p.what)) := lh (by rw [okPu, if_pos k1])
  have d1 : (p.kind == 1) = true := by simpa using k1
  generalize okPu p = R at *
  generalize Ad.canonB (bsT p.what) = C at *
  clear k1 HK HT HNm
  go_enter Tryz.func58, Tryz.ntmps58
  go_wp2_with (go_at_call 64; refine (HC.out _).mono ?_; rintro e w' ⟨rfl, hxl⟩; obtain ⟨xl, rfl⟩ := hxl.asLater; clear hxl)
  go_ret
  exact ⟨ret_bool HO.out.symm, (by (with_reducible repeat first|exact eR _|apply eD|apply eN|apply eA|apply eO|apply eS|apply eC);all_goals first|omega|simp <;> omega)⟩
 have d1 : (p.kind == 1) = false := by simpa using k1
 by_cases k2 : p.kind = 2
 ·have HO : Hid (okPu p = (Ad.canonB (bsT p.what) && !((Ad.cutB 63 (bsT p.what)).2.2))) := lh (by rw [okPu, if_neg k1, if_pos k2, cut_in])
  have d2 : (p.kind == 2) = true := by simpa using k2
  generalize okPu p = R at *
  generalize Ad.canonB (bsT p.what) = C at *
  clear k1 k2 HT HNm
  go_enter Tryz.func58, Tryz.ntmps58
  go_upto_region 8 with (go_at_call 70; refine (HK.out _).mono ?_; rintro e w' ⟨⟨a, b, f, rfl, h1, h2, h3⟩, hxl⟩; have HA := lh h1; clear h1; obtain ⟨xl, rfl⟩ := hxl.asLater; clear hxl)
  have HA' : Hid (R = (C && !f)) := lh (by rw [HO.out, ← HA.out])
  clear HO HA HK
  cases f
  all_goals
   go_wp2_with (go_at_call 64; refine (HC.out _).mono ?_; rintro e w' ⟨rfl, hxl⟩; obtain ⟨xm, rfl⟩ := hxl.asLater; clear hxl)
   go_ret
   exact ⟨ret_bool (by have h := HA'.out; clear HA'; subst h; first | rfl | (simp; done) | (cases C <;> rfl)), (by (with_reducible repeat first|exact eR _|apply eD|apply eN|apply eA|apply eO|apply eS|apply eC);all_goals first|omega|simp <;> omega)⟩
 have d2 : (p.kind == 2) = false := by simpa using k2
 by_cases k3 : p.kind = 3
 ·have d3 : (p.kind == 3) = true := by simpa using k3
  have hdl : decide ((p.what.size : Int) ≤ 4096) = true := by simp; omega
  have HO : Hid (okPu p = ((Ad.cutB 58 (bsT p.what)).2.2 && Tg.nameB (Ad.cutB 58 (bsT p.what)).1 && Tg.nameB (Ad.cutB 58 (bsT p.what)).2.1)) := lh (by rw [okPu, if_neg k1, if_neg k2, if_pos k3, hdl, Bool.and_true])
  generalize okPu p = R at *
  clear k1 k2 k3 HC HK hdl
  go_enter Tryz.func58, Tryz.ntmps58
  go_upto_region 11 with (go_at_call 70; refine (HT.out _).mono ?_; rintro e w' ⟨⟨a, b, f, rfl, h1, h2, h3⟩, hxl⟩; have HA := lh h1; clear h1; obtain ⟨xl, rfl⟩ := hxl.asLater; clear hxl)
  have HA' : Hid (R = (f && Tg.nameB (bsT a) && Tg.nameB (bsT b))) := lh (by rw [HO.out, ← HA.out])
  clear HO HA HT
  cases f with
  | true =>
   cases ea : Tg.nameB (bsT a)
   all_goals
    rw [ea] at HA'
    have EA := lh ea
    clear ea
    go_wp2_with (go_at_call 110; refine (HNm.out _ _ (by omega)).mono ?_; rintro e w' ⟨rfl, hxl⟩; (first | rw [EA.out] | skip); obtain ⟨xm, rfl⟩ := hxl.asLater; clear hxl)
    go_ret
    exact ⟨ret_bool (by rw [HA'.out]; simp), (by (with_reducible repeat first|exact eR _|apply eD|apply eN|apply eA|apply eO|apply eS|apply eC);all_goals first|omega|simp <;> omega)⟩
  | false =>
   have HR : Hid (R = false) := lh (by rw [HA'.out]; simp)
   clear HA'
   go_wp2
   go_ret
   exact ⟨ret_bool HR.out.symm, (by (with_reducible repeat first|exact eR _|apply eD|apply eN|apply eA|apply eO|apply eS|apply eC);all_goals first|omega|simp <;> omega)⟩
 have d3 : (p.kind == 3) = false := by simpa using k3
 have HO : Hid (okPu p = false) := lh (by rw [okPu, if_neg k1, if_neg k2, if_neg k3])
 rw [HO.out]
 clear k1 k2 k3 HC HK HT HNm
 go_enter Tryz.func58, Tryz.ntmps58
 go_wp2
 go_ret
 exact ⟨rfl, (by (with_reducible repeat first|exact eR _|apply eD|apply eN|apply eA|apply eO|apply eS|apply eC);all_goals first|omega|simp <;> omega)⟩
theorem perclk32 (lo hi : Int) : perB lo hi = okClk ⟨lo, hi⟩ := by
 rw [Bool.eq_iff_iff, perB_iff]
 simp only [okClk, Bool.and_eq_true, decide_eq_true_eq]
 omega
theorem all_snoc {α : Type} (p : α → Bool) (l : List α) (k : Nat) (h : k < l.length) (h0 : (l.take k).all p = true) (h1 : p l[k] = true) : (l.take (k + 1)).all p = true := by
 rw [List.take_succ_eq_append_getElem h, List.all_append, h0]
 simpa using h1
theorem all_no {α : Type} (p : α → Bool) (l : List α) (k : Nat) (h : k < l.length) (h1 : p l[k] = false) : l.all p = false := by
 rw [List.all_eq_false]
 exact ⟨l[k], List.getElem_mem h, by simpa using h1⟩
theorem revalid_any (e : Ep) (w : World) (ha : EpAt w e) (hl : e.pu.length ≤ 100000) (hr : e.rv.length ≤ 9223372036854775807) (hw : ∀ p ∈ e.pu, p.what.size ≤ 4096) :
  Calls Tryz.prog 14 #[.agg (epC e)] w fun e' w' => e' = .returned (.bool (okEp e)) ∧ Ext w w' := by
 have HV : Hid (∀ W : World, Calls Tryz.prog 57 #[.agg #[.int .i64 e.lo, .int .i64 e.hi]] W fun e' w' => e' = .returned (.bool (okClk ⟨e.lo, e.hi⟩)) ∧ Ext W w') := lh (fun W => by rw [← perclk32]; exact rper_any e.lo e.hi W)
 have HP := lh (fun (k : Nat) (h : k < e.pu.length) (W : World) => r31right_any e.pu[k] W (hw _ (List.getElem_mem h)))
 have HAp := lh ha.pu
 have HO : Hid (okEp e = (decide (e.num ≥ 1) && decide (e.num ≤ 1099511627776) && okClk ⟨e.lo, e.hi⟩ && decide (max (e.pu.length : Int) (e.rv.length : Int) ≤ 1000) && e.pu.all okPu)) := lh rfl
 have hft := ep_fits e
 generalize okEp e = R at *
 generalize okClk ⟨e.lo, e.hi⟩ = C at *
 clear ha hw
 by_cases b : 1 ≤ e.num ∧ e.num ≤ 1099511627776 ∧ C = true ∧ e.pu.length ≤ 1000 ∧ e.rv.length ≤ 1000
 ·obtain ⟨b0, b1, rfl, b3, b4⟩ := b
  have HO' : Hid (R = e.pu.all okPu) := lh (by rw [HO.out, decide_eq_true (show e.num ≥ 1 from b0), decide_eq_true b1, decide_eq_true (show max (e.pu.length : Int) (e.rv.length : Int) ≤ 1000 by omega)]; simp)
  clear HO
  go_enter Tryz.func14, Tryz.ntmps14
  go_upto_region 3 with (go_at_call 57; refine (HV.out _).mono ?_; rintro e w' ⟨rfl, hxl⟩; obtain ⟨xm, rfl⟩ := hxl.asLater; clear hxl)
  refine wp_world (fun W => Ext w W ∧ RowAt W w.heap.size (epC e)) ⟨(by (with_reducible repeat first|exact eR _|apply eD|apply eN|apply eA|apply eO|apply eS|apply eC);all_goals first|omega|simp <;> omega), (RowAt.new _ _ _).later _⟩ ?_
  obtain ⟨B, hB⟩ : ∃ B, w.heap.size = B := ⟨_, rfl⟩
  rw [hB]
  rintro W1 ⟨x1, uB⟩
  have HX1 := lh x1
  have hlu := uB.lt
  have HQ19 : Hid (W1.cell? ⟨B, 19, none⟩ = some (.slice e.PA e.pu.length e.pc)) := lh ((uB.cell 19).trans (ep_g19 e))
  clear x1 uB HV b0 b1 b4
  generalize e.PA = PA at *
  go_wp2
  go_loopw [3] (fun i wr => ∃ k : Nat, k ≤ e.pu.length ∧ i = .int .i64 k ∧ Hid ((e.pu.take k).all okPu = true) ∧ Hid (Ext W1 wr)) (fun i _ => e.pu.length - (intOf i).toNat)
  case atStart => exact ⟨0, Nat.zero_le _, rfl, lh rfl, lh (eR _)⟩
  case round =>
   obtain ⟨k, hk, rfl, HK, HX⟩ := hrel
   have hsz := HX.out.size
   have qB_19 : wr.cell? ⟨B, 19, none⟩ = some (.slice PA e.pu.length e.pc) := (HX.out.cell (p := ⟨B, 19, none⟩) hlu).trans HQ19.out
   have hlw : B < wr.heap.size := by omega
   by_cases hlt : k < e.pu.length
   ·obtain ⟨b, off, rfl, hb, hrow⟩ := reads_row puE (HAp.out.ext (HX1.out.trans HX.out) (Nat.le_refl _)) k hlt
    have hb2 : b < wr.heap.size := by omega
    have HP1 := lh (HP.out k hlt)
    have HS := lh (all_snoc okPu e.pu k hlt HK.out)
    have HN := lh (all_no okPu e.pu k hlt)
    change rowOf wr b (off + k * 3) 3 = some (puC e.pu[k]) at hrow
    have hfp := pu_fits e.pu[k]
    clear HP
    generalize e.pu[k] = p at *
    cases hp : okPu p with
    | true =>
     have HS1 := lh (HS.out hp)
     rw [hp] at HP1
     clear HS HN hp
     go_wp2_with (go_at_call 58; refine (HP1.out _).mono ?_; rintro e w' ⟨rfl, hxl⟩; obtain ⟨xl, rfl⟩ := hxl.asLater; clear hxl)
     go_roundw
     case rel => exact ⟨k + 1, by omega, by go_num, HS1, lh (by (with_reducible repeat first|exact HX.out|exact eR _|apply eD|apply eN|apply eA|apply eO|apply eS|apply eC);all_goals first|omega|simp <;> omega)⟩
     case measure => simp [intOf]; omega
    | false =>
     have HN1 := lh (HN.out hp)
     rw [hp] at HP1
     clear HS HN hp
     go_wp2_with (go_at_call 58; refine (HP1.out _).mono ?_; rintro e w' ⟨rfl, hxl⟩; obtain ⟨xl, rfl⟩ := hxl.asLater; clear hxl)
     go_ret
     exact ⟨ret_bool (by rw [HO'.out, HN1.out]), (by (with_reducible repeat first|exact HX1.out.trans HX.out|exact eR _|apply eD|apply eN|apply eA|apply eO|apply eS|apply eC);all_goals first|omega|simp <;> omega)⟩
   ·have e1 : k = e.pu.length := by omega
    subst e1
    have HF : Hid (R = true) := lh (by have h := HK.out; rw [List.take_of_length_le (Nat.le_refl _)] at h; rw [HO'.out, h])
    go_wp2
    go_ret
    exact ⟨ret_bool HF.out.symm, (by (with_reducible repeat first|exact HX1.out.trans HX.out|exact eR _|apply eD|apply eN|apply eA|apply eO|apply eS|apply eC);all_goals first|omega|simp <;> omega)⟩
 ·have HR : Hid (R = false) := lh (by
   cases hR : R with
   | false => rfl
   | true =>
    exfalso
    apply b
    have h := HO.out
    rw [hR] at h
    have h' := h.symm
    simp only [Bool.and_eq_true, decide_eq_true_eq] at h'
    obtain ⟨⟨⟨⟨h1, h2⟩, h3⟩, h4⟩, _⟩ := h'
    exact ⟨by omega, h2, h3, by omega, by omega⟩)
  clear HO HAp HP
  have hneg : ∀ (h1 : 1 ≤ e.num) (h2 : e.num ≤ 1099511627776) (h3 : C = true) (h4 : e.pu.length ≤ 1000), 1000 < e.rv.length := fun h1 h2 h3 h4 => by
   by_cases h : e.rv.length ≤ 1000
   ·exact absurd ⟨h1, h2, h3, h4, h⟩ b
   ·omega
  clear b
  by_cases b0 : e.num < 1
  ·clear hneg
   go_enter Tryz.func14, Tryz.ntmps14
   go_wp2
   go_ret
   exact ⟨ret_bool HR.out.symm, (by (with_reducible repeat first|exact eR _|apply eD|apply eN|apply eA|apply eO|apply eS|apply eC);all_goals first|omega|simp <;> omega)⟩
  by_cases b1 : 1099511627776 < e.num
  ·clear hneg
   go_enter Tryz.func14, Tryz.ntmps14
   go_wp2
   go_ret
   exact ⟨ret_bool HR.out.symm, (by (with_reducible repeat first|exact eR _|apply eD|apply eN|apply eA|apply eO|apply eS|apply eC);all_goals first|omega|simp <;> omega)⟩
  cases C with
  | false =>
   clear hneg
   go_enter Tryz.func14, Tryz.ntmps14
   go_wp2_with (go_at_call 57; refine (HV.out _).mono ?_; rintro e w' ⟨rfl, hxl⟩; obtain ⟨xm, rfl⟩ := hxl.asLater; clear hxl)
   go_ret
   exact ⟨ret_bool HR.out.symm, (by (with_reducible repeat first|exact eR _|apply eD|apply eN|apply eA|apply eO|apply eS|apply eC);all_goals first|omega|simp <;> omega)⟩
  | true =>
   by_cases b3 : 1000 < e.pu.length
   ·clear hneg
    go_enter Tryz.func14, Tryz.ntmps14
    go_wp2_with (go_at_call 57; refine (HV.out _).mono ?_; rintro e w' ⟨rfl, hxl⟩; obtain ⟨xm, rfl⟩ := hxl.asLater; clear hxl)
    go_ret
    exact ⟨ret_bool HR.out.symm, (by (with_reducible repeat first|exact eR _|apply eD|apply eN|apply eA|apply eO|apply eS|apply eC);all_goals first|omega|simp <;> omega)⟩
   ·have b4 : 1000 < e.rv.length := hneg (by omega) (by omega) rfl (by omega)
    clear hneg
    go_enter Tryz.func14, Tryz.ntmps14
    go_wp2_with (go_at_call 57; refine (HV.out _).mono ?_; rintro e w' ⟨rfl, hxl⟩; obtain ⟨xm, rfl⟩ := hxl.asLater; clear hxl)
    go_ret
    exact ⟨ret_bool HR.out.symm, (by (with_reducible repeat first|exact eR _|apply eD|apply eN|apply eA|apply eO|apply eS|apply eC);all_goals first|omega|simp <;> omega)⟩
theorem rshortEp_any (e : Ep) (w : World) (ha : EpAt w e) (hl : e.pu.length ≤ 9223372036854775807) (hr : e.rv.length ≤ 9223372036854775807) (hw : ∀ p ∈ e.pu, p.what.size ≤ 9223372036854775807) :
  Calls Tryz.prog 10 #[.agg (epC e)] w fun e' w' => e' = .returned (.bool (shortEp e)) ∧ Ext w w' := by
 have HW := lh hw
 have HAp := lh ha.pu
 have HO : Hid (shortEp e = ((e.pu.all fun p => decide ((p.what.size : Int) ≤ 200)) && decide ((e.pu.length : Int) ≤ 10) && decide ((e.rv.length : Int) ≤ 10))) := lh rfl
 have hft := ep_fits e
 generalize shortEp e = R at *
 clear ha hw
 go_enter Tryz.func10, Tryz.ntmps10
 go_wp2
 refine wp_world (fun W => Ext w W ∧ RowAt W w.heap.size (epC e)) ⟨(by (with_reducible repeat first|exact eR _|apply eD|apply eN|apply eA|apply eO|apply eS|apply eC);all_goals first|omega|simp <;> omega), (RowAt.new _ _ _)⟩ ?_
 obtain ⟨B, hB⟩ : ∃ B, w.heap.size = B := ⟨_, rfl⟩
 rw [hB]
 rintro W1 ⟨x1, uB⟩
 have HX1 := lh x1
 have hlu := uB.lt
 have HQ19 : Hid (W1.cell? ⟨B, 19, none⟩ = some (.slice e.PA e.pu.length e.pc)) := lh ((uB.cell 19).trans (ep_g19 e))
 have HQ20 : Hid (W1.cell? ⟨B, 20, none⟩ = some (.slice e.RA e.rv.length e.rc)) := lh ((uB.cell 20).trans (ep_g20 e))
 clear x1 uB
 generalize e.PA = PA at *
 generalize e.RA = RA at *
 go_loopw [3] (fun i wr => ∃ k : Nat, k ≤ e.pu.length ∧ i = .int .i64 k ∧ Hid (((e.pu.take k).all fun p => decide ((p.what.size : Int) ≤ 200)) = true) ∧ Hid (Ext W1 wr)) (fun i _ => e.pu.length - (intOf i).toNat)
 case atStart => exact ⟨0, Nat.zero_le _, rfl, lh rfl, lh (eR _)⟩
 case round =>
  obtain ⟨k, hk, rfl, HK, HX⟩ := hrel
  have hsz := HX.out.size
  have qB_19 : wr.cell? ⟨B, 19, none⟩ = some (.slice PA e.pu.length e.pc) := (HX.out.cell (p := ⟨B, 19, none⟩) hlu).trans HQ19.out
  have hlw : B < wr.heap.size := by omega
  by_cases hlt : k < e.pu.length
  ·obtain ⟨b, off, rfl, hb, hrow⟩ := reads_row puE (HAp.out.ext (HX1.out.trans HX.out) (Nat.le_refl _)) k hlt
   have hb2 : b < wr.heap.size := by omega
   have hwk := HW.out _ (List.getElem_mem hlt)
   have HS := lh (all_snoc (fun p : Pu => decide ((p.what.size : Int) ≤ 200)) e.pu k hlt HK.out)
   have HN := lh (all_no (fun p : Pu => decide ((p.what.size : Int) ≤ 200)) e.pu k hlt)
   have q1 : wr.cell? ⟨b, off + k * 3 + 1, none⟩ = some (.string e.pu[k].what) := (rowOf_cell hrow (i := 1) (by omega)).trans (pu_g1 _)
   clear hrow
   generalize e.pu[k] = p at *
   generalize p.what = t at *
   by_cases h2 : 200 < t.size
   ·have HN1 := lh (HN.out (by simp; omega))
    have d1 : decide (200 < (t.size : Int)) = true := by simp; omega
    clear HS HN
    go_wp2
    go_ret
    exact ⟨ret_bool (by rw [HO.out, HN1.out]; simp), (by (with_reducible repeat first|exact HX1.out.trans HX.out|exact eR _|apply eD|apply eN|apply eA|apply eO|apply eS|apply eC);all_goals first|omega|simp <;> omega)⟩
   ·have HS1 := lh (HS.out (by simp; omega))
    have d1 : decide (200 < (t.size : Int)) = false := by simp; omega
    clear HS HN
    go_wp2
    go_roundw
    case rel => exact ⟨k + 1, by omega, by go_num, HS1, lh (by (with_reducible repeat first|exact HX.out|exact eR _|apply eD|apply eN|apply eA|apply eO|apply eS|apply eC);all_goals first|omega|simp <;> omega)⟩
    case measure => simp [intOf]; omega
  ·have e1 : k = e.pu.length := by omega
   subst e1
   have qB_20 : wr.cell? ⟨B, 20, none⟩ = some (.slice RA e.rv.length e.rc) := (HX.out.cell (p := ⟨B, 20, none⟩) hlu).trans HQ20.out
   have HF : Hid (R = (decide ((e.pu.length : Int) ≤ 10) && decide ((e.rv.length : Int) ≤ 10))) := lh (by have h := HK.out; rw [List.take_of_length_le (Nat.le_refl _)] at h; rw [HO.out, h, Bool.true_and])
   by_cases h1 : e.pu.length ≤ 10
   ·have d1 : decide ((e.pu.length : Int) ≤ 10) = true := by simp; omega
    go_wp2
    go_ret
    exact ⟨ret_bool (by rw [HF.out, d1]; simp), (by (with_reducible repeat first|exact HX1.out.trans HX.out|exact eR _|apply eD|apply eN|apply eA|apply eO|apply eS|apply eC);all_goals first|omega|simp <;> omega)⟩
   ·have d1 : decide ((e.pu.length : Int) ≤ 10) = false := by simp; omega
    go_wp2
    go_ret
    exact ⟨ret_bool (by rw [HF.out, d1]; simp), (by (with_reducible repeat first|exact HX1.out.trans HX.out|exact eR _|apply eD|apply eN|apply eA|apply eO|apply eS|apply eC);all_goals first|omega|simp <;> omega)⟩
def short200 (x : ByteArray) : Bool := decide (x.size ≤ 200)
theorem rshort_any (A : Option Addr) (c : Nat) (ls : List ByteArray) (n : Int) (w : World) (hl : ls.length ≤ 100000) (hz : ∀ x ∈ ls, x.size ≤ 9223372036854775807) (hr : ReadsStr w w.heap.size A ls) :
  Calls Tryz.prog 52 #[.slice A ls.length c, .int .i64 n] w fun e w' => e = .returned (.bool (ls.all short200 && decide ((ls.length : Int) ≤ n))) ∧ Ext w w' := by
 have HR := lh hr
 have HZ := lh hz
 clear hr hz
 have HF : Hid ((ls.all short200 && decide ((ls.length : Int) ≤ n)) = (ls.all short200 && decide ((ls.length : Int) ≤ n))) := lh rfl
 obtain ⟨R, hR⟩ : ∃ R, (ls.all short200 && decide ((ls.length : Int) ≤ n)) = R := ⟨_, rfl⟩
 rw [hR]
 replace HF := lh hR
 clear hR
 go_enter Tryz.func52, Tryz.ntmps52
 go_wp2
 go_loopw [5] (fun i wr => ∃ k : Nat, k ≤ ls.length ∧ i = .int .i64 k ∧ Hid ((ls.take k).all short200 = true) ∧ Hid (Ext w wr)) (fun i _ => ls.length - (intOf i).toNat)
 case atStart => exact ⟨0, Nat.zero_le _, rfl, lh rfl, lh (eR _)⟩
 case round =>
  obtain ⟨k, hk, rfl, HB, HX⟩ := hrel
  by_cases hlt : k < ls.length
  ·obtain ⟨b, off, rfl, hb, d1⟩ := ReadsStr.cell (HR.out.ext HX.out (Nat.le_refl _)) k hlt
   have hx := HZ.out _ (List.getElem_mem hlt)
   have hmem := List.getElem_mem hlt
   have HS : Hid ((ls.take (k + 1)).all short200 = short200 ls[k]) := lh (by rw [List.take_succ_eq_append_getElem hlt, List.all_append, HB.out]; simp)
   have HA : Hid (ls.all short200 = true → short200 ls[k] = true) := lh (fun h => List.all_eq_true.1 h _ hmem)
   generalize ls[k] = x at *
   by_cases h2 : 200 < x.size
   ·have d2 : decide ((200 : Int) < (x.size : Int)) = true := decide_eq_true (by omega)
    have hf : ls.all short200 = false := by
     cases h : ls.all short200 with
     | false => rfl
     | true =>
      have := HA.out h
      simp only [short200, decide_eq_true_eq] at this
      omega
    have HF2 : Hid (R = false) := lh (by rw [← HF.out, hf]; rfl)
    clear hf hmem
    go_wp2
    go_ret
    exact ⟨ret_bool HF2.out.symm, HX.out⟩
   ·have d2 : decide ((200 : Int) < (x.size : Int)) = false := decide_eq_false (by omega)
    have HN : Hid ((ls.take (k + 1)).all short200 = true) := lh (by rw [HS.out]; simp only [short200, decide_eq_true_eq]; omega)
    clear hmem
    go_wp2
    go_roundw
    case rel => exact ⟨k + 1, by omega, by go_num, HN, HX⟩
    case measure => simp [intOf]; omega
  ·have e : k = ls.length := by omega
   subst e
   rw [List.take_length] at HB
   have HF2 : Hid (R = decide ((ls.length : Int) ≤ n)) := lh (by rw [← HF.out, HB.out, Bool.true_and])
   go_wp2
   go_ret
   exact ⟨ret_bool HF2.out.symm, HX.out⟩
def shortSt (s : St) : Bool := [s.addr, s.var, s.tags].all short200
theorem rshortSt_any (s : St) (w : World) (h1 : s.addr.size ≤ 9223372036854775807) (h2 : s.var.size ≤ 9223372036854775807) (h3 : s.tags.size ≤ 9223372036854775807) :
  Calls Tryz.prog 11 #[.agg (stmC s)] w fun e w' => e = .returned (.bool (shortSt s)) ∧ Ext w w' := by
 have HSh : Hid (∀ (W : World) (b : Nat) (t : TypeId), b = W.heap.size → Calls Tryz.prog 52 #[.slice (some ⟨b, 0, none⟩) 3 3, .int .i64 3] (W.alloc (.cells #[.string s.addr, .string s.var, .string s.tags] t)) fun e w' => e = .returned (.bool (shortSt s)) ∧ Ext (W.alloc (.cells #[.string s.addr, .string s.var, .string s.tags] t)) w') := lh (fun W b t hb => by
  subst hb
  have h := rshort_any (some ⟨W.heap.size, 0, none⟩) 3 [s.addr, s.var, s.tags] 3 (W.alloc (.cells #[.string s.addr, .string s.var, .string s.tags] t)) (by show 3 ≤ 100000; omega) (fun x hx => by
   simp only [List.mem_cons, List.not_mem_nil, or_false] at hx
   rcases hx with rfl | rfl | rfl <;> assumption) (reads_fresh sE [s.addr, s.var, s.tags] W _ t rfl)
  rwa [show ([s.addr, s.var, s.tags].all short200 && decide ((([s.addr, s.var, s.tags] : List ByteArray).length : Int) ≤ 3)) = shortSt s from by unfold shortSt; simp] at h)
 have hfs := stm_fits s
 clear h1 h2 h3
 generalize shortSt s = R at *
 go_enter Tryz.func11, Tryz.ntmps11
 go_wp2_with (go_at_call 52; refine (HSh.out _ _ _ (by first | rfl | simp)).mono ?_; rintro e w' ⟨rfl, hxl⟩; obtain ⟨xl, rfl⟩ := hxl.asLater; clear hxl)
 go_ret
 exact ⟨rfl, (by (with_reducible repeat first|exact eR _|apply eD|apply eN|apply eA|apply eO|apply eS|apply eC);all_goals first|omega|simp <;> omega)⟩
theorem r31canon_any (s : ByteArray) (w : World) (hs : s.size ≤ 900000) :
  Calls Tryz.prog 17 #[.string s] w fun e w' => e = .returned (.bool (Ad.canonB (bsT s))) ∧ Ext w w' := by
 have HC := lh (fun W => rcanon_any s W hs)
 clear hs
 generalize Ad.canonB (bsT s) = R at *
 go_enter Tryz.func17, Tryz.ntmps17
 go_wp2_with (go_at_call 64; refine (HC.out _).mono ?_; rintro e w' ⟨rfl, hxl⟩; obtain ⟨xl, rfl⟩ := hxl.asLater; clear hxl)
 go_ret
 exact ⟨rfl, (by (with_reducible repeat first|exact eR _|apply eD|apply eN|apply eA|apply eO|apply eS|apply eC);all_goals first|omega|simp <;> omega)⟩
end Go.Proofs.YtpojnhikgjcgmaaGreatDoor