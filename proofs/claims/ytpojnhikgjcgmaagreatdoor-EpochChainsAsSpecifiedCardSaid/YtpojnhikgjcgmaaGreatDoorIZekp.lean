/- weirgatelaw31.EpochChainsAsSpecified, the lifted law: it returns true for every ring, key, list of sets, epoch and byte, and leaves its arguments as they were; the listed tables hold what the program's text lays (the card ties them). No other condition. -/
import Derived.WalkKit
import Derived.WalkSpells
import Derived.WalkLawsBesides
import Derived.Deep.QuietTactic
import Derived.BigQuiet
import Derived.Test.YtpojnhikgjcgmaaGreatDoorIYw
import Derived.Test.YtpojnhikgjcgmaaGreatDoorIDf
import Derived.Test.YtpojnhikgjcgmaaGreatDoorIYu
import Derived.Test.YtpojnhikgjcgmaaGreatDoorIYo
import Derived.Test.YtpojnhikgjcgmaaGreatDoorTie
import Derived.Test.YtpojnhikgjcgmaaGreatDoorCards
import Derived.ProofKit
import Derived.Lay
import Derived.ChangeMaps5
import Derived.SevenTiedAt
import Derived.Stop.Joined
set_option maxRecDepth 100000
set_option maxHeartbeats 64000000
set_option linter.unusedVariables false
set_option linter.unusedSimpArgs false
namespace Go.Proofs.YtpojnhikgjcgmaaGreatDoor
open Go.RowKit Go.Shelf Go.Maps
open Go.Proofs
def chnC (A : Option Addr) (n c : Nat) (e : Int) : Array Value := #[.slice A n c, .int .i64 e]
theorem chn_ty : RowTy Tryz.prog 71 2 := ⟨by kernel_rfl, by kernel_rfl⟩
theorem chn_ld (w : World) (b o : Nat) : (rowLoad 71 2 (.pointer (some ⟨b, o, none⟩))).run Tryz.prog w = rowLoadR Tryz.prog w 71 2 b o (rowOf w b o 2) := run_rowLoad chn_ty w b o
theorem chn_st (w : World) (b o : Nat) (cells : Array Value) : (rowStore 71 2 (.pointer (some ⟨b, o, none⟩)) (.agg cells)).run Tryz.prog w = rowStoreR Tryz.prog w 71 2 b o cells (roomOf w b o 2 && fitsRow 2 cells) := run_rowStore chn_ty w b o cells
theorem chn_al (w : World) : (rowAlloc 71).run Tryz.prog w = .ok (.value (.pointer (some ⟨w.heap.size, 0, none⟩))) (w.alloc (.cells (chnC none 0 0 0) 71)) := run_rowAlloc (by kernel_rfl) w
theorem chn_xl (ρ : Operand → Value) (dst : Option Tmp) (x : Operand) (t : TypeId) (pos : String) (after : Array Edge) (guard : Option (Nat × Bool)) : execOp ρ { dst, op := .load 71 x, type := t, pos, after, guard } = rowLoad 71 2 (ρ x) := rfl
theorem chn_xs (ρ : Operand → Value) (dst : Option Tmp) (x y : Operand) (t : TypeId) (pos : String) (after : Array Edge) (guard : Option (Nat × Bool)) : execOp ρ { dst, op := .store 71 x y, type := t, pos, after, guard } = rowStore 71 2 (ρ x) (ρ y) := rfl
theorem chn_xa (ρ : Operand → Value) (dst : Option Tmp) (t : TypeId) (pos : String) (after : Array Edge) (guard : Option (Nat × Bool)) : execOp ρ { dst, op := .alloc 71, type := t, pos, after, guard } = rowAlloc 71 := rfl
attribute [go_sem ↓] chn_xl chn_xs chn_xa
attribute [go_sem] chn_ld chn_st chn_al
theorem chn_size (A : Option Addr) (n c : Nat) (e : Int) : (chnC A n c e).size = 2 := rfl
theorem chn_all (A : Option Addr) (n c : Nat) (e : Int) : rowSub (chnC A n c e) 0 2 = some (chnC A n c e) := rowSub_all _ _ rfl
theorem chn_fits (A : Option Addr) (n c : Nat) (e : Int) : fitsRow 2 (chnC A n c e) = true := by kernel_rfl
theorem chn_g0 (A : Option Addr) (n c : Nat) (e : Int) : (chnC A n c e)[0]? = some (.slice A n c) := rfl
theorem chn_g1 (A : Option Addr) (n c : Nat) (e : Int) : (chnC A n c e)[1]? = some (.int .i64 e) := rfl
attribute [go_sem] chn_size chn_all chn_fits chn_g0 chn_g1
def chnB1 (a : Value) : Sem Next := do pure (.value (← Instr.build 71 #[(1, a)]))
theorem chnB1_x (ρ : Operand → Value) (dst : Option Tmp) (a : Operand) (t : TypeId) (pos : String) (after : Array Edge) (guard : Option (Nat × Bool)) : execOp ρ { dst, op := .build 71 #[(1, a)], type := t, pos, after, guard } = chnB1 (ρ a) := by kernel_rfl
attribute [go_sem ↓] chnB1_x
theorem chnB1_run (e : Int) (W : World) : (chnB1 (.int .i64 e)).run Tryz.prog W = .ok (.value (.agg (chnC none 0 0 e))) W := by kernel_rfl
def chnB0 (a : Value) : Sem Next := do pure (.value (← Instr.build 71 #[(0, a)]))
theorem chnB0_x (ρ : Operand → Value) (dst : Option Tmp) (a : Operand) (t : TypeId) (pos : String) (after : Array Edge) (guard : Option (Nat × Bool)) : execOp ρ { dst, op := .build 71 #[(0, a)], type := t, pos, after, guard } = chnB0 (ρ a) := by kernel_rfl
attribute [go_sem ↓] chnB0_x
theorem chnB0_run (A : Option Addr) (n c : Nat) (W : World) : (chnB0 (.slice A n c)).run Tryz.prog W = .ok (.value (.agg (chnC A n c 0))) W := by kernel_rfl
def plcC (n e : Int) : Array Value := #[.int .i64 n, .int .i64 e]
theorem plc_ty : RowTy Tryz.prog 83 2 := ⟨by kernel_rfl, by kernel_rfl⟩
theorem plc_ld (w : World) (b o : Nat) : (rowLoad 83 2 (.pointer (some ⟨b, o, none⟩))).run Tryz.prog w = rowLoadR Tryz.prog w 83 2 b o (rowOf w b o 2) := run_rowLoad plc_ty w b o
theorem plc_st (w : World) (b o : Nat) (cells : Array Value) : (rowStore 83 2 (.pointer (some ⟨b, o, none⟩)) (.agg cells)).run Tryz.prog w = rowStoreR Tryz.prog w 83 2 b o cells (roomOf w b o 2 && fitsRow 2 cells) := run_rowStore plc_ty w b o cells
theorem plc_al (w : World) : (rowAlloc 83).run Tryz.prog w = .ok (.value (.pointer (some ⟨w.heap.size, 0, none⟩))) (w.alloc (.cells (plcC 0 0) 83)) := run_rowAlloc (by kernel_rfl) w
theorem plc_xl (ρ : Operand → Value) (dst : Option Tmp) (x : Operand) (t : TypeId) (pos : String) (after : Array Edge) (guard : Option (Nat × Bool)) : execOp ρ { dst, op := .load 83 x, type := t, pos, after, guard } = rowLoad 83 2 (ρ x) := rfl
theorem plc_xs (ρ : Operand → Value) (dst : Option Tmp) (x y : Operand) (t : TypeId) (pos : String) (after : Array Edge) (guard : Option (Nat × Bool)) : execOp ρ { dst, op := .store 83 x y, type := t, pos, after, guard } = rowStore 83 2 (ρ x) (ρ y) := rfl
theorem plc_xa (ρ : Operand → Value) (dst : Option Tmp) (t : TypeId) (pos : String) (after : Array Edge) (guard : Option (Nat × Bool)) : execOp ρ { dst, op := .alloc 83, type := t, pos, after, guard } = rowAlloc 83 := rfl
attribute [go_sem ↓] plc_xl plc_xs plc_xa
attribute [go_sem] plc_ld plc_st plc_al
theorem plc_size (n e : Int) : (plcC n e).size = 2 := rfl
theorem plc_all (n e : Int) : rowSub (plcC n e) 0 2 = some (plcC n e) := rowSub_all _ _ rfl
theorem plc_fits (n e : Int) : fitsRow 2 (plcC n e) = true := by kernel_rfl
theorem plc_g0 (n e : Int) : (plcC n e)[0]? = some (.int .i64 n) := rfl
theorem plc_g1 (n e : Int) : (plcC n e)[1]? = some (.int .i64 e) := rfl
attribute [go_sem] plc_size plc_all plc_fits plc_g0 plc_g1
def plcB1 (a : Value) : Sem Next := do pure (.value (← Instr.build 83 #[(0, a)]))
theorem plcB1_x (ρ : Operand → Value) (dst : Option Tmp) (a : Operand) (t : TypeId) (pos : String) (after : Array Edge) (guard : Option (Nat × Bool)) : execOp ρ { dst, op := .build 83 #[(0, a)], type := t, pos, after, guard } = plcB1 (ρ a) := by kernel_rfl
attribute [go_sem ↓] plcB1_x
theorem plcB1_run (n : Int) (W : World) : (plcB1 (.int .i64 n)).run Tryz.prog W = .ok (.value (.agg (plcC n 0))) W := by kernel_rfl
def plcB2 (a b : Value) : Sem Next := do pure (.value (← Instr.build 83 #[(0, a), (1, b)]))
theorem plcB2_x (ρ : Operand → Value) (dst : Option Tmp) (a b : Operand) (t : TypeId) (pos : String) (after : Array Edge) (guard : Option (Nat × Bool)) : execOp ρ { dst, op := .build 83 #[(0, a), (1, b)], type := t, pos, after, guard } = plcB2 (ρ a) (ρ b) := by kernel_rfl
attribute [go_sem ↓] plcB2_x
theorem plcB2_run (n e : Int) (W : World) : (plcB2 (.int .i64 n) (.int .i64 e)).run Tryz.prog W = .ok (.value (.agg (plcC n e))) W := by kernel_rfl
attribute [go_sem] chnB1_run chnB0_run plcB1_run plcB2_run
def RAppOut (ring : List Ky) (l : List Ep) (x : Ep) (base : Nat) (r : Ending) (w' : World) : Prop := ∃ A c l', r = .returned (.agg (chnC A l'.length c (appendE ring l x))) ∧ l' = appL ring l x ∧ OwnsEp base w' A c l'
theorem rappend_any (Ar : Option Addr) (cr : Nat) (ring : List Ky) (A : Option Addr) (c : Nat) (l : List Ep) (x : Ep) (w : World) (hg : RingOk ring) (hrk : ReadsKy w w.heap.size Ar ring) (hl : l.length ≤ 100) (hc : ChAt w A l) (hz : A = none → c = 0) (hok : EpOk x) (hsh : EpShort x) (ha : EpAt w x) (hk : RKonst w) :
  Calls Tryz.prog 35 #[.slice Ar ring.length cr, .slice A l.length c, .agg (epC x)] w fun r w' => RAppOut ring l x w.heap.size r w' ∧ Ext w w' := by
 have HF := lh (fun (W : World) (hx : Ext w W) => rfollows_any A c l x W hl (hc.on hx) hok hsh (ha.on hx) (RowAt.ext hk hx))
 have HC := lh (fun (W : World) (hx : Ext w W) => rcheckEp_any Ar cr ring x W hg (hrk.on hx) hok hsh (ha.on hx) (RowAt.ext hk hx))
 have HRd := lh hc.rd
 have HZ := lh hz
 have HA : Hid (appendE ring l x = if followsN l x = 0 then checkEp ring x else followsN l x) := lh rfl
 have HL : Hid (appL ring l x = if appendE ring l x = 0 then l ++ [x] else []) := lh rfl
 have hfe := ep_fits x
 unfold RAppOut
 generalize appL ring l x = LL at *
 generalize appendE ring l x = R at *
 generalize followsN l x = F at *
 generalize checkEp ring x = C at *
 clear hg hrk hc hz hok hsh ha hk
 go_enter Tryz.func35, Tryz.ntmps35
 go_upto_region 1 with (fail)
 refine wp_world (fun W => Ext w W ∧ RowAt W w.heap.size (epC x) ∧ RowAt W (w.heap.size + 1) (chnC none 0 0 0)) ⟨(by (with_reducible repeat first|exact eR _|apply eD|apply eN|apply eA|apply eO|apply eS|apply eC);all_goals first|omega|simp <;> omega), (RowAt.new _ _ _).alloc _, RowAt.newAt (by simp)⟩ ?_
 obtain ⟨B, hB⟩ : ∃ B, w.heap.size = B := ⟨_, rfl⟩
 rw [hB]
 rintro W1 ⟨x1, u0, u1⟩
 have HX1 := lh x1
 have HU1 := lh u1
 have hlu := u1.lt
 have k0 : rowOf W1 B 0 38 = some (epC x) := u0.all rfl (by omega)
 clear x1 u0 u1
 by_cases f0 : F = 0
 ·subst f0
  have HA2 : Hid (R = C) := lh (by rw [HA.out, if_pos rfl])
  clear HA
  by_cases c0 : C = 0
  ·subst c0
   have HR0 : Hid (R = 0) := lh HA2.out
   have HL2 : Hid (LL = l ++ [x]) := lh (by rw [HL.out, HR0.out, if_pos rfl])
   clear HA2 HL
   go_upto_region 7 with (first
    | (go_at_call 39; refine (HF.out _ HX1.out).mono ?_; rintro e w' ⟨rfl, hxl⟩; obtain ⟨xl, rfl⟩ := hxl.asLater; clear hxl)
    | (go_at_call 80; refine (HC.out _ (HX1.out.onto _)).mono ?_; rintro r w' ⟨rfl, hxl⟩; obtain ⟨xk, rfl⟩ := hxl.asLater; clear hxl))
   refine wp_world (fun W => Ext w W ∧ rowOf W B 0 38 = some (epC x) ∧ RowAt W (B + 1) (chnC none 0 0 0)) ⟨(by (with_reducible repeat first|exact HX1.out|exact eR _|apply eD|apply eN|apply eA|apply eO|apply eS|apply eC);all_goals first|omega|simp <;> omega), by first | exact k0 | (simp only [later_later, rowOf_later, if_pos (show B < W1.heap.size by omega)]; exact k0), (HU1.out.later _).later _⟩ ?_
   rintro W2 ⟨x2, k2, u2⟩
   have HX2 := lh x2
   have HU2 := lh u2
   have hl2 := u2.lt
   have HR2 := lh (HRd.out.on x2)
   clear x2 u2 k0 HX1 HU1 HF HC
   refine wp_region_soft 5 (softsL [own0 W2.heap.size, .eq (.slice A l.length c), ownL W2.heap.size l, .eq (.agg (epC x)), readE [x]]) (by kernel_rfl) (by kernel_rfl) (lt_cons ?_ (lt_cons ?_ (lt_cons ?_ (lt_cons ?_ (lt_cons ?_ (lt_none)))))) ?_
   any_goals (refine sop rfl fun xs W HW hsW HD Q' HQ => ?_; simp only [fillAt, dstOf, lc0, lcs, obs, Act.put, lsa, lsz, lss, nz, Nat.reduceAdd] at HQ ⊢)
   ·
    go_wp2
    exact HQ.out _ _ ((eR _).alloc _) ⟨some ⟨W.heap.size, 0, none⟩, rfl, owns_fresh epE [] W #[] W.heap.size W2.heap.size rfl hsW rfl (by decide)⟩
   ·
    go_wp2
    exact HQ.out _ _ (eR _) rfl
   ·
    have hs0 : (own0 W2.heap.size).S (xs 0) W := (HD.out 0 (dk (by kernel_rfl)))
    have hd1 : xs 1 = .slice A l.length c := (HD.out 1 (dk (by kernel_rfl)))
    generalize xs 1 = x1 at hd1 HQ ⊢; subst hd1
    obtain ⟨A0, h0, ho0⟩ := hs0
    generalize xs 0 = x0 at h0 HQ ⊢; subst h0
    go_wp2_with (at_builtin; refine (show Hid _ from ?_).out)
    refine lh ?_
    refine app_empty epT epE rfl _ _ rfl W2.heap.size A0 rfl ho0 W.heap.size _ _ l rfl (HR2.out.on HW.out) HZ.out (by omega) (by omega) hsW ?_
    intro A' c' l' w1 hl' ho hx
    have hl'' := hl'.out
    subst hl''
    go_wp2
    exact HQ.out _ _ hx ⟨A', c', rfl, ho⟩
   ·
    have hc := (row_extW HW.out (b := B) (by omega) 0 38).trans k2
    go_wp2
    exact HQ.out _ _ (eR _) rfl
   ·
    have hd3 : xs 3 = .agg (epC x) := (HD.out 3 (dk (by kernel_rfl)))
    generalize xs 3 = x3 at hd3 HQ ⊢; subst hd3
    go_wp2
    exact HQ.out _ _ ((eR _).alloc _) ⟨_, _, rfl, reads_freshB epE [x] W _ _ (by kernel_rfl) _ rfl, fun h => (by cases h)⟩
   intro xs W3 hW hS
   have h2 : (ownL W2.heap.size l).S (xs 2) W3 := hS 2 (by omega)
   have h4 : (readE [x]).S (xs 4) W3 := hS 4 (by omega)
   simp only [fillAt, dstOf, lc0, lcs, obs, Act.put, lsa, lsz, lss, nz, Nat.reduceAdd, List.drop_succ_cons, List.drop_zero, List.drop_nil]
   have HW3 := lh (HX2.out.trans hW)
   have HWW3 := lh hW
   clear hS hW k2
   obtain ⟨A1, c1, hx1, ho1⟩ := h2
   obtain ⟨A3, c3, hx3, hr3, hz3⟩ := h4
   generalize xs 2 = xv1 at *
   generalize xs 4 = xv3 at *
   subst hx1 hx3
   have HO1 := lh ho1
   have HR3 := lh hr3
   have hs3 := HWW3.out.size
   clear ho1 hr3
   go_wp2_with (at_builtin; refine (show Hid _ from ?_).out)
   refine lh ?_
   refine app_reads epT epE rfl _ _ rfl W2.heap.size _ _ l rfl HO1.out W3.heap.size _ _ [x] rfl HR3.out hz3 (by simp; omega) (by simp; omega) hs3 ?_
   intro A2 c2 l2 w2 HL2' hO9 hB9 hl1' hl2' _
   have HO2 := lh hO9
   have HX29 : Hid (Ext W2 w2) := lh (Ext.grown HWW3.out hB9 (Nat.le_refl _))
   have HXe : Hid (Ext w w2) := lh (HX2.out.trans HX29.out)
   have HLe : Hid (l2 = LL) := lh (by rw [HL2'.out, HL2.out])
   have HU9 := lh (HU2.out.ext HX29.out)
   have m9 : roomOf w2 (B + 1) 0 2 = true := by rw [HU9.out.room]; rfl
   have hfc := chn_fits A2 l2.length c2 0
   clear hO9 hB9 hl1' hl2' HL2' HX29
   go_wp2
   refine post_row chn_ty Tryz.results35 rfl rfl (RowAt.stored (n := 2) (ds := chnC A2 l2.length c2 0) HU9.out rfl rfl (by omega)) ⟨⟨A2, c2, l2, by rw [HR0.out], HLe.out, (HO2.out.others (by omega) _ _).lower (by have := HX2.out.size; omega)⟩, (by (with_reducible repeat first|exact HXe.out|exact eR _|apply eD|apply eN|apply eA|apply eO|apply eS|apply eC);all_goals first|omega|simp <;> omega)⟩
  ·have HL2 : Hid (LL = []) := lh (by rw [HL.out, HA2.out, if_neg c0])
   have dc : (C != 0) = true := by simpa using c0
   have hfc := chn_fits none 0 0 C
   clear HL
   go_upto_region 6 with (first
    | (go_at_call 39; refine (HF.out _ HX1.out).mono ?_; rintro e w' ⟨rfl, hxl⟩; obtain ⟨xl, rfl⟩ := hxl.asLater; clear hxl)
    | (go_at_call 80; refine (HC.out _ (HX1.out.onto _)).mono ?_; rintro r w' ⟨rfl, hxl⟩; obtain ⟨xk, rfl⟩ := hxl.asLater; clear hxl))
   refine wp_world (fun W => Ext w W ∧ RowAt W (B + 1) (chnC none 0 0 0)) ⟨(by (with_reducible repeat first|exact HX1.out|exact eR _|apply eD|apply eN|apply eA|apply eO|apply eS|apply eC);all_goals first|omega|simp <;> omega), (HU1.out.later _).later _⟩ ?_
   rintro W2 ⟨x2, u2⟩
   have HX2 := lh x2
   have HU2 := lh u2
   have hl2 := u2.lt
   have m2 : roomOf W2 (B + 1) 0 2 = true := by rw [u2.room]; rfl
   clear x2 u2 k0 HX1 HU1 HF HC
   go_wp2
   refine post_row chn_ty Tryz.results35 rfl rfl (RowAt.stored (n := 2) (ds := chnC none 0 0 C) HU2.out rfl rfl (by omega)) ⟨⟨none, 0, [], by rw [HA2.out]; rfl, HL2.out.symm, Owns.nil _ _ _ _ _⟩, (by (with_reducible repeat first|exact HX2.out|exact eR _|apply eD|apply eN|apply eA|apply eO|apply eS|apply eC);all_goals first|omega|simp <;> omega)⟩
 ·have HA2 : Hid (R = F) := lh (by rw [HA.out, if_neg f0])
  have HL2 : Hid (LL = []) := lh (by rw [HL.out, HA2.out, if_neg f0])
  have dc : (F != 0) = true := by simpa using f0
  have de : (F == 0) = false := by simpa using f0
  have hfc := chn_fits none 0 0 F
  clear HL HA
  go_upto_region 3 with (go_at_call 39; refine (HF.out _ HX1.out).mono ?_; rintro e w' ⟨rfl, hxl⟩; obtain ⟨xl, rfl⟩ := hxl.asLater; clear hxl)
  refine wp_world (fun W => Ext w W ∧ RowAt W (B + 1) (chnC none 0 0 0)) ⟨(by (with_reducible repeat first|exact HX1.out|exact eR _|apply eD|apply eN|apply eA|apply eO|apply eS|apply eC);all_goals first|omega|simp <;> omega), HU1.out.later _⟩ ?_
  rintro W2 ⟨x2, u2⟩
  have HX2 := lh x2
  have HU2 := lh u2
  have hl2 := u2.lt
  have m2 : roomOf W2 (B + 1) 0 2 = true := by rw [u2.room]; rfl
  clear x2 u2 k0 HX1 HU1 HF HC
  go_wp2
  refine post_row chn_ty Tryz.results35 rfl rfl (RowAt.stored (n := 2) (ds := chnC none 0 0 F) HU2.out rfl rfl (by omega)) ⟨⟨none, 0, [], by rw [HA2.out]; rfl, HL2.out.symm, Owns.nil _ _ _ _ _⟩, (by (with_reducible repeat first|exact HX2.out|exact eR _|apply eD|apply eN|apply eA|apply eO|apply eS|apply eC);all_goals first|omega|simp <;> omega)⟩
theorem rcheck_any (Ar : Option Addr) (cr : Nat) (ring : List Ky) (A : Option Addr) (c : Nat) (l : List Ep) (w : World) (hg : RingOk ring) (hrk : ReadsKy w w.heap.size Ar ring) (hl : l.length ≤ 100) (hcap : l.length ≤ c) (hc : ChAt w A l) (hk : RKonst w) :
  Calls Tryz.prog 44 #[.slice Ar ring.length cr, .slice A l.length c] w fun r w' => r = .returned (.agg (plcC (checkAll ring l).1 (checkAll ring l).2)) ∧ Ext w w' := by
 have HC := lh hc
 have HAp := lh (fun (b off : Nat) (k : Nat) (hA : A = some ⟨b, off, none⟩) (h : k < l.length) (W : World) (hx : Ext w W) => rappend_any Ar cr ring (some ⟨b, off, none⟩) c (l.take k) l[k] W hg (hrk.on hx) (by rw [List.length_take]; omega) (hA ▸ (hc.take k).on hx) (fun h => by cases h) (hc.ok _ (List.getElem_mem h)).1 (hc.ok _ (List.getElem_mem h)).2.1 ((hc.ok _ (List.getElem_mem h)).2.2.on hx) (RowAt.ext hk hx))
 have HN : Hid ((∀ i, i < l.length → appendE ring (l.take i) (l.getD i noEp) = 0) → checkAll ring l = (-1, 0)) := lh (fun h => fstBad_none h)
 have HB : Hid (∀ k, k < l.length → (∀ i, i < k → appendE ring (l.take i) (l.getD i noEp) = 0) → appendE ring (l.take k) (l.getD k noEp) ≠ 0 → checkAll ring l = ((k : Int), appendE ring (l.take k) (l.getD k noEp))) := lh (fun k hk h0 h1 => fstBad_hit hk h0 h1)
 generalize checkAll ring l = R at *
 obtain ⟨R1, R2⟩ := R
 clear hrk hc hk
 go_enter Tryz.func44, Tryz.ntmps44
 go_upto_region 1 with (fail)
 refine wp_world (fun W => Ext w W ∧ RowAt W w.heap.size (plcC 0 0)) ⟨(by (with_reducible repeat first|exact eR _|apply eD|apply eN|apply eA|apply eO|apply eS|apply eC);all_goals first|omega|simp <;> omega), RowAt.new _ _ _⟩ ?_
 obtain ⟨B, hB⟩ : ∃ B, w.heap.size = B := ⟨_, rfl⟩
 rw [hB]
 rintro W1 ⟨x1, u0⟩
 have HX1 := lh x1
 have HU1 := lh u0
 have hl1 := u0.lt
 clear x1 u0
 go_wp2
 go_loopw [5, 7] (fun i _ wr => ∃ k : Nat, k ≤ l.length ∧ i = .int .i64 k ∧ Hid (∀ i, i < k → appendE ring (l.take i) (l.getD i noEp) = 0) ∧ Hid (Ext W1 wr)) (fun i _ _ => l.length - (intOf i).toNat)
 case atStart => exact ⟨0, Nat.zero_le _, rfl, lh (fun i hi => by omega), lh (eR _)⟩
 case round =>
  obtain ⟨k, hk, rfl, HZ, HXq⟩ := hrel
  generalize hwA : wr = wA at *
  clear hwA
  have HX := lh (HX1.out.trans HXq.out)
  have HU := lh (HU1.out.ext HXq.out)
  have hlu := HU.out.lt
  by_cases hlt : k < l.length
  ·obtain ⟨b, off, rfl, hb, kr⟩ := epr_at (HC.out.rd.on HX.out) k hlt
   have HAk := lh (HAp.out b off k rfl hlt)
   have HBk := lh (HB.out k hlt HZ.out)
   have HZk := lh (fun (h : appendE ring (l.take k) (l.getD k noEp) = 0) (i : Nat) (hi : i < k + 1) => (show appendE ring (l.take i) (l.getD i noEp) = 0 from by
    by_cases e : i = k
    ·rw [e]; exact h
    ·exact HZ.out i (by omega)))
   rw [ep_getD hlt] at HBk HZk
   unfold RAppOut at HAk
   have htl : (l.take k).length = k := by rw [List.length_take]; omega
   rw [htl] at HAk
   generalize appendE ring (l.take k) l[k] = E at *
   generalize appL ring (l.take k) l[k] = LL at *
   generalize l[k] = e at *
   have hfe := ep_fits e
   have hkc : k ≤ c := by omega
   clear htl HAp HB HN HC
   go_upto_region 4 with (fail)
   refine wp_region_rowT (T := 71) 11 (by kernel_rfl) 9 10 (fun iq => softTs [SoftT.eq (.slice Ar ring.length cr), SoftT.eq (.slice (some ⟨b, off, none⟩) l.length c), SoftT.eq (.int .i64 k), SoftT.eq (.slice (some ⟨b, off, none⟩) k c), SoftT.eq (.slice (some ⟨b, off, none⟩) l.length c), SoftT.eq (.int .i64 k), SoftT.eq (.pointer (some ⟨b, off + k * 38, none⟩)), SoftT.eq (.agg (epC e)), (SoftT.mem 30 38 epL (by decide) (0) (LL) (fun A c => .agg (chnC A LL.length c E)) : SoftT 71), SoftT.any, SoftT.any] iq) 2 (RelT.mem 30 38 epL (by decide) (0) (LL) (fun A c => chnC A LL.length c E)) (by kernel_rfl) (by kernel_rfl) (by decide) (dk (by kernel_rfl)) (dk (by kernel_rfl)) (dk (by kernel_rfl)) (lt_cons ?_ (lt_cons ?_ (lt_cons ?_ (lt_cons ?_ (lt_cons ?_ (lt_cons ?_ (lt_cons ?_ (lt_cons ?_ (lt_cons ?_ (lt_cons ?_ (lt_cons ?_ (lt_none)))))))))))) ?_ ?_ ?_
   ·
    intro _ _
    refine sop rfl fun xs W HW hsW HD Q' HQ => ?_; simp only [fillAt, dstOf, lc0, lcs, obs, Act.put, lsa, lsz, lss, nz, Nat.reduceAdd] at HQ ⊢
    go_wp2
    exact HQ.out _ _ (eR _) rfl
   ·
    intro _ _
    refine sop rfl fun xs W HW hsW HD Q' HQ => ?_; simp only [fillAt, dstOf, lc0, lcs, obs, Act.put, lsa, lsz, lss, nz, Nat.reduceAdd] at HQ ⊢
    go_wp2
    exact HQ.out _ _ (eR _) rfl
   ·
    intro _ _
    refine sop rfl fun xs W HW hsW HD Q' HQ => ?_; simp only [fillAt, dstOf, lc0, lcs, obs, Act.put, lsa, lsz, lss, nz, Nat.reduceAdd] at HQ ⊢
    go_wp2
    exact HQ.out _ _ (eR _) rfl
   ·
    intro _ _
    refine sop rfl fun xs W HW hsW HD Q' HQ => ?_; simp only [fillAt, dstOf, lc0, lcs, obs, Act.put, lsa, lsz, lss, nz, Nat.reduceAdd] at HQ ⊢
    have hd1 : xs 1 = .slice (some ⟨b, off, none⟩) l.length c := (HD.out 1 (dk (by kernel_rfl)))
    generalize xs 1 = x1 at hd1 HQ ⊢; subst hd1
    have hd2 : xs 2 = .int .i64 k := (HD.out 2 (dk (by kernel_rfl)))
    generalize xs 2 = x2 at hd2 HQ ⊢; subst hd2
    go_wp2
    exact HQ.out _ _ (eR _) rfl
   ·
    intro _ _
    refine sop rfl fun xs W HW hsW HD Q' HQ => ?_; simp only [fillAt, dstOf, lc0, lcs, obs, Act.put, lsa, lsz, lss, nz, Nat.reduceAdd] at HQ ⊢
    go_wp2
    exact HQ.out _ _ (eR _) rfl
   ·
    intro _ _
    refine sop rfl fun xs W HW hsW HD Q' HQ => ?_; simp only [fillAt, dstOf, lc0, lcs, obs, Act.put, lsa, lsz, lss, nz, Nat.reduceAdd] at HQ ⊢
    go_wp2
    exact HQ.out _ _ (eR _) rfl
   ·
    intro _ _
    refine sop rfl fun xs W HW hsW HD Q' HQ => ?_; simp only [fillAt, dstOf, lc0, lcs, obs, Act.put, lsa, lsz, lss, nz, Nat.reduceAdd] at HQ ⊢
    have hd4 : xs 4 = .slice (some ⟨b, off, none⟩) l.length c := (HD.out 4 (dk (by kernel_rfl)))
    generalize xs 4 = x4 at hd4 HQ ⊢; subst hd4
    have hd5 : xs 5 = .int .i64 k := (HD.out 5 (dk (by kernel_rfl)))
    generalize xs 5 = x5 at hd5 HQ ⊢; subst hd5
    go_wp2
    exact HQ.out _ _ (eR _) rfl
   ·
    intro _ _
    refine sop rfl fun xs W HW hsW HD Q' HQ => ?_; simp only [fillAt, dstOf, lc0, lcs, obs, Act.put, lsa, lsz, lss, nz, Nat.reduceAdd] at HQ ⊢
    have hd6 : xs 6 = .pointer (some ⟨b, off + k * 38, none⟩) := (HD.out 6 (dk (by kernel_rfl)))
    generalize xs 6 = x6 at hd6 HQ ⊢; subst hd6
    have hc := (row_extW HW.out (b := b) (by omega) (off+k*38) 38).trans kr
    go_wp2
    exact HQ.out _ _ (eR _) rfl
   ·
    intro _ _
    refine sop rfl fun xs W HW hsW HD Q' HQ => ?_; simp only [fillAt, dstOf, lc0, lcs, obs, Act.put, lsa, lsz, lss, nz, Nat.reduceAdd] at HQ ⊢
    have hd0 : xs 0 = .slice Ar ring.length cr := (HD.out 0 (dk (by kernel_rfl)))
    generalize xs 0 = x0 at hd0 HQ ⊢; subst hd0
    have hd3 : xs 3 = .slice (some ⟨b, off, none⟩) k c := (HD.out 3 (dk (by kernel_rfl)))
    generalize xs 3 = x3 at hd3 HQ ⊢; subst hd3
    have hd7 : xs 7 = .agg (epC e) := (HD.out 7 (dk (by kernel_rfl)))
    generalize xs 7 = x7 at hd7 HQ ⊢; subst hd7
    go_wp2_with (go_at_call 35; refine (HAk.out _ (HX.out.trans HW.out)).mono ?_; rintro r w1 ⟨⟨A', c', l', rfl, hl', ho⟩, hx⟩)
    subst hl'
    exact HQ.out _ _ hx ⟨A', c', rfl, ho.lower (Nat.zero_le _)⟩
   ·exact fun h => absurd rfl h
   ·exact fun _ h => absurd rfl h
   ·
    refine sop rfl fun xs W HW hsW HD Q' HQ => ?_; simp only [fillAt, dstOf, lc0, lcs, obs, Act.put, lsa, lsz, lss, nz, Nat.reduceAdd] at HQ ⊢
    go_wp2
    exact HQ.out _ _ ((eR _).alloc _) ⟨W.heap.size, rfl, by omega, _, TRow.new _ _ _, rfl⟩
   ·
    refine sop rfl fun xs W HW hsW HD Q' HQ => ?_; simp only [fillAt, dstOf, lc0, lcs, obs, Act.put, lsa, lsz, lss, nz, Nat.reduceAdd] at HQ ⊢
    obtain ⟨A8, c8, h8, ho8⟩ : ((SoftT.mem 30 38 epL (by decide) (0) (LL) (fun A c => .agg (chnC A LL.length c E)) : SoftT 71)).S (xs 8) W := (HD.out 8 (dk (by kernel_rfl)))
    generalize xs 8 = x8 at h8 HQ ⊢; subst h8
    obtain ⟨bb, hxa, hbb, ds, hrb, hzb⟩ : ∃ b, xs 9 = .pointer (some ⟨b, 0, none⟩) ∧ wA.heap.size ≤ b ∧ ∃ ds, TRow W b ds 71 ∧ ds.size = 2 := (HD.out 9 (dk (by kernel_rfl)))
    have hrm : roomOf W bb 0 2 = true := by rw [hrb.row.room, hzb]; rfl
    generalize xs 9 = x9 at hxa HQ ⊢; subst hxa
    clear hrb hzb
    go_wp2
    exact HQ.out undef bb _ rfl rfl ⟨A8, c8, rfl, ho8⟩
   intro xs W5 R csR hW hxb hbaseR hrowR hRR hvs
   obtain ⟨AR, cR, hR, hoR⟩ := hRR
   subst hR
   dsimp only at hrowR
   have HOR := lh hoR
   clear hoR
   simp only [fillAt, dstOf, lc0, lcs, obs, Act.put, lsa, lsz, lss, nz, Nat.reduceAdd]
   generalize xs 9 = xa at *; subst hxb
   have HW5 := lh (HX.out.trans hW)
   have HWW5 := lh hW
   have HTR := lh hrowR
   have HRR := lh hrowR.row
   have hlR := hrowR.row.lt
   clear hW hvs hrowR kr
   have q1 : W5.cell? ⟨R, 1, none⟩ = some (.int .i64 E) := (HRR.out.cell 1).trans (chn_g1 _ _ _ _)
   by_cases e0 : E = 0
   ·have HZ2 := lh (HZk.out e0)
    have de : (E != 0) = false := by simpa using e0
    clear e0 HBk HZk HAk
    go_wp2
    go_roundw
    case rel => exact ⟨k + 1, by omega, by go_num, HZ2, lh (by (with_reducible repeat first|exact HXq.out.trans HWW5.out|exact eR _|apply eD|apply eN|apply eA|apply eO|apply eS|apply eC);all_goals first|omega|simp <;> omega)⟩
    case measure => simp [intOf]; omega
   ·have hR := HBk.out e0
    have h1 : R1 = k := by injection hR
    have h2 : R2 = E := by injection hR
    have de : (E != 0) = true := by simpa using e0
    have HU5 := lh (HU.out.ext HWW5.out)
    have m5 : roomOf W5 B 0 2 = true := by rw [HU5.out.room]; rfl
    have hfp := plc_fits k R2
    clear HBk HZk HAk hR
    subst h1 h2
    go_wp2
    refine post_row plc_ty Tryz.results44 rfl rfl (RowAt.stored (n := 2) (ds := plcC k R2) HU5.out rfl rfl (by omega)) ⟨rfl, (by (with_reducible repeat first|exact HW5.out|exact eR _|apply eD|apply eN|apply eA|apply eO|apply eS|apply eC);all_goals first|omega|simp <;> omega)⟩
  ·have HR := lh (HN.out (fun i hi => HZ.out i (by omega)))
   have h1 : R1 = -1 := by have := HR.out; injection this
   have h2 : R2 = 0 := by have := HR.out; injection this
   subst h1 h2
   have m1 : roomOf wA B 0 2 = true := by rw [HU.out.room]; rfl
   have hfp := plc_fits (-1) 0
   go_wp2
   refine post_row plc_ty Tryz.results44 rfl rfl (RowAt.stored (n := 2) (ds := plcC (-1) 0) HU.out rfl rfl (by omega)) ⟨rfl, (by (with_reducible repeat first|exact HX.out|exact eR _|apply eD|apply eN|apply eA|apply eO|apply eS|apply eC);all_goals first|omega|simp <;> omega)⟩
theorem noEp_ok : EpOk noEp := ⟨zeros_ok, zeros_ok, fun d hd => (by cases hd), fun x hx => by
  have h : x = 0 := by simpa [noEp] using hx
  subst h
  unfold i64
  decide, fun p hp => (by cases hp), by show 0 ≤ _; omega, by show 0 ≤ _; omega, ⟨Nat.le_refl _, by show 0 ≤ _; omega⟩, ⟨Nat.le_refl _, by show 0 ≤ _; omega⟩, fun _ => rfl, fun _ => rfl⟩
theorem noEp_short : EpShort noEp := ⟨by show 0 ≤ _; omega, by show 0 ≤ _; omega, fun p hp => (by cases hp)⟩
theorem noEp_at (w : World) : EpAt w noEp := ⟨Reads.nil _ _ _ _ _, Reads.nil _ _ _ _ _⟩
theorem iss_both {k : Ky} {L : List Ep} {e : Ep} {base : Nat} {r : Ending} {w' : World} (h : IssOut k L e base r w') (hki : i64 k.serial) (hl : L.length ≤ 100) (hok : EpOk e) (hsh : EpShort e) (ha : EpAt w' e) :
  ∃ x A1 a1 A2 a2, r = .returned (.tuple #[.agg (epC x), .int .i64 (issueE k L e)]) ∧ isdO k L e = isdC (memE x A1 a1 A2 a2) (issueE k L e) ∧ EpOk x ∧ EpShort x ∧ EpAt w' x ∧ EpOk (memE x A1 a1 A2 a2) ∧ EpAt w' (memE x A1 a1 A2 a2) := by
 rcases h with ⟨h0, A, c, A2, c2, rfl, ho, hk⟩ | ⟨h0, rfl⟩
 ·have he : memE (issueX k L (memE e A c A2 c2)) e.PA e.pc e.RA e.rc = issueX k L e := rfl
  refine ⟨_, e.PA, e.pc, e.RA, e.rc, by rw [h0], ?_, hk, issueX_short (mem_short hsh _ _ _ _), ho.at, ?_, ?_⟩
  ·rw [he]
   unfold isdO
   rw [if_pos h0, h0]
  ·rw [he]
   exact issueX_ok hki hl hok
  ·rw [he]
   exact issueX_at ha
 ·refine ⟨noEp, none, 0, none, 0, rfl, ?_, noEp_ok, noEp_short, noEp_at _, noEp_ok, noEp_at _⟩
  unfold isdO
  rw [if_neg h0]
  rfl
theorem appL_in {P : Ep → Prop} {ring : List Ky} {L : List Ep} {e : Ep} (h : ∀ x ∈ L, P x) (he : P e) : ∀ x ∈ appL ring L e, P x := by
 intro x hx
 unfold appL at hx
 split at hx
 ·rw [List.mem_append, List.mem_singleton] at hx
  rcases hx with hx | rfl
  ·exact h x hx
  ·exact he
 ·cases hx
theorem appL_len (ring : List Ky) (L : List Ep) (e : Ep) : (appL ring L e).length ≤ L.length + 1 := by
 unfold appL
 split
 ·simp
 ·simp
theorem since_in {P : Ep → Prop} {L : List Ep} {n : Int} (h : ∀ x ∈ L, P x) : ∀ x ∈ sinceN L n, P x := fun x hx => h x ((List.dropWhile_sublist _).subset hx)
theorem since_len (L : List Ep) (n : Int) : (sinceN L n).length ≤ L.length := (List.dropWhile_sublist _).length_le
theorem chains_ok (Ar : Option Addr) (cr : Nat) (ring : List Ky) (k : Ky) (A : Option Addr) (c : Nat) (l : List Ep) (e : Ep) (n : Int) (w : World) (hrl : ring.length ≤ 9223372036854775807) (hrk : ReadsKy w w.heap.size Ar ring) (hsec : ∀ k ∈ ring, k.secret.size < 9223372036854775808) (hks : k.secret.size < 9223372036854775808) (hl : l.length ≤ 9223372036854775807) (hc : EpsIn w A l) (hok : EpOk e) (ha : EpAt w e) (hn0 : 0 ≤ n) (hn1 : n < 256) (hk : KonstP w) (hr : RKonst w) :
  Calls Tryz.prog 7 #[.slice Ar ring.length cr, .agg (kyC k), .slice A l.length c, .agg (epC e), .int .u8 n] w fun r w' => r = .returned (.bool true) ∧ Ext w w' := by
 have HS := lh (fun (W : World) (hx : Ext w W) => esanity_any W (RowAt.ext hk hx))
 have HG := lh (fun (W : World) (hx : Ext w W) => rring_any Ar cr ring W hrl (hrk.on hx) hsec)
 have HV := lh (fun (W : World) => rkvalid_any k W hks)
 have HF := lh (fun (W : World) (hx : Ext w W) => rfew31_any A c l 8 W hl (hc.on hx))
 have HE := lh (fun (W : World) (hx : Ext w W) => rshortEp_any e W (ha.on hx) hok.pul hok.rvl (fun p hp => (hok.pu p hp).2))
 have hfe := ep_fits e
 have hfk := ky_fits k
 by_cases h20 : 20 < ring.length
 ·have d1 : decide ((20 : Int) < (ring.length : Int)) = true := decide_eq_true (by omega)
  have d1' : decide (20 < ring.length) = true := decide_eq_true (by omega)
  clear h20 hrl hrk hsec hks hl hc hok ha hk hr HG HV HF HE
  go_enter Tryz.func7, Tryz.ntmps7
  go_wp2_with (first | (go_at_call 33; refine (HG.out _ (by (with_reducible repeat first|exact eR _|apply eD|apply eN|apply eA|apply eO|apply eS|apply eC);all_goals first|omega|simp <;> omega)).mono ?_; rintro e w' ⟨rfl, hxl⟩; obtain ⟨xl, rfl⟩ := hxl.asLater; clear hxl) | (go_at_call 22; refine (HV.out _).mono ?_; rintro e w' ⟨rfl, hxl⟩; obtain ⟨xl, rfl⟩ := hxl.asLater; clear hxl) | (go_at_call 23; refine (HF.out _ (by (with_reducible repeat first|exact eR _|apply eD|apply eN|apply eA|apply eO|apply eS|apply eC);all_goals first|omega|simp <;> omega)).mono ?_; rintro e w' ⟨rfl, hxl⟩; obtain ⟨xl, rfl⟩ := hxl.asLater; clear hxl) | (go_at_call 10; refine (HE.out _ (by (with_reducible repeat first|exact eR _|apply eD|apply eN|apply eA|apply eO|apply eS|apply eC);all_goals first|omega|simp <;> omega)).mono ?_; rintro e w' ⟨rfl, hxl⟩; obtain ⟨xl, rfl⟩ := hxl.asLater; clear hxl) | (go_at_call 12; refine (HS.out _ (by (with_reducible repeat first|exact eR _|apply eD|apply eN|apply eA|apply eO|apply eS|apply eC);all_goals first|omega|simp <;> omega)).mono ?_; rintro e w' ⟨rfl, hxl⟩; obtain ⟨xl, rfl⟩ := hxl.asLater; clear hxl))
  go_ret
  exact ⟨rfl, (by (with_reducible repeat first|exact eR _|apply eD|apply eN|apply eA|apply eO|apply eS|apply eC);all_goals first|omega|simp <;> omega)⟩
 have d1 : decide ((20 : Int) < (ring.length : Int)) = false := decide_eq_false (by omega)
 have d1' : decide (20 < ring.length) = false := decide_eq_false (by omega)
 cases hG : ringB ring with
 | false =>
  rw [hG] at HG
  clear h20 hrl hrk hsec hks hl hc hok ha hk hr hG HV HF HE
  go_enter Tryz.func7, Tryz.ntmps7
  go_wp2_with (first | (go_at_call 33; refine (HG.out _ (by (with_reducible repeat first|exact eR _|apply eD|apply eN|apply eA|apply eO|apply eS|apply eC);all_goals first|omega|simp <;> omega)).mono ?_; rintro e w' ⟨rfl, hxl⟩; obtain ⟨xl, rfl⟩ := hxl.asLater; clear hxl) | (go_at_call 22; refine (HV.out _).mono ?_; rintro e w' ⟨rfl, hxl⟩; obtain ⟨xl, rfl⟩ := hxl.asLater; clear hxl) | (go_at_call 23; refine (HF.out _ (by (with_reducible repeat first|exact eR _|apply eD|apply eN|apply eA|apply eO|apply eS|apply eC);all_goals first|omega|simp <;> omega)).mono ?_; rintro e w' ⟨rfl, hxl⟩; obtain ⟨xl, rfl⟩ := hxl.asLater; clear hxl) | (go_at_call 10; refine (HE.out _ (by (with_reducible repeat first|exact eR _|apply eD|apply eN|apply eA|apply eO|apply eS|apply eC);all_goals first|omega|simp <;> omega)).mono ?_; rintro e w' ⟨rfl, hxl⟩; obtain ⟨xl, rfl⟩ := hxl.asLater; clear hxl) | (go_at_call 12; refine (HS.out _ (by (with_reducible repeat first|exact eR _|apply eD|apply eN|apply eA|apply eO|apply eS|apply eC);all_goals first|omega|simp <;> omega)).mono ?_; rintro e w' ⟨rfl, hxl⟩; obtain ⟨xl, rfl⟩ := hxl.asLater; clear hxl))
  go_ret
  exact ⟨rfl, (by (with_reducible repeat first|exact eR _|apply eD|apply eN|apply eA|apply eO|apply eS|apply eC);all_goals first|omega|simp <;> omega)⟩
 | true =>
 rw [hG] at HG
 cases hV : okKy k with
 | false =>
  rw [hV] at HV
  clear h20 hrl hrk hsec hks hl hc hok ha hk hr hG hV HF HE
  go_enter Tryz.func7, Tryz.ntmps7
  go_wp2_with (first | (go_at_call 33; refine (HG.out _ (by (with_reducible repeat first|exact eR _|apply eD|apply eN|apply eA|apply eO|apply eS|apply eC);all_goals first|omega|simp <;> omega)).mono ?_; rintro e w' ⟨rfl, hxl⟩; obtain ⟨xl, rfl⟩ := hxl.asLater; clear hxl) | (go_at_call 22; refine (HV.out _).mono ?_; rintro e w' ⟨rfl, hxl⟩; obtain ⟨xl, rfl⟩ := hxl.asLater; clear hxl) | (go_at_call 23; refine (HF.out _ (by (with_reducible repeat first|exact eR _|apply eD|apply eN|apply eA|apply eO|apply eS|apply eC);all_goals first|omega|simp <;> omega)).mono ?_; rintro e w' ⟨rfl, hxl⟩; obtain ⟨xl, rfl⟩ := hxl.asLater; clear hxl) | (go_at_call 10; refine (HE.out _ (by (with_reducible repeat first|exact eR _|apply eD|apply eN|apply eA|apply eO|apply eS|apply eC);all_goals first|omega|simp <;> omega)).mono ?_; rintro e w' ⟨rfl, hxl⟩; obtain ⟨xl, rfl⟩ := hxl.asLater; clear hxl) | (go_at_call 12; refine (HS.out _ (by (with_reducible repeat first|exact eR _|apply eD|apply eN|apply eA|apply eO|apply eS|apply eC);all_goals first|omega|simp <;> omega)).mono ?_; rintro e w' ⟨rfl, hxl⟩; obtain ⟨xl, rfl⟩ := hxl.asLater; clear hxl))
  go_ret
  exact ⟨rfl, (by (with_reducible repeat first|exact eR _|apply eD|apply eN|apply eA|apply eO|apply eS|apply eC);all_goals first|omega|simp <;> omega)⟩
 | true =>
 rw [hV] at HV
 cases hF : fewEp l 8 with
 | false =>
  rw [hF] at HF
  clear h20 hrl hrk hsec hks hl hc hok ha hk hr hG hV hF HE
  go_enter Tryz.func7, Tryz.ntmps7
  go_wp2_with (first | (go_at_call 33; refine (HG.out _ (by (with_reducible repeat first|exact eR _|apply eD|apply eN|apply eA|apply eO|apply eS|apply eC);all_goals first|omega|simp <;> omega)).mono ?_; rintro e w' ⟨rfl, hxl⟩; obtain ⟨xl, rfl⟩ := hxl.asLater; clear hxl) | (go_at_call 22; refine (HV.out _).mono ?_; rintro e w' ⟨rfl, hxl⟩; obtain ⟨xl, rfl⟩ := hxl.asLater; clear hxl) | (go_at_call 23; refine (HF.out _ (by (with_reducible repeat first|exact eR _|apply eD|apply eN|apply eA|apply eO|apply eS|apply eC);all_goals first|omega|simp <;> omega)).mono ?_; rintro e w' ⟨rfl, hxl⟩; obtain ⟨xl, rfl⟩ := hxl.asLater; clear hxl) | (go_at_call 10; refine (HE.out _ (by (with_reducible repeat first|exact eR _|apply eD|apply eN|apply eA|apply eO|apply eS|apply eC);all_goals first|omega|simp <;> omega)).mono ?_; rintro e w' ⟨rfl, hxl⟩; obtain ⟨xl, rfl⟩ := hxl.asLater; clear hxl) | (go_at_call 12; refine (HS.out _ (by (with_reducible repeat first|exact eR _|apply eD|apply eN|apply eA|apply eO|apply eS|apply eC);all_goals first|omega|simp <;> omega)).mono ?_; rintro e w' ⟨rfl, hxl⟩; obtain ⟨xl, rfl⟩ := hxl.asLater; clear hxl))
  go_ret
  exact ⟨rfl, (by (with_reducible repeat first|exact eR _|apply eD|apply eN|apply eA|apply eO|apply eS|apply eC);all_goals first|omega|simp <;> omega)⟩
 | true =>
 rw [hF] at HF
 cases hE : shortEp e with
 | false =>
  rw [hE] at HE
  clear h20 hrl hrk hsec hks hl hc hok ha hk hr hG hV hF hE
  go_enter Tryz.func7, Tryz.ntmps7
  go_wp2_with (first | (go_at_call 33; refine (HG.out _ (by (with_reducible repeat first|exact eR _|apply eD|apply eN|apply eA|apply eO|apply eS|apply eC);all_goals first|omega|simp <;> omega)).mono ?_; rintro e w' ⟨rfl, hxl⟩; obtain ⟨xl, rfl⟩ := hxl.asLater; clear hxl) | (go_at_call 22; refine (HV.out _).mono ?_; rintro e w' ⟨rfl, hxl⟩; obtain ⟨xl, rfl⟩ := hxl.asLater; clear hxl) | (go_at_call 23; refine (HF.out _ (by (with_reducible repeat first|exact eR _|apply eD|apply eN|apply eA|apply eO|apply eS|apply eC);all_goals first|omega|simp <;> omega)).mono ?_; rintro e w' ⟨rfl, hxl⟩; obtain ⟨xl, rfl⟩ := hxl.asLater; clear hxl) | (go_at_call 10; refine (HE.out _ (by (with_reducible repeat first|exact eR _|apply eD|apply eN|apply eA|apply eO|apply eS|apply eC);all_goals first|omega|simp <;> omega)).mono ?_; rintro e w' ⟨rfl, hxl⟩; obtain ⟨xl, rfl⟩ := hxl.asLater; clear hxl) | (go_at_call 12; refine (HS.out _ (by (with_reducible repeat first|exact eR _|apply eD|apply eN|apply eA|apply eO|apply eS|apply eC);all_goals first|omega|simp <;> omega)).mono ?_; rintro e w' ⟨rfl, hxl⟩; obtain ⟨xl, rfl⟩ := hxl.asLater; clear hxl))
  go_ret
  exact ⟨rfl, (by (with_reducible repeat first|exact eR _|apply eD|apply eN|apply eA|apply eO|apply eS|apply eC);all_goals first|omega|simp <;> omega)⟩
 | true =>
 rw [hE] at HE
 have hg := ringB_is hG
 obtain ⟨hk64, hki, _⟩ := okKy_is hV
 obtain ⟨hl8, hsh⟩ := fewEp_is hF
 have hes := shortEp_is hE
 have hml := made_len k l
 have HIs := lh (made_issued k l)
 have HM := lh (fun (W : World) (hx : Ext w W) => made_any k A c l W hk64 hki (by omega) ((hc.on hx).ch hsh) (RowAt.ext hr hx))
 unfold MadeOut at HM
 have HOe : Hid (EpOk e ∧ EpShort e ∧ EpAt w e) := lh ⟨hok, hes, ha⟩
 have HK : Hid (KonstP w) := lh hk
 have HRK : Hid (RKonst w) := lh hr
 have HRg := lh hg
 have HRr := lh hrk
 clear hrl hrk hsec hks hl hc hok ha hk hr hG hV hF hE hsh hes hg h20
 generalize madeN k l = L at *
 have hL8 : L.length ≤ 8 := by omega
 go_enter Tryz.func7, Tryz.ntmps7
 go_upto_region 3 with (first | (go_at_call 33; refine (HG.out _ (by (with_reducible repeat first|exact eR _|apply eD|apply eN|apply eA|apply eO|apply eS|apply eC);all_goals first|omega|simp <;> omega)).mono ?_; rintro e w' ⟨rfl, hxl⟩; obtain ⟨xl, rfl⟩ := hxl.asLater; clear hxl) | (go_at_call 22; refine (HV.out _).mono ?_; rintro e w' ⟨rfl, hxl⟩; obtain ⟨xl, rfl⟩ := hxl.asLater; clear hxl) | (go_at_call 23; refine (HF.out _ (by (with_reducible repeat first|exact eR _|apply eD|apply eN|apply eA|apply eO|apply eS|apply eC);all_goals first|omega|simp <;> omega)).mono ?_; rintro e w' ⟨rfl, hxl⟩; obtain ⟨xl, rfl⟩ := hxl.asLater; clear hxl) | (go_at_call 10; refine (HE.out _ (by (with_reducible repeat first|exact eR _|apply eD|apply eN|apply eA|apply eO|apply eS|apply eC);all_goals first|omega|simp <;> omega)).mono ?_; rintro e w' ⟨rfl, hxl⟩; obtain ⟨xl, rfl⟩ := hxl.asLater; clear hxl))
 refine wp_world (fun W => Ext w W ∧ RowAt W w.heap.size (kyC k) ∧ RowAt W (w.heap.size + 1) (epC e)) ⟨(by (with_reducible repeat first|exact eR _|apply eD|apply eN|apply eA|apply eO|apply eS|apply eC);all_goals first|omega|simp <;> omega), ((RowAt.new _ _ _).alloc _).later _, (RowAt.newAt (by simp)).later _⟩ ?_
 obtain ⟨B, hB⟩ : ∃ B, w.heap.size = B := ⟨_, rfl⟩
 rw [hB]
 rintro W1 ⟨x1, u0, u1⟩
 have HX1 := lh x1
 have HU0 := lh u0
 have HU1 := lh u1
 have hl1 := u1.lt
 have k0 : rowOf W1 B 0 5 = some (kyC k) := u0.all rfl (by omega)
 clear x1 u0 u1 HG HV HF HE d1 d1'
 go_wp2_with (go_at_call 24; refine (show Hid _ from ?_).out)
 refine lh ?_
 refine (HM.out W1 HX1.out).mono ?_
 rintro r w2 ⟨⟨A2, c2, rfl, ho, hch⟩, hx2⟩
 have HX2 := lh (HX1.out.trans hx2)
 have HU02 := lh (HU0.out.ext hx2)
 have HU12 := lh (HU1.out.ext hx2)
 have HCh := lh hch
 have hcap : L.length ≤ c2 := ownsEp_cap ho
 have HN2 : Hid (A2 = none → c2 = 0) := lh ho.none0
 have hs2 := hx2.size
 clear ho hch hx2 HX1 HU0 HU1 HM k0
 have k1 : rowOf w2 (B + 1) 0 38 = some (epC e) := HU12.out.all rfl (by have := HU12.out.lt; omega)
 go_wp2_with (go_at_call 34; refine (show Hid _ from ?_).out)
 refine lh ?_
 refine (append_any Ar cr ring A2 c2 L e w2 HRg.out (HRr.out.on HX2.out) (by omega) HCh.out HN2.out HOe.out.1 HOe.out.2.1 (HOe.out.2.2.on HX2.out) (RowAt.ext HK.out HX2.out)).mono ?_
 rintro r w3 ⟨⟨A12, c12, l12, rfl, hl12, ho12⟩, hx3⟩
 subst hl12
 have HX3 := lh (HX2.out.trans hx3)
 have HU03 := lh (HU02.out.ext hx3)
 have HU13 := lh (HU12.out.ext hx3)
 have HC3 := lh (HCh.out.on hx3)
 have HA12 : Hid (Reads 38 epL w3 w3.heap.size A12 (appL ring L e)) := lh (ho12.reads epE)
 have hs3 := hx3.size
 clear ho12 hx3 HX2 HU02 HU12 HCh k1
 have hlal := appL_len ring L e
 have HIn : Hid (∀ P : Ep → Prop, (∀ x ∈ L, P x) → P e → ∀ x ∈ appL ring L e, P x) := lh (fun P h1 h2 => appL_in h1 h2)
 have k1 : rowOf w3 (B + 1) 0 38 = some (epC e) := HU13.out.all rfl (by have := HU13.out.lt; omega)
 go_wp2_with (go_at_call 35; refine (show Hid _ from ?_).out)
 refine lh ?_
 refine (rappend_any Ar cr ring A2 c2 L e w3 HRg.out (HRr.out.on HX3.out) (by omega) HC3.out HN2.out HOe.out.1 HOe.out.2.1 (HOe.out.2.2.on HX3.out) (RowAt.ext HRK.out HX3.out)).mono ?_
 rintro r w4 ⟨⟨A14, c14, l14, rfl, hl14, ho14⟩, hx4⟩
 subst hl14
 have HX4 := lh (HX3.out.trans hx4)
 have HU04 := lh (HU03.out.ext hx4)
 have HU14 := lh (HU13.out.ext hx4)
 have HC4 := lh (HC3.out.on hx4)
 have HA124 := lh (HA12.out.on hx4)
 have HA14 : Hid (Reads 38 epL w4 w4.heap.size A14 (appL ring L e)) := lh (ho14.reads epE)
 have hs4 := hx4.size
 clear ho14 hx4 HX3 HU03 HU13 HC3 HA12 k1
 generalize appendE ring L e = AE at *
 generalize appL ring L e = LA at *
 have hfc := chn_fits A14 LA.length c14 AE
 go_upto_region 6 with (fail)
 refine wp_world (fun W => Ext w4 W ∧ RowAt W w4.heap.size (chnC A14 LA.length c14 AE)) ⟨(by (with_reducible repeat first|exact eR _|apply eD|apply eN|apply eA|apply eO|apply eS|apply eC);all_goals first|omega|simp <;> omega), RowAt.store (RowAt.newAt rfl) rfl⟩ ?_
 obtain ⟨R14, hR14⟩ : ∃ R14, w4.heap.size = R14 := ⟨_, rfl⟩
 rw [hR14]
 rintro W5 ⟨x5, u14⟩
 have HX5 := lh (HX4.out.trans x5)
 have HU05 := lh (HU04.out.ext x5)
 have HU15 := lh (HU14.out.ext x5)
 have HC5 := lh (HC4.out.on x5)
 have HA125 := lh (HA124.out.on x5)
 have HA145 := lh (HA14.out.on x5)
 have HU14' := lh u14
 have hl5 := u14.lt
 clear x5 u14 HX4 HU04 HU14 HC4 HA124 HA14 hR14
 have k0 : rowOf W5 B 0 5 = some (kyC k) := HU05.out.all rfl (by have := HU05.out.lt; omega)
 have kpd : rowOf W5 (B + 1) 17 2 = some (pdC e.lo e.hi) := by rw [HU15.out.row, if_neg (by omega), ep_pd]
 have q19 : W5.cell? ⟨B + 1, 19, none⟩ = some (.slice e.PA e.pu.length e.pc) := (HU15.out.cell 19).trans (ep_g19 e)
 have q20 : W5.cell? ⟨B + 1, 20, none⟩ = some (.slice e.RA e.rv.length e.rc) := (HU15.out.cell 20).trans (ep_g20 e)
 go_wp2_with (go_at_call 36; refine (show Hid _ from ?_).out)
 refine lh ?_
 refine (issue_any k A2 c2 L e W5 hk64 hki (by omega) HC5.out HOe.out.1 HOe.out.2.1 (HOe.out.2.2.on HX5.out) (RowAt.ext HK.out HX5.out)).mono ?_
 rintro r w6 ⟨hI, hx6⟩
 obtain ⟨x, X1, y1, X2, y2, rfl, hisd, hx1, hx2, hx3, hx4, hx5⟩ := iss_both hI hki (by omega) HOe.out.1 HOe.out.2.1 (HOe.out.2.2.on (HX5.out.trans hx6))
 have HX6 := lh (HX5.out.trans hx6)
 have HU06 := lh (HU05.out.ext hx6)
 have HU16 := lh (HU15.out.ext hx6)
 have HC6 := lh (HC5.out.on hx6)
 have HA126 := lh (HA125.out.on hx6)
 have HA146 := lh (HA145.out.on hx6)
 have HU146 := lh (HU14'.out.ext hx6)
 have HSm := lh (fun (W : World) (hx : Ext w6 W) => rsameEp_any x X1 y1 X2 y2 W hx1 hx2 (hx3.on hx) hx4 (hx5.on hx))
 have HIsd := lh hisd
 have hs6 := hx6.size
 have hfx := ep_fits x
 clear hI hx6 hisd hx1 hx2 hx3 hx4 hx5 HX5 HU05 HU15 HC5 HA125 HA145 HU14' k0 kpd q19 q20
 generalize issueE k L e = IE at *
 go_upto_region 7 with (fail)
 refine wp_world (fun W => Ext w6 W ∧ RowAt W w6.heap.size (epC x)) ⟨(by (with_reducible repeat first|exact eR _|apply eD|apply eN|apply eA|apply eO|apply eS|apply eC);all_goals first|omega|simp <;> omega), RowAt.store (RowAt.newAt rfl) rfl⟩ ?_
 obtain ⟨R15, hR15⟩ : ∃ R15, w6.heap.size = R15 := ⟨_, rfl⟩
 rw [hR15]
 rintro W7 ⟨x7, u15⟩
 have HX7 := lh (HX6.out.trans x7)
 have HU07 := lh (HU06.out.ext x7)
 have HU17 := lh (HU16.out.ext x7)
 have HC7 := lh (HC6.out.on x7)
 have HA127 := lh (HA126.out.on x7)
 have HA147 := lh (HA146.out.on x7)
 have HU147 := lh (HU146.out.ext x7)
 have HSm7 := lh (fun (W : World) (hx : Ext W7 W) => HSm.out W (x7.trans hx))
 have HU15' := lh u15
 have hl7 := u15.lt
 have hs7 := x7.size
 clear x7 u15 HX6 HU06 HU16 HC6 HA126 HA146 HU146 hR15 HSm
 have k0 : rowOf W7 B 0 5 = some (kyC k) := HU07.out.all rfl (by have := HU07.out.lt; omega)
 have kpd : rowOf W7 (B + 1) 17 2 = some (pdC e.lo e.hi) := by rw [HU17.out.row, if_neg (by omega), ep_pd]
 have q19 : W7.cell? ⟨B + 1, 19, none⟩ = some (.slice e.PA e.pu.length e.pc) := (HU17.out.cell 19).trans (ep_g19 e)
 have q20 : W7.cell? ⟨B + 1, 20, none⟩ = some (.slice e.RA e.rv.length e.rc) := (HU17.out.cell 20).trans (ep_g20 e)
 go_wp2_with (go_at_call 37; refine (show Hid _ from ?_).out)
 refine lh ?_
 refine (rissue_any k A2 c2 L e W7 hk64 hki (by omega) HC7.out HOe.out.1 HOe.out.2.1 (HOe.out.2.2.on HX7.out) (RowAt.ext HRK.out HX7.out)).mono ?_
 rintro r w8 ⟨rfl, hx8⟩
 rw [HIsd.out]
 have HX8 := lh (HX7.out.trans hx8)
 have HU18 := lh (HU17.out.ext hx8)
 have HC8 := lh (HC7.out.on hx8)
 have HA128 := lh (HA127.out.on hx8)
 have HA148 := lh (HA147.out.on hx8)
 have HU148 := lh (HU147.out.ext hx8)
 have HU158 := lh (HU15'.out.ext hx8)
 have HSm8 := lh (fun (W : World) (hx : Ext w8 W) => HSm7.out W (hx8.trans hx))
 have hs8 := hx8.size
 generalize hz2 : memE x X1 y1 X2 y2 = z2 at *
 have hfi := isd_fits z2 IE
 have hfz2 := ep_fits z2
 clear hx8 hz2 HX7 HU07 HU17 HC7 HA127 HA147 HU147 HU15' HSm7 HIsd k0 kpd q19 q20
 show Hid _
 refine lh ?_
 go_upto_region 8 with (fail)
 refine wp_world (fun W => Ext w8 W ∧ RowAt W w8.heap.size (isdC z2 IE)) ⟨(by (with_reducible repeat first|exact eR _|apply eD|apply eN|apply eA|apply eO|apply eS|apply eC);all_goals first|omega|simp <;> omega), RowAt.store (RowAt.newAt rfl) rfl⟩ ?_
 obtain ⟨R17, hR17⟩ : ∃ R17, w8.heap.size = R17 := ⟨_, rfl⟩
 rw [hR17]
 rintro W9 ⟨x9, u17⟩
 have HX9 := lh (HX8.out.trans x9)
 have HU19 := lh (HU18.out.ext x9)
 have HC9 := lh (HC8.out.on x9)
 have u14 := HU148.out.ext x9
 have u15 := HU158.out.ext x9
 have u8 := HU18.out.ext x9
 have hl9 := u17.lt
 have h14 := u14.lt
 have h15 := u15.lt
 have h8 := u8.lt
 have k8 : rowOf W9 (B + 1) 0 38 = some (epC e) := u8.all rfl (by omega)
 have q14 : W9.cell? ⟨R14, 1, none⟩ = some (.int .i64 AE) := (u14.cell 1).trans (chn_g1 _ _ _ _)
 have q140 : W9.cell? ⟨R14, 0, none⟩ = some (.slice A14 LA.length c14) := (u14.cell 0).trans (chn_g0 _ _ _ _)
 have k15 : rowOf W9 R15 0 38 = some (epC x) := u15.all rfl (by omega)
 have q17 : W9.cell? ⟨R17, 38, none⟩ = some (.int .i64 IE) := (u17.cell 38).trans (isd_g38 z2 IE)
 have k17 : rowOf W9 R17 0 38 = some (epC z2) := by rw [u17.row, if_neg (by omega), isd_ep]
 have HSm9 := lh (fun (W : World) (hx : Ext W9 W) => HSm8.out W (x9.trans hx))
 have HCa : Hid (ChAt W9 A12 LA) := lh ⟨HA128.out.on x9, HIn.out _ HC9.out.ok ⟨HOe.out.1, HOe.out.2.1, HOe.out.2.2.on HX9.out⟩⟩
 have HCb : Hid (ChAt W9 A14 LA) := lh ⟨HA148.out.on x9, HIn.out _ HC9.out.ok ⟨HOe.out.1, HOe.out.2.1, HOe.out.2.2.on HX9.out⟩⟩
 have HSl := lh (fun (W : World) (hx : Ext W9 W) => rsame31_any A12 c12 A14 c14 LA W (by omega) (HCa.out.on hx) (HCb.out.on hx))
 have HFo := lh (fun (W : World) (hx : Ext W9 W) => follows_any A2 c2 L e W (by omega) (HC9.out.on hx) HOe.out.1 HOe.out.2.1 ((HOe.out.2.2.on HX9.out).on hx) (RowAt.ext HK.out (HX9.out.trans hx)))
 have HFr := lh (fun (W : World) (hx : Ext W9 W) => rfollows_any A2 c2 L e W (by omega) (HC9.out.on hx) HOe.out.1 HOe.out.2.1 ((HOe.out.2.2.on HX9.out).on hx) (RowAt.ext HRK.out (HX9.out.trans hx)))
 clear x9 u17 u14 u15 u8 HX8 HU18 HC8 HA128 HA148 HU148 HU158 HSm8 hR17 HCa HCb
 generalize followsN L e = FN at *
 obtain ⟨m, hm⟩ : ∃ m, n % 10 = m := ⟨_, rfl⟩
 have HFi : Hid (L.filter (newer m) = sinceN L m) := lh (since_filter HIs.out m)
 have HSa := lh (fun (W : World) (hx : Ext W9 W) => esince_any m A2 c2 L W (by omega) hcap (HC9.out.rd.on hx))
 have HSb := lh (fun (W : World) (hx : Ext W9 W) => rsince_any m A2 c2 L W (by omega) (HC9.out.rd.on hx))
 unfold SinceOut at HSa
 unfold RSinceOut at HSb
 rw [HFi.out] at HSb
 have HSc := lh (fun (W : World) (hx : Ext W9 W) (B1 : Option Addr) (b1 : Nat) (B2 : Option Addr) (b2 : Nat) (h1 : Reads 38 epL W W.heap.size B1 (sinceN L m)) (h2 : Reads 38 epL W W.heap.size B2 (sinceN L m)) => rsame31_any B1 b1 B2 b2 (sinceN L m) W (Nat.le_trans (since_len L m) (by omega)) ⟨h1, since_in (HC9.out.on hx).ok⟩ ⟨h2, since_in (HC9.out.on hx).ok⟩)
 generalize sinceN L m = SL at *
 clear HFi
 refine wp_region_softE 47 (softsL [.eq (.slice A2 L.length c2), .eq (.agg (epC e)), .eq (.int .i64 FN), .eq (.slice A2 L.length c2), .eq (.agg (epC e)), .eq (.int .i64 FN), .eq (.bool false), .eq (.bool false), .eq (.int .i64 AE), .eq (.pointer (some ⟨R14, 1, none⟩)), .eq (.int .i64 AE), .eq (.bool false), .eq (.bool false), .eq (.bool false), .eq (.slice A12 LA.length c12), .eq (.pointer (some ⟨R14, 0, none⟩)), .eq (.slice A14 LA.length c14), .eq (.bool true), .eq (.bool false), .eq (.bool false), .eq (.bool false), .eq (.int .i64 IE), .eq (.pointer (some ⟨R17, 38, none⟩)), .eq (.int .i64 IE), .eq (.bool false), .eq (.bool false), .eq (.bool false), .eq (.agg (epC x)), .eq (.pointer (some ⟨R17, 0, none⟩)), .eq (.agg (epC z2)), .eq (.bool true), .eq (.bool false), .eq (.bool false), .eq (.bool false), .eq (.slice A2 L.length c2), .eq (.int .u8 n), .eq (.int .i64 n), .eq (.int .i64 m), ownL W9.heap.size SL, .eq (.slice A2 L.length c2), .eq (.int .u8 n), .eq (.int .i64 n), .eq (.int .i64 m), ownL W9.heap.size SL, .eq (.bool true), .eq (.bool false), .eq (.bool false)]) (by kernel_rfl) (by kernel_rfl) (lt_cons ?_ (lt_cons ?_ (lt_cons ?_ (lt_cons ?_ (lt_cons ?_ (lt_cons ?_ (lt_cons ?_ (lt_cons ?_ (lt_cons ?_ (lt_cons ?_ (lt_cons ?_ (lt_cons ?_ (lt_cons ?_ (lt_cons ?_ (lt_cons ?_ (lt_cons ?_ (lt_cons ?_ (lt_cons ?_ (lt_cons ?_ (lt_cons ?_ (lt_cons ?_ (lt_cons ?_ (lt_cons ?_ (lt_cons ?_ (lt_cons ?_ (lt_cons ?_ (lt_cons ?_ (lt_cons ?_ (lt_cons ?_ (lt_cons ?_ (lt_cons ?_ (lt_cons ?_ (lt_cons ?_ (lt_cons ?_ (lt_cons ?_ (lt_cons ?_ (lt_cons ?_ (lt_cons ?_ (lt_cons ?_ (lt_cons ?_ (lt_cons ?_ (lt_cons ?_ (lt_cons ?_ (lt_cons ?_ (lt_cons ?_ (lt_cons ?_ (lt_cons ?_ (lt_none)))))))))))))))))))))))))))))))))))))))))))))))) ?_
 any_goals (refine sop rfl fun xs W HW hsW HD Q' HQ => ?_; simp only [fillAt, dstOf, lc0, lcs, obs, Act.put, lsa, lsz, lss, nz, Nat.reduceAdd] at HQ ⊢)
 ·
  go_wp2
  exact HQ.out _ _ (eR _) rfl
 ·
  have hc := (row_extW HW.out (b := B+1) (by omega) 0 38).trans k8
  go_wp2
  exact HQ.out _ _ (eR _) rfl
 ·
  have hd0 : xs 0 = .slice A2 L.length c2 := (HD.out 0 (dk (by kernel_rfl)))
  generalize xs 0 = x0 at hd0 HQ ⊢; subst hd0
  have hd1 : xs 1 = .agg (epC e) := (HD.out 1 (dk (by kernel_rfl)))
  generalize xs 1 = x1 at hd1 HQ ⊢; subst hd1
  go_wp2_with (go_at_call 38; refine (HFo.out _ HW.out).mono ?_; rintro e w1 ⟨rfl, hx⟩)
  exact HQ.out _ _ hx rfl
 ·
  go_wp2
  exact HQ.out _ _ (eR _) rfl
 ·
  have hc := (row_extW HW.out (b := B+1) (by omega) 0 38).trans k8
  go_wp2
  exact HQ.out _ _ (eR _) rfl
 ·
  have hd3 : xs 3 = .slice A2 L.length c2 := (HD.out 3 (dk (by kernel_rfl)))
  generalize xs 3 = x3 at hd3 HQ ⊢; subst hd3
  have hd4 : xs 4 = .agg (epC e) := (HD.out 4 (dk (by kernel_rfl)))
  generalize xs 4 = x4 at hd4 HQ ⊢; subst hd4
  go_wp2_with (go_at_call 39; refine (HFr.out _ HW.out).mono ?_; rintro e w1 ⟨rfl, hx⟩)
  exact HQ.out _ _ hx rfl
 ·
  have hd2 : xs 2 = .int .i64 FN := (HD.out 2 (dk (by kernel_rfl)))
  generalize xs 2 = x2 at hd2 HQ ⊢; subst hd2
  have hd5 : xs 5 = .int .i64 FN := (HD.out 5 (dk (by kernel_rfl)))
  generalize xs 5 = x5 at hd5 HQ ⊢; subst hd5
  go_wp2
  exact HQ.out _ _ (eR _) rfl
 ·
  have hd6 : xs 6 = .bool false := (HD.out 6 (dk (by kernel_rfl)))
  generalize xs 6 = x6 at hd6 HQ ⊢; subst hd6
  go_wp2
  exact HQ.out _ _ (eR _) rfl
 ·
  have hd7 : xs 7 = .bool false := (HD.out 7 (dk (by kernel_rfl)))
  generalize xs 7 = x7 at hd7 HQ ⊢; subst hd7
  go_wp2
  exact HQ.out _ _ (eR _) rfl
 ·
  have hd7 : xs 7 = .bool false := (HD.out 7 (dk (by kernel_rfl)))
  generalize xs 7 = x7 at hd7 HQ ⊢; subst hd7
  go_wp2
  exact HQ.out _ _ (eR _) rfl
 ·
  have hd7 : xs 7 = .bool false := (HD.out 7 (dk (by kernel_rfl)))
  generalize xs 7 = x7 at hd7 HQ ⊢; subst hd7
  have hd9 : xs 9 = .pointer (some ⟨R14, 1, none⟩) := (HD.out 9 (dk (by kernel_rfl)))
  generalize xs 9 = x9 at hd9 HQ ⊢; subst hd9
  have hc : W.cell? ⟨R14, 1, none⟩ = some (.int .i64 AE) := (HW.out.cell (p := ⟨R14, 1, none⟩) (by show R14 < _; omega)).trans q14
  go_wp2
  exact HQ.out _ _ (eR _) rfl
 ·
  have hd7 : xs 7 = .bool false := (HD.out 7 (dk (by kernel_rfl)))
  generalize xs 7 = x7 at hd7 HQ ⊢; subst hd7
  have hd8 : xs 8 = .int .i64 AE := (HD.out 8 (dk (by kernel_rfl)))
  generalize xs 8 = x8 at hd8 HQ ⊢; subst hd8
  have hd10 : xs 10 = .int .i64 AE := (HD.out 10 (dk (by kernel_rfl)))
  generalize xs 10 = x10 at hd10 HQ ⊢; subst hd10
  go_wp2
  exact HQ.out _ _ (eR _) rfl
 ·
  have hd7 : xs 7 = .bool false := (HD.out 7 (dk (by kernel_rfl)))
  generalize xs 7 = x7 at hd7 HQ ⊢; subst hd7
  have hd11 : xs 11 = .bool false := (HD.out 11 (dk (by kernel_rfl)))
  generalize xs 11 = x11 at hd11 HQ ⊢; subst hd11
  go_wp2
  exact HQ.out _ _ (eR _) rfl
 ·
  have hd12 : xs 12 = .bool false := (HD.out 12 (dk (by kernel_rfl)))
  generalize xs 12 = x12 at hd12 HQ ⊢; subst hd12
  go_wp2
  exact HQ.out _ _ (eR _) rfl
 ·
  have hd13 : xs 13 = .bool false := (HD.out 13 (dk (by kernel_rfl)))
  generalize xs 13 = x13 at hd13 HQ ⊢; subst hd13
  go_wp2
  exact HQ.out _ _ (eR _) rfl
 ·
  have hd13 : xs 13 = .bool false := (HD.out 13 (dk (by kernel_rfl)))
  generalize xs 13 = x13 at hd13 HQ ⊢; subst hd13
  go_wp2
  exact HQ.out _ _ (eR _) rfl
 ·
  have hd13 : xs 13 = .bool false := (HD.out 13 (dk (by kernel_rfl)))
  generalize xs 13 = x13 at hd13 HQ ⊢; subst hd13
  have hd15 : xs 15 = .pointer (some ⟨R14, 0, none⟩) := (HD.out 15 (dk (by kernel_rfl)))
  generalize xs 15 = x15 at hd15 HQ ⊢; subst hd15
  have hc : W.cell? ⟨R14, 0, none⟩ = some (.slice A14 LA.length c14) := (HW.out.cell (p := ⟨R14, 0, none⟩) (by show R14 < _; omega)).trans q140
  go_wp2
  exact HQ.out _ _ (eR _) rfl
 ·
  have hd13 : xs 13 = .bool false := (HD.out 13 (dk (by kernel_rfl)))
  generalize xs 13 = x13 at hd13 HQ ⊢; subst hd13
  have hd14 : xs 14 = .slice A12 LA.length c12 := (HD.out 14 (dk (by kernel_rfl)))
  generalize xs 14 = x14 at hd14 HQ ⊢; subst hd14
  have hd16 : xs 16 = .slice A14 LA.length c14 := (HD.out 16 (dk (by kernel_rfl)))
  generalize xs 16 = x16 at hd16 HQ ⊢; subst hd16
  go_wp2_with (go_at_call 40; refine (HSl.out _ HW.out).mono ?_; rintro e w1 ⟨rfl, hx⟩)
  exact HQ.out _ _ hx rfl
 ·
  have hd13 : xs 13 = .bool false := (HD.out 13 (dk (by kernel_rfl)))
  generalize xs 13 = x13 at hd13 HQ ⊢; subst hd13
  have hd17 : xs 17 = .bool true := (HD.out 17 (dk (by kernel_rfl)))
  generalize xs 17 = x17 at hd17 HQ ⊢; subst hd17
  go_wp2
  exact HQ.out _ _ (eR _) rfl
 ·
  have hd13 : xs 13 = .bool false := (HD.out 13 (dk (by kernel_rfl)))
  generalize xs 13 = x13 at hd13 HQ ⊢; subst hd13
  have hd18 : xs 18 = .bool false := (HD.out 18 (dk (by kernel_rfl)))
  generalize xs 18 = x18 at hd18 HQ ⊢; subst hd18
  go_wp2
  exact HQ.out _ _ (eR _) rfl
 ·
  have hd19 : xs 19 = .bool false := (HD.out 19 (dk (by kernel_rfl)))
  generalize xs 19 = x19 at hd19 HQ ⊢; subst hd19
  go_wp2
  exact HQ.out _ _ (eR _) rfl
 ·
  have hd20 : xs 20 = .bool false := (HD.out 20 (dk (by kernel_rfl)))
  generalize xs 20 = x20 at hd20 HQ ⊢; subst hd20
  go_wp2
  exact HQ.out _ _ (eR _) rfl
 ·
  have hd20 : xs 20 = .bool false := (HD.out 20 (dk (by kernel_rfl)))
  generalize xs 20 = x20 at hd20 HQ ⊢; subst hd20
  go_wp2
  exact HQ.out _ _ (eR _) rfl
 ·
  have hd20 : xs 20 = .bool false := (HD.out 20 (dk (by kernel_rfl)))
  generalize xs 20 = x20 at hd20 HQ ⊢; subst hd20
  have hd22 : xs 22 = .pointer (some ⟨R17, 38, none⟩) := (HD.out 22 (dk (by kernel_rfl)))
  generalize xs 22 = x22 at hd22 HQ ⊢; subst hd22
  have hc : W.cell? ⟨R17, 38, none⟩ = some (.int .i64 IE) := (HW.out.cell (p := ⟨R17, 38, none⟩) (by show R17 < _; omega)).trans q17
  go_wp2
  exact HQ.out _ _ (eR _) rfl
 ·
  have hd20 : xs 20 = .bool false := (HD.out 20 (dk (by kernel_rfl)))
  generalize xs 20 = x20 at hd20 HQ ⊢; subst hd20
  have hd21 : xs 21 = .int .i64 IE := (HD.out 21 (dk (by kernel_rfl)))
  generalize xs 21 = x21 at hd21 HQ ⊢; subst hd21
  have hd23 : xs 23 = .int .i64 IE := (HD.out 23 (dk (by kernel_rfl)))
  generalize xs 23 = x23 at hd23 HQ ⊢; subst hd23
  go_wp2
  exact HQ.out _ _ (eR _) rfl
 ·
  have hd20 : xs 20 = .bool false := (HD.out 20 (dk (by kernel_rfl)))
  generalize xs 20 = x20 at hd20 HQ ⊢; subst hd20
  have hd24 : xs 24 = .bool false := (HD.out 24 (dk (by kernel_rfl)))
  generalize xs 24 = x24 at hd24 HQ ⊢; subst hd24
  go_wp2
  exact HQ.out _ _ (eR _) rfl
 ·
  have hd25 : xs 25 = .bool false := (HD.out 25 (dk (by kernel_rfl)))
  generalize xs 25 = x25 at hd25 HQ ⊢; subst hd25
  go_wp2
  exact HQ.out _ _ (eR _) rfl
 ·
  have hd26 : xs 26 = .bool false := (HD.out 26 (dk (by kernel_rfl)))
  generalize xs 26 = x26 at hd26 HQ ⊢; subst hd26
  have hc := (row_extW HW.out (b := R15) (by omega) 0 38).trans k15
  go_wp2
  exact HQ.out _ _ (eR _) rfl
 ·
  have hd26 : xs 26 = .bool false := (HD.out 26 (dk (by kernel_rfl)))
  generalize xs 26 = x26 at hd26 HQ ⊢; subst hd26
  go_wp2
  exact HQ.out _ _ (eR _) rfl
 ·
  have hd26 : xs 26 = .bool false := (HD.out 26 (dk (by kernel_rfl)))
  generalize xs 26 = x26 at hd26 HQ ⊢; subst hd26
  have hd28 : xs 28 = .pointer (some ⟨R17, 0, none⟩) := (HD.out 28 (dk (by kernel_rfl)))
  generalize xs 28 = x28 at hd28 HQ ⊢; subst hd28
  have hc := (row_extW HW.out (b := R17) (by omega) 0 38).trans k17
  go_wp2
  exact HQ.out _ _ (eR _) rfl
 ·
  have hd26 : xs 26 = .bool false := (HD.out 26 (dk (by kernel_rfl)))
  generalize xs 26 = x26 at hd26 HQ ⊢; subst hd26
  have hd27 : xs 27 = .agg (epC x) := (HD.out 27 (dk (by kernel_rfl)))
  generalize xs 27 = x27 at hd27 HQ ⊢; subst hd27
  have hd29 : xs 29 = .agg (epC z2) := (HD.out 29 (dk (by kernel_rfl)))
  generalize xs 29 = x29 at hd29 HQ ⊢; subst hd29
  go_wp2_with (go_at_call 41; refine (HSm9.out _ HW.out).mono ?_; rintro e w1 ⟨rfl, hx⟩)
  exact HQ.out _ _ hx rfl
 ·
  have hd26 : xs 26 = .bool false := (HD.out 26 (dk (by kernel_rfl)))
  generalize xs 26 = x26 at hd26 HQ ⊢; subst hd26
  have hd30 : xs 30 = .bool true := (HD.out 30 (dk (by kernel_rfl)))
  generalize xs 30 = x30 at hd30 HQ ⊢; subst hd30
  go_wp2
  exact HQ.out _ _ (eR _) rfl
 ·
  have hd26 : xs 26 = .bool false := (HD.out 26 (dk (by kernel_rfl)))
  generalize xs 26 = x26 at hd26 HQ ⊢; subst hd26
  have hd31 : xs 31 = .bool false := (HD.out 31 (dk (by kernel_rfl)))
  generalize xs 31 = x31 at hd31 HQ ⊢; subst hd31
  go_wp2
  exact HQ.out _ _ (eR _) rfl
 ·
  have hd32 : xs 32 = .bool false := (HD.out 32 (dk (by kernel_rfl)))
  generalize xs 32 = x32 at hd32 HQ ⊢; subst hd32
  go_wp2
  exact HQ.out _ _ (eR _) rfl
 ·
  have hd33 : xs 33 = .bool false := (HD.out 33 (dk (by kernel_rfl)))
  generalize xs 33 = x33 at hd33 HQ ⊢; subst hd33
  go_wp2
  exact HQ.out _ _ (eR _) rfl
 ·
  have hd33 : xs 33 = .bool false := (HD.out 33 (dk (by kernel_rfl)))
  generalize xs 33 = x33 at hd33 HQ ⊢; subst hd33
  go_wp2
  exact HQ.out _ _ (eR _) rfl
 ·
  have hd33 : xs 33 = .bool false := (HD.out 33 (dk (by kernel_rfl)))
  generalize xs 33 = x33 at hd33 HQ ⊢; subst hd33
  have hd35 : xs 35 = .int .u8 n := (HD.out 35 (dk (by kernel_rfl)))
  generalize xs 35 = x35 at hd35 HQ ⊢; subst hd35
  go_wp2
  exact HQ.out _ _ (eR _) rfl
 ·
  have hd33 : xs 33 = .bool false := (HD.out 33 (dk (by kernel_rfl)))
  generalize xs 33 = x33 at hd33 HQ ⊢; subst hd33
  have hd36 : xs 36 = .int .i64 n := (HD.out 36 (dk (by kernel_rfl)))
  generalize xs 36 = x36 at hd36 HQ ⊢; subst hd36
  go_wp2
  exact HQ.out _ _ (eR _) rfl
 ·
  have hd33 : xs 33 = .bool false := (HD.out 33 (dk (by kernel_rfl)))
  generalize xs 33 = x33 at hd33 HQ ⊢; subst hd33
  have hd34 : xs 34 = .slice A2 L.length c2 := (HD.out 34 (dk (by kernel_rfl)))
  generalize xs 34 = x34 at hd34 HQ ⊢; subst hd34
  have hd37 : xs 37 = .int .i64 m := (HD.out 37 (dk (by kernel_rfl)))
  generalize xs 37 = x37 at hd37 HQ ⊢; subst hd37
  go_wp2_with (go_at_call 42; refine (HSa.out _ HW.out).mono ?_; rintro r w1 ⟨⟨A', c', l', rfl, hl', ho⟩, hx⟩)
  subst hl'
  exact HQ.out _ _ hx ⟨A', c', rfl, ho.lower hsW⟩
 ·
  have hd33 : xs 33 = .bool false := (HD.out 33 (dk (by kernel_rfl)))
  generalize xs 33 = x33 at hd33 HQ ⊢; subst hd33
  go_wp2
  exact HQ.out _ _ (eR _) rfl
 ·
  have hd33 : xs 33 = .bool false := (HD.out 33 (dk (by kernel_rfl)))
  generalize xs 33 = x33 at hd33 HQ ⊢; subst hd33
  go_wp2
  exact HQ.out _ _ (eR _) rfl
 ·
  have hd33 : xs 33 = .bool false := (HD.out 33 (dk (by kernel_rfl)))
  generalize xs 33 = x33 at hd33 HQ ⊢; subst hd33
  have hd40 : xs 40 = .int .u8 n := (HD.out 40 (dk (by kernel_rfl)))
  generalize xs 40 = x40 at hd40 HQ ⊢; subst hd40
  go_wp2
  exact HQ.out _ _ (eR _) rfl
 ·
  have hd33 : xs 33 = .bool false := (HD.out 33 (dk (by kernel_rfl)))
  generalize xs 33 = x33 at hd33 HQ ⊢; subst hd33
  have hd41 : xs 41 = .int .i64 n := (HD.out 41 (dk (by kernel_rfl)))
  generalize xs 41 = x41 at hd41 HQ ⊢; subst hd41
  go_wp2
  exact HQ.out _ _ (eR _) rfl
 ·
  have hd33 : xs 33 = .bool false := (HD.out 33 (dk (by kernel_rfl)))
  generalize xs 33 = x33 at hd33 HQ ⊢; subst hd33
  have hd39 : xs 39 = .slice A2 L.length c2 := (HD.out 39 (dk (by kernel_rfl)))
  generalize xs 39 = x39 at hd39 HQ ⊢; subst hd39
  have hd42 : xs 42 = .int .i64 m := (HD.out 42 (dk (by kernel_rfl)))
  generalize xs 42 = x42 at hd42 HQ ⊢; subst hd42
  go_wp2_with (go_at_call 43; refine (HSb.out _ HW.out).mono ?_; rintro r w1 ⟨⟨A', c', l', rfl, hl', ho⟩, hx⟩)
  subst hl'
  exact HQ.out _ _ hx ⟨A', c', rfl, ho.lower hsW⟩
 ·
  have hd33 : xs 33 = .bool false := (HD.out 33 (dk (by kernel_rfl)))
  generalize xs 33 = x33 at hd33 HQ ⊢; subst hd33
  have hs38 : (ownL W9.heap.size SL).S (xs 38) W := (HD.out 38 (dk (by kernel_rfl)))
  have hs43 : (ownL W9.heap.size SL).S (xs 43) W := (HD.out 43 (dk (by kernel_rfl)))
  obtain ⟨A38, c38, h38, ho38⟩ := hs38
  obtain ⟨A43, c43, h43, ho43⟩ := hs43
  generalize xs 38 = x38 at h38 HQ ⊢; subst h38
  generalize xs 43 = x43 at h43 HQ ⊢; subst h43
  go_wp2_with (go_at_call 40; refine (HSc.out _ HW.out A38 c38 A43 c43 (ho38.reads epE) (ho43.reads epE)).mono ?_; rintro r w1 ⟨rfl, hx⟩)
  exact HQ.out _ _ hx rfl
 ·
  have hd33 : xs 33 = .bool false := (HD.out 33 (dk (by kernel_rfl)))
  generalize xs 33 = x33 at hd33 HQ ⊢; subst hd33
  have hd44 : xs 44 = .bool true := (HD.out 44 (dk (by kernel_rfl)))
  generalize xs 44 = x44 at hd44 HQ ⊢; subst hd44
  go_wp2
  exact HQ.out _ _ (eR _) rfl
 ·
  have hd33 : xs 33 = .bool false := (HD.out 33 (dk (by kernel_rfl)))
  generalize xs 33 = x33 at hd33 HQ ⊢; subst hd33
  have hd45 : xs 45 = .bool false := (HD.out 45 (dk (by kernel_rfl)))
  generalize xs 45 = x45 at hd45 HQ ⊢; subst hd45
  go_wp2
  exact HQ.out _ _ (eR _) rfl
 intro xs W10 hW hS
 have h46 : xs 46 = .bool false := hS 46 (by omega)
 simp only [fillAt, dstOf, lc0, lcs, obs, Act.put, lsa, lsz, lss, nz, Nat.reduceAdd, List.drop_succ_cons, List.drop_zero, List.drop_nil]
 generalize xs 46 = x46 at *; subst h46
 have HW10 := lh (HX9.out.trans hW)
 have HWW10 := lh hW
 clear hS hW k8 q14 q140 k15 q17 k17
 have HU110 := lh (HU19.out.ext HWW10.out)
 have HC10 := lh (HC9.out.on HWW10.out)
 clear HX9 HU19 HC9 HSl HFo HFr HSm9 HSa HSb HSc HIs
 go_upto_region 10 with (fail)
 have k8 : rowOf W10 (B + 1) 0 38 = some (epC e) := HU110.out.all rfl (by have := HU110.out.lt; omega)
 have hl10 := HU110.out.lt
 refine wp_region_soft 5 (softsL [own0 W10.heap.size, .eq (.slice A2 L.length c2), ownL W10.heap.size L, .eq (.agg (epC e)), readE [e]]) (by kernel_rfl) (by kernel_rfl) (lt_cons ?_ (lt_cons ?_ (lt_cons ?_ (lt_cons ?_ (lt_cons ?_ (lt_none)))))) ?_
 any_goals (refine sop rfl fun xs W HW hsW HD Q' HQ => ?_; simp only [fillAt, dstOf, lc0, lcs, obs, Act.put, lsa, lsz, lss, nz, Nat.reduceAdd] at HQ ⊢)
 ·
  go_wp2
  exact HQ.out _ _ ((eR _).alloc _) ⟨some ⟨W.heap.size, 0, none⟩, rfl, owns_fresh epE [] W #[] W.heap.size W10.heap.size rfl hsW rfl (by decide)⟩
 ·
  go_wp2
  exact HQ.out _ _ (eR _) rfl
 ·
  have hs0 : (own0 W10.heap.size).S (xs 0) W := (HD.out 0 (dk (by kernel_rfl)))
  have hd1 : xs 1 = .slice A2 L.length c2 := (HD.out 1 (dk (by kernel_rfl)))
  generalize xs 1 = x1 at hd1 HQ ⊢; subst hd1
  obtain ⟨A0, h0, ho0⟩ := hs0
  generalize xs 0 = x0 at h0 HQ ⊢; subst h0
  go_wp2_with (at_builtin; refine (show Hid _ from ?_).out)
  refine lh ?_
  refine app_empty epT epE rfl _ _ rfl W10.heap.size A0 rfl ho0 W.heap.size _ _ L rfl (HC10.out.rd.on HW.out) HN2.out (by omega) (by omega) hsW ?_
  intro A' c' l' w1 hl' ho hx
  have hl'' := hl'.out
  subst hl''
  go_wp2
  exact HQ.out _ _ hx ⟨A', c', rfl, ho⟩
 ·
  have hc := (row_extW HW.out (b := B+1) (by omega) 0 38).trans k8
  go_wp2
  exact HQ.out _ _ (eR _) rfl
 ·
  have hd3 : xs 3 = .agg (epC e) := (HD.out 3 (dk (by kernel_rfl)))
  generalize xs 3 = x3 at hd3 HQ ⊢; subst hd3
  go_wp2
  exact HQ.out _ _ ((eR _).alloc _) ⟨_, _, rfl, reads_freshB epE [e] W _ _ (by kernel_rfl) _ rfl, fun h => (by cases h)⟩
 intro xs W11 hW hS
 have h2 : (ownL W10.heap.size L).S (xs 2) W11 := hS 2 (by omega)
 have h4 : (readE [e]).S (xs 4) W11 := hS 4 (by omega)
 simp only [fillAt, dstOf, lc0, lcs, obs, Act.put, lsa, lsz, lss, nz, Nat.reduceAdd, List.drop_succ_cons, List.drop_zero, List.drop_nil]
 have HW11 := lh (HW10.out.trans hW)
 have HWW11 := lh hW
 clear hS hW k8
 obtain ⟨A02, c02, hx2, ho2⟩ := h2
 obtain ⟨A04, c04, hx4, hr4, hz4⟩ := h4
 generalize xs 2 = xv2 at *
 generalize xs 4 = xv4 at *
 subst hx2 hx4
 have HO2 := lh ho2
 have HR4 := lh hr4
 have hs11 := HWW11.out.size
 clear ho2 hr4
 go_wp2_with (at_builtin; refine (show Hid _ from ?_).out)
 refine lh ?_
 refine app_reads epT epE rfl _ _ rfl W10.heap.size _ _ L rfl HO2.out W11.heap.size _ _ [e] rfl HR4.out hz4 (by simp; omega) (by simp; omega) hs11 ?_
 intro A18 c18 l18 w12 HL18 hO18 hB18 _ _ _
 have hl18 := HL18.out
 subst hl18
 have HX12 : Hid (Ext W10 w12) := lh (Ext.grown HWW11.out hB18 (Nat.le_refl _))
 have HXw12 := lh (HW10.out.trans HX12.out)
 have HC12 := lh (HC10.out.on HX12.out)
 have HOe12 : Hid (EpOk e ∧ EpShort e ∧ EpAt w12 e) := lh ⟨HOe.out.1, HOe.out.2.1, HOe.out.2.2.on HXw12.out⟩
 have HM12 : Hid (ChAt w12 A18 (L ++ [e])) := lh ⟨hO18.reads epE, fun y hy => by
  rw [List.mem_append, List.mem_singleton] at hy
  rcases hy with hy | rfl
  ·exact HC12.out.ok y hy
  ·exact HOe12.out⟩
 have hcap18 : (L ++ [e]).length ≤ c18 := ownsEp_cap hO18
 have hlen18 : (L ++ [e]).length ≤ 9 := by simp; omega
 have HU112 := lh (HU110.out.ext HX12.out)
 have HRr12 := lh (HRr.out.on HXw12.out)
 have HK12 : Hid (KonstP w12) := lh (RowAt.ext HK.out HXw12.out)
 have HRK12 : Hid (RKonst w12) := lh (RowAt.ext HRK.out HXw12.out)
 have hl12 := HU112.out.lt
 clear HL18 hO18 hB18 HO2 HR4 HX12 HU110 HC10 HRr HK HRK HW10 HW11 HWW11 HWW10 hs11
 go_wp2
 go_loopw [10, 18, 19, 20, 21, 134] (fun _ m _ _ _ i wr => ∃ (j : Nat) (Am : Option Addr) (cm : Nat) (lm : List Ep), i = .int .i64 j ∧ j ≤ 2 ∧ m = .slice Am lm.length cm ∧ lm.length ≤ 9 ∧ lm.length ≤ cm ∧ Hid (ChAt wr Am lm) ∧ Hid (Ext w12 wr)) (fun _ _ _ _ _ i _ => 2 - (intOf i).toNat)
 case atStart => exact ⟨0, A18, c18, L ++ [e], rfl, Nat.zero_le _, by rw [List.length_append]; rfl, hlen18, hcap18, HM12, lh (eR _)⟩
 case round =>
  obtain ⟨j, Am, cm, lm, rfl, hj, rfl, hlm, hcm, HMt, HX⟩ := hrel
  generalize hwA : wr = wA at *
  clear hwA hcap18 hlen18 HM12
  by_cases hj2 : j < 2
  ·go_wp2_with (go_at_call 32; refine (show Hid _ from ?_).out)
   refine lh ?_
   refine (echeck_any Ar cr ring Am cm lm wA HRg.out (HRr12.out.on HX.out) (by omega) hcm HMt.out (RowAt.ext HK12.out HX.out)).mono ?_
   rintro r w13 ⟨rfl, hx13⟩
   have HX13 := lh (HX.out.trans hx13)
   have HM13 := lh (HMt.out.on hx13)
   clear hx13 HMt
   go_wp2_with (go_at_call 44; refine (show Hid _ from ?_).out)
   refine lh ?_
   refine (rcheck_any Ar cr ring Am cm lm w13 HRg.out (HRr12.out.on HX13.out) (by omega) hcm HM13.out (RowAt.ext HRK12.out HX13.out)).mono ?_
   rintro r w14 ⟨rfl, hx14⟩
   have HX14 := lh (HX13.out.trans hx14)
   clear hx14 HM13 HX13
   generalize (checkAll ring lm).1 = R1 at *
   generalize (checkAll ring lm).2 = R2 at *
   have hfp := plc_fits R1 R2
   have hs14 := HX14.out.size
   go_upto_region 15 with (fail)
   refine wp_world (fun W => Ext w12 W ∧ RowAt W w14.heap.size (plcC R1 R2)) ⟨(by (with_reducible repeat first|exact HX14.out|exact eR _|apply eD|apply eN|apply eA|apply eO|apply eS|apply eC);all_goals first|omega|simp <;> omega), RowAt.store (RowAt.newAt rfl) rfl⟩ ?_
   obtain ⟨R21, hR21⟩ : ∃ R21, w14.heap.size = R21 := ⟨_, rfl⟩
   rw [hR21]
   rintro W15 ⟨x15, u21⟩
   have HX15 := lh x15
   have q0 : W15.cell? ⟨R21, 0, none⟩ = some (.int .i64 R1) := (u21.cell 0).trans (plc_g0 _ _)
   have q1 : W15.cell? ⟨R21, 1, none⟩ = some (.int .i64 R2) := (u21.cell 1).trans (plc_g1 _ _)
   clear x15 u21 HX14 hR21 HX
   go_wp2_with (at_builtin; refine (show Hid _ from ?_).out)
   refine lh ?_
   refine app_empty epT epE rfl _ _ rfl W15.heap.size (some ⟨W15.heap.size, 0, none⟩) rfl (show OwnsEp W15.heap.size (W15.alloc (.cells #[] 30)) (some ⟨W15.heap.size, 0, none⟩) 0 [] from owns_fresh epE [] W15 #[] W15.heap.size W15.heap.size rfl (Nat.le_refl _) rfl (by decide)) _ A2 c2 L rfl ((HC12.out.rd.on HX15.out).on ((eR _).alloc _)) HN2.out (by omega) (by omega) (by simp [World.size_alloc]) ?_
   intro A17 c17 l17 w17 hl17 hO17 hx17
   have hl17' := hl17.out
   subst hl17'
   have h1215 := HX15.out.size
   have HX17 := lh ((HX15.out.alloc _).trans hx17)
   have HO17 := lh hO17
   have hcap17 : l17.length ≤ c17 := ownsEp_cap hO17
   have HC17 : Hid (∀ y ∈ l17, EpOk y ∧ EpShort y ∧ EpAt w12 y) := lh HC12.out.ok
   clear hl17 hO17 hx17 HX15 q0 q1
   by_cases h0 : l17.length = 0
   ·have d0 : decide (0 < l17.length) = false := decide_eq_false (by omega)
    clear h0
    go_wp2
    go_roundw
    case rel => exact ⟨j + 1, A17, c17, l17, by go_num, by omega, rfl, by omega, hcap17, lh ⟨HO17.out.reads epE, fun y hy => ⟨(HC17.out y hy).1, (HC17.out y hy).2.1, (HC17.out y hy).2.2.on HX17.out⟩⟩, lh (by (with_reducible repeat first|exact HX17.out|exact eR _|apply eD|apply eN|apply eA|apply eO|apply eS|apply eC);all_goals first|omega|simp <;> omega)⟩
    case measure => simp [intOf]; omega
   ·have d0 : decide (0 < l17.length) = true := decide_eq_true (by omega)
    obtain ⟨i, hni⟩ : ∃ i : Nat, n % (l17.length : Int) = i := ⟨(n % (l17.length : Int)).toNat, by have := Int.emod_nonneg n (show (l17.length : Int) ≠ 0 by omega); omega⟩
    have hil : i < l17.length := by have := Int.emod_lt_of_pos n (show (0 : Int) < l17.length by omega); omega
    obtain ⟨g, rfl, hg1, hg2, m17⟩ := owns_row HO17.out i hil
    have u8 := HU112.out.ext HX17.out
    have k8 : rowOf w17 (B + 1) 0 38 = some (epC e) := u8.all rfl (by omega)
    have hl8 := u8.lt
    have hne : (l17.length : Int) ≠ 0 := by omega
    clear u8 h0
    go_upto_region 19 with (fail)
    refine wp_region_later_tail 8 (by kernel_rfl) (by kernel_rfl) ?_
    simp only [List.take_succ_cons, List.take_zero, List.drop_succ_cons, List.drop_zero]
    repeat (first | go_big_quiet_step ((fail)) | quiet_step ((fail)))
    refine wpQuiet_nil ?_
    rintro _ ⟨xq, rfl⟩
    have m19 : roomOf (later w17 xq) g (i * 38) 38 = true := (owns_row (HO17.out.later xq) i hil).elim fun _ h => by
     obtain ⟨h1, _, _, h4⟩ := h
     injection h1 with h1
     injection h1 with h1
     subst h1
     exact h4
    go_wp2
    have hx19 : Ext w12 ((later w17 xq).setCells g (i * 38) (epC e).toList) := Ext.setCells (HX17.out.onto xq) (by omega) _ _
    go_roundw
    case rel =>
     refine ⟨j + 1, some ⟨g, 0, none⟩, c17, l17.set i e, by go_num, by omega, by simp, by simp; omega, by simp; omega, lh ⟨?_, ?_⟩, lh hx19⟩
     ·have h := reads_setRow ((HO17.out.later xq).reads epE) i hil e
      rwa [show (later w17 xq).heap.size = ((later w17 xq).setCells g (i * 38) (epC e).toList).heap.size from (setCells_size _ _ _ _).symm] at h
     ·exact set_in (fun y hy => ⟨(HC17.out y hy).1, (HC17.out y hy).2.1, (HC17.out y hy).2.2.on hx19⟩) ⟨HOe12.out.1, HOe12.out.2.1, HOe12.out.2.2.on hx19⟩
    case measure => simp [intOf]; omega
  ·clear HC12 HRr12 HK12 HRK12 HMt
   go_wp2_with (go_at_call 12; refine (HS.out _ (HXw12.out.trans HX.out)).mono ?_; rintro e w' ⟨rfl, hxl⟩; obtain ⟨xl, rfl⟩ := hxl.asLater; clear hxl)
   go_ret
   exact ⟨rfl, (by (with_reducible repeat first|exact HXw12.out.trans HX.out|exact eR _|apply eD|apply eN|apply eA|apply eO|apply eS|apply eC);all_goals first|omega|simp <;> omega)⟩
end Go.Proofs.YtpojnhikgjcgmaaGreatDoor

namespace Go.Proofs.YtpojnhikgjcgmaaGreatDoor
open Go.ChangeShapes Go.WideShapes Go.ChangeAt Go.ChangeMaps Go.RowKit
open Go.Proofs
theorem laidEk {W : World} (h : laidMetH Tryz.prog Rows.epochChainsAsSpecifiedRow.laid W) : Konst 0 W ∧ RKonst W := by
 rw [MakeChecks.laidMetH_plain _ _ _ (by kernel_rfl)] at h
 obtain ⟨ps, ⟨ga, ta, csa, fa, pa, qa, hga, hta, hva, hda, ⟨g0, t0, cs0, f0, p0, q0, hg0, ht0, hv0, hd0, ⟨g1, t1, cs1, f1, p1, q1, hg1, ht1, hv1, hd1, _, rfl⟩, rfl⟩, rfl⟩, _, hf⟩ := h
 obtain rfl := Option.some.inj ((show Tryz.prog.globalNamed "weirgate/weirgateref02.constants" = some 1 by kernel_rfl).symm.trans hg0)
 obtain rfl := Option.some.inj ((show Tryz.prog.globalNamed "weirgate/hash.constants" = some 0 by kernel_rfl).symm.trans hg1)
 obtain rfl := Option.some.inj ((show (Tryz.prog.globals[(1 : Nat)]?).map (·.type) = some 258 by kernel_rfl).symm.trans ht0)
 obtain rfl := Option.some.inj ((show (Tryz.prog.globals[(0 : Nat)]?).map (·.type) = some 258 by kernel_rfl).symm.trans ht1)
 rw [laidRK] at hd0
 rw [laidK] at hd1
 exact ⟨table_at hg1 hv1 hd1 (fun x hx => by simp [hx]) hf, table_at hg0 hv0 hd0 (fun x hx => by simp [hx]) hf⟩
theorem epochChainsAsSpecified_lifted (os : Os) (started : os.Started) (H : Type) (enc : TypeId × Value → H) :
  ReturnsInHanded {} Tryz.checked os 7 .any (fun w args => (Rows.epochChainsAsSpecifiedSpec.pre enc Tryz.prog Tryz.f7 Rows.epochChainsAsSpecifiedRow.domain false w args ∧ laidMetH Tryz.prog Rows.epochChainsAsSpecifiedRow.laid w) ∧ sizedMet enc Tryz.prog Tryz.f7 (OpenSpec.ofChange Rows.epochChainsAsSpecifiedSpec) false w args)
   (Rows.epochChainsAsSpecifiedSpec.post enc Tryz.prog Tryz.f7 false true false false) := by
 refine returnsInHanded_of_change_and (C := Tryz.checked) (X := fun w _ => laidMetH Tryz.prog Rows.epochChainsAsSpecifiedRow.laid w) (fun _ _ _ hh h => h.of_heap hh) Tryz.own started (by kernel_rfl) Tryz.func7
  (ChangeSpec.witness_shaped (enc := enc) (C := Tryz.checked) (os := os) (X := fun w _ => laidMetH Tryz.prog Rows.epochChainsAsSpecifiedRow.laid w) false (World.laidAll Tryz.prog os Rows.epochChainsAsSpecifiedRow.laid) #[.slice none 0 0, .agg (kyC noKy), .slice none 0 0, .agg (epC noEp), .int .u8 0] 8 (World.laidAll_os _ _ _)
   (World.shaped_of_ZipB (by kernel_rfl) (by kernel_rfl)) (by kernel_rfl) (by kernel_rfl) (by kernel_rfl)
   (by rw [MakeChecks.laidMetH_plain _ _ _ (by kernel_rfl)]; exact laidMet_laidAll _ (by kernel_rfl) (by kernel_rfl))) ?_
 intro W base args ds gs before hval0 hW hcnd hSz hL _
 have hval : ∀ (j : Nat) t v, Tryz.f7.params[j]? = some t → args[j]? = some v → Value.okWide Tryz.prog W .any base t v := hval0
 have hW' := hW
 obtain ⟨p, q, hA0, hV, rfl, hfz, hnd⟩ := hW
 have hA : DataW.TrodAll enc Tryz.prog W 0 (fun _ => true) true Tryz.f7.params.toList args.toList ds p := hA0
 rw [Tryz.params7] at hA hval
 obtain ⟨rfl, rfl⟩ := trodVars_none hV
 clear hA0 hval0 hcnd
 obtain ⟨v0, vs0, d0, ds0, p0, q0, ea0, rfl, rfl, h0, hA⟩ := trodAll_cons hA
 obtain ⟨v1, vs1, d1, ds1, p1, q1, rfl, rfl, rfl, h1, hA⟩ := trodAll_cons hA
 obtain ⟨v2, vs2, d2, ds2, p2, q2, rfl, rfl, rfl, h2, hA⟩ := trodAll_cons hA
 obtain ⟨v3, vs3, d3, ds3, p3, q3, rfl, rfl, rfl, h3, hA⟩ := trodAll_cons hA
 obtain ⟨v4, vs4, d4, ds4, p4, q4, rfl, rfl, rfl, h4, hA⟩ := trodAll_cons hA
 obtain ⟨rfl, rfl, rfl⟩ := trodAll_nil hA
 obtain rfl : args = #[v0, v1, v2, v3, v4] := by cases args; simp_all
 obtain ⟨hk, hrk⟩ := laidEk hL
 obtain ⟨Ar, cr, ring, rfl, hrl, hrc, hrr, hrs⟩ := open_keys (hval 0 65 v0 rfl rfl) h0
 obtain ⟨k, rfl, hks⟩ := open_key (hval 1 44 v1 rfl rfl) h1
 obtain ⟨A, c, l, rfl, hl, hc⟩ := open_eps (hval 2 45 v2 rfl rfl) h2
 obtain ⟨e, rfl, he⟩ := open_ep (hval 3 30 v3 rfl rfl) h3
 obtain ⟨n, rfl, _, _, hn⟩ := open_int Tryz.underlying5 (hval 4 5 v4 rfl rfl) h4
 have hn2 : 0 ≤ n ∧ n < 256 := by simp [Lit.wf, IntKind.min, IntKind.max, IntKind.signed, IntKind.bits] at hn; omega
 obtain ⟨hok, ha⟩ := ep_ok he
 have main := chains_ok Ar cr ring k A c l e n W (by unfold maxLen at hrc; omega) hrr (fun s hs => by have := hrs s hs; unfold maxLen at this; omega) (by unfold maxLen at hks; omega) hl hc hok ha hn2.1 hn2.2 hk hrk
 refine main.mono fun e' W' ⟨he, hx⟩ => ?_
 subst he
 exact ⟨_, rfl, law_post Tryz.laidOut (by kernel_rfl) rfl hW' hx 4 (by kernel_rfl) Tryz.underlying4 rfl rfl rfl⟩
end Go.Proofs.YtpojnhikgjcgmaaGreatDoor