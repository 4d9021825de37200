/- weirgateref31.Made. -/
import Derived.WalkKit
import Derived.WalkSpells
import Derived.WalkLawsBesides
import Derived.Deep.QuietTactic
import Derived.BigQuiet
import Derived.Test.YtpojnhikgjcgmaaGreatDoorEOn
set_option maxRecDepth 100000
set_option maxHeartbeats 64000000
set_option linter.unusedVariables false
set_option linter.unusedSimpArgs false
namespace Go.Proofs.YtpojnhikgjcgmaaGreatDoor
open Go.RowKit Go.Shelf Go.Maps
open Go.Proofs
def isdC (s : Ep) (e : Int) : Array Value := (epL s ++ [Value.int .i64 e]).toArray
theorem isd_ty : RowTy Tryz.prog 76 39 := ⟨by kernel_rfl, by kernel_rfl⟩
theorem isd_ld (w : World) (b o : Nat) : (rowLoad 76 39 (.pointer (some ⟨b, o, none⟩))).run Tryz.prog w = rowLoadR Tryz.prog w 76 39 b o (rowOf w b o 39) := run_rowLoad isd_ty w b o
theorem isd_st (w : World) (b o : Nat) (cells : Array Value) : (rowStore 76 39 (.pointer (some ⟨b, o, none⟩)) (.agg cells)).run Tryz.prog w = rowStoreR Tryz.prog w 76 39 b o cells (roomOf w b o 39 && fitsRow 39 cells) := run_rowStore isd_ty w b o cells
theorem isd_al (w : World) : (rowAlloc 76).run Tryz.prog w = .ok (.value (.pointer (some ⟨w.heap.size, 0, none⟩))) (w.alloc (.cells (isdC noEp 0) 76)) := run_rowAlloc (by kernel_rfl) w
theorem isd_xl (ρ : Operand → Value) (dst : Option Tmp) (x : Operand) (t : TypeId) (pos : String) (after : Array Edge) (guard : Option (Nat × Bool)) : execOp ρ { dst, op := .load 76 x, type := t, pos, after, guard } = rowLoad 76 39 (ρ x) := rfl
theorem isd_xs (ρ : Operand → Value) (dst : Option Tmp) (x y : Operand) (t : TypeId) (pos : String) (after : Array Edge) (guard : Option (Nat × Bool)) : execOp ρ { dst, op := .store 76 x y, type := t, pos, after, guard } = rowStore 76 39 (ρ x) (ρ y) := rfl
theorem isd_xa (ρ : Operand → Value) (dst : Option Tmp) (t : TypeId) (pos : String) (after : Array Edge) (guard : Option (Nat × Bool)) : execOp ρ { dst, op := .alloc 76, type := t, pos, after, guard } = rowAlloc 76 := rfl
attribute [go_sem ↓] isd_xl isd_xs isd_xa
attribute [go_sem] isd_ld isd_st isd_al
theorem isd_size (s : Ep) (e : Int) : (isdC s e).size = 39 := rfl
theorem isd_all (s : Ep) (e : Int) : rowSub (isdC s e) 0 39 = some (isdC s e) := rowSub_all _ _ rfl
theorem isd_fits (s : Ep) (e : Int) : fitsRow 39 (isdC s e) = true := by kernel_rfl
theorem isd_ep (s : Ep) (e : Int) : rowSub (isdC s e) 0 38 = some (epC s) := by kernel_rfl
theorem isd_g38 (s : Ep) (e : Int) : (isdC s e)[38]? = some (.int .i64 e) := by kernel_rfl
attribute [go_sem] isd_size isd_all isd_fits isd_ep isd_g38
def isdB1 (a : Value) : Sem Next := do pure (.value (← Instr.build 76 #[(1, a)]))
theorem isdB1_x (ρ : Operand → Value) (dst : Option Tmp) (a : Operand) (t : TypeId) (pos : String) (after : Array Edge) (guard : Option (Nat × Bool)) : execOp ρ { dst, op := .build 76 #[(1, a)], type := t, pos, after, guard } = isdB1 (ρ a) := by kernel_rfl
attribute [go_sem ↓] isdB1_x
theorem isdB1_run (e : Int) (W : World) : (isdB1 (.int .i64 e)).run Tryz.prog W = .ok (.value (.agg (isdC noEp e))) W := by kernel_rfl
def isdB0 (a : Value) : Sem Next := do pure (.value (← Instr.build 76 #[(0, a)]))
theorem isdB0_x (ρ : Operand → Value) (dst : Option Tmp) (a : Operand) (t : TypeId) (pos : String) (after : Array Edge) (guard : Option (Nat × Bool)) : execOp ρ { dst, op := .build 76 #[(0, a)], type := t, pos, after, guard } = isdB0 (ρ a) := by kernel_rfl
attribute [go_sem ↓] isdB0_x
theorem isdB0_run (s : Ep) (W : World) : (isdB0 (.agg (epC s))).run Tryz.prog W = .ok (.value (.agg (isdC s 0))) W := by kernel_rfl
attribute [go_sem] isdB1_run isdB0_run
noncomputable def isdO (k : Ky) (l : List Ep) (s : Ep) : Array Value := if issueE k l s = 0 then isdC (issueX k l s) 0 else isdC noEp (issueE k l s)
def epB4i (x0 x2 x3 x4 : Value) : Sem Next := do pure (.value (← Instr.build 30 #[(0, x0), (2, x2), (3, x3), (4, x4)]))
theorem epB4i_x (ρ : Operand → Value) (dst : Option Tmp) (x0 x2 x3 x4 : Operand) (t : TypeId) (pos : String) (after : Array Edge) (guard : Option (Nat × Bool)) : execOp ρ { dst, op := .build 30 #[(0, x0), (2, x2), (3, x3), (4, x4)], type := t, pos, after, guard } = epB4i (ρ x0) (ρ x2) (ρ x3) (ρ x4) := by kernel_rfl
theorem epB4i_run (n : Int) (lo hi : Int) (PA : Option Addr) (pc : Nat) (pu : List Pu) (RA : Option Addr) (rc : Nat) (rv : List (List Int)) (W : World) :
  (epB4i (.int .i64 n) (.agg (pdC lo hi)) (.slice PA pu.length pc) (.slice RA rv.length rc)).run Tryz.prog W = .ok (.value (.agg (epC ⟨n, zeros32 16, lo, hi, PA, pc, pu, RA, rc, rv, 0, zeros32 16⟩))) W := by kernel_rfl
theorem ep_prev_set (s : Ep) (D : List Int) : laidOver (epC s) 1 (dgC D).toList = epC { s with prev := D } := by kernel_rfl
def protoEp (l : List Ep) (s : Ep) : Ep := ⟨(l.length : Int) + 1, zeros32 16, s.lo, s.hi, s.PA, s.pc, s.pu, s.RA, s.rc, s.rv, 0, zeros32 16⟩
theorem proto_prev (l : List Ep) (s : Ep) : ({ protoEp l s with prev := lastD l } : Ep) = nextEp l s := rfl
theorem nextEp_at {w : World} {l : List Ep} {s : Ep} (h : EpAt w s) : EpAt w (nextEp l s) := ⟨h.pu, h.rv⟩
theorem issueX_ok {k : Ky} {l : List Ep} {s : Ep} (hki : i64 k.serial) (hl : l.length ≤ 100) (h : EpOk s) : EpOk (issueX k l s) := by
 have h1 := serEp_ok (k := k) (nextEp_ok hl h) hki
 exact ⟨h1.prev, ⟨makeN_len _ _ _, makeN_byt _ _ _⟩, h1.rv, h1.ints, h1.pu, h1.pul, h1.rvl, h1.pcap, h1.rcap, h1.pz, h1.rz⟩
theorem issueX_short {k : Ky} {l : List Ep} {s : Ep} (h : EpShort s) : EpShort (issueX k l s) := ⟨h.pu, h.rv, h.what⟩
theorem issueX_at {w : World} {k : Ky} {l : List Ep} {s : Ep} (h : EpAt w s) : EpAt w (issueX k l s) := ⟨h.pu, h.rv⟩
section
attribute [local go_sem ↓] epB4i_x
attribute [local go_sem] pd_fits dg_fits pd_size
theorem rissue_any (k : Ky) (A : Option Addr) (c : Nat) (l : List Ep) (s : Ep) (w : World) (hs : k.secret.size ≤ 64) (hki : i64 k.serial) (hl : l.length ≤ 100) (hc : ChAt w A l) (hok : EpOk s) (hsh : EpShort s) (ha : EpAt w s) (hk : RKonst w) :
  Calls Tryz.prog 37 #[.agg (kyC k), .slice A l.length c, .agg (pdC s.lo s.hi), .slice s.PA s.pu.length s.pc, .slice s.RA s.rv.length s.rc] w fun r w' => r = .returned (.agg (isdO k l s)) ∧ Ext w w' := by
 have HSe := lh (fun (W : World) (hx : Ext w W) => rsealEp_any k (nextEp l s) W hs hki (nextEp_ok hl hok) (nextEp_short hsh) (nextEp_at (ha.on hx)) (RowAt.ext hk hx))
 have HFo := lh (fun (W : World) (hx : Ext w W) => rfollows_any A c l (issueX k l s) W hl (hc.on hx) (issueX_ok hki hl hok) (issueX_short hsh) (issueX_at (ha.on hx)) (RowAt.ext hk hx))
 have HK : Hid (RKonst w) := lh hk
 have HC := lh hc
 have hfk := ky_fits k
 have hrun : ∀ W, (epB4i (.int .i64 ((l.length : Int) + 1)) (.agg (pdC s.lo s.hi)) (.slice s.PA s.pu.length s.pc) (.slice s.RA s.rv.length s.rc)).run Tryz.prog W = .ok (.value (.agg (epC (protoEp l s)))) W := fun W => epB4i_run _ _ _ _ _ _ _ _ _ W
 have hfn := ep_fits (nextEp l s)
 have hfp := ep_fits (protoEp l s)
 have HO : Hid (isdO k l s = if issueE k l s = 0 then isdC (issueX k l s) 0 else isdC noEp (issueE k l s)) := lh rfl
 have hsx : sealEp k (nextEp l s) = issueX k l s := rfl
 have hfx : followsN l (issueX k l s) = issueE k l s := rfl
 have hpv := proto_prev l s
 rw [hsx] at HSe
 rw [hfx] at HFo
 have hfz := ep_fits (issueX k l s)
 generalize issueX k l s = z at *
 generalize issueE k l s = E at *
 generalize isdO k l s = OUT at *
 clear hok hsh ha hk hc hsx hfx
 go_enter Tryz.func37, Tryz.ntmps37
 go_upto_region 1 with (fail)
 refine wp_world (fun W => Ext w W ∧ RowAt W w.heap.size (kyC k) ∧ RowAt W (w.heap.size + 1) (pdC s.lo s.hi) ∧ RowAt W (w.heap.size + 1 + 1) (isdC noEp 0)) ⟨(by (with_reducible repeat first|exact eR _|apply eD|apply eN|apply eA|apply eO|apply eS|apply eC);all_goals first|omega|simp <;> omega), ((RowAt.new _ _ _).alloc _).alloc _, RowAt.alloc (RowAt.newAt (by simp)) _, RowAt.newAt (by simp)⟩ ?_
 obtain ⟨B, hB⟩ : ∃ B, w.heap.size = B := ⟨_, rfl⟩
 rw [hB]
 rintro W1 ⟨x1, u0, u1, u2⟩
 have HX1 := lh x1
 have HU0 := lh u0
 have HU2 := lh u2
 have hl1 := u2.lt
 have k1 : rowOf W1 (B + 1) 0 2 = some (pdC s.lo s.hi) := u1.all rfl (by omega)
 clear x1 u0 u1 u2
 go_upto_region 2 with (fail)
 refine wp_world (fun W => Ext w W ∧ RowAt W B (kyC k) ∧ RowAt W (B + 1 + 1) (isdC noEp 0) ∧ RowAt W W1.heap.size (epC (protoEp l s))) ⟨(by (with_reducible repeat first|exact HX1.out|exact eR _|apply eD|apply eN|apply eA|apply eO|apply eS|apply eC);all_goals first|omega|simp <;> omega), RowAt.others (HU0.out.alloc _) (by omega) _ _, RowAt.others (HU2.out.alloc _) (by omega) _ _, RowAt.store (RowAt.newAt rfl) rfl⟩ ?_
 obtain ⟨g, hg⟩ : ∃ g, W1.heap.size = g := ⟨_, rfl⟩
 rw [hg]
 rintro W2 ⟨x2, u0, u2, u3⟩
 have HX2 := lh x2
 have HU02 := lh u0
 have HU22 := lh u2
 have HU32 := lh u3
 have hl2 := u3.lt
 have hs2 := x2.size
 clear x2 u0 u2 u3 HX1 HU0 HU2 k1
 by_cases h0 : l.length = 0
 ·have hpn : protoEp l s = nextEp l s := by rw [List.eq_nil_of_length_eq_zero h0]; rfl
  rw [hpn] at HU32
  have dl : decide (0 < l.length) = false := decide_eq_false (by omega)
  clear h0 hpv hfp HC HK hpn
  generalize hWW : W2 = W3 at *
  clear hWW
  have HX3 := HX2
  have HUk := HU02
  have HUo := HU22
  have HUe := HU32
  clear HX2 HU02 HU22 HU32
  have k0 : rowOf W3 B 0 5 = some (kyC k) := HUk.out.all rfl (by omega)
  have k3 : rowOf W3 g 0 38 = some (epC (nextEp l s)) := HUe.out.all rfl (by omega)
  go_wp2_with (go_at_call 83; refine (show Hid _ from ?_).out)
  refine lh ?_
  refine (HSe.out W3 HX3.out).mono ?_
  rintro r w4 ⟨rfl, hx4⟩
  have HX4 := lh (HX3.out.trans hx4)
  have HU4o := lh (HUo.out.ext hx4)
  have HU4e := lh (HUe.out.ext hx4)
  have hl4 := HU4e.out.lt
  have m4 : roomOf w4 g 0 38 = true := by rw [HU4e.out.room]; rfl
  clear hx4 k0 k3 HX3 HUk HUo HUe
  go_upto_region 5 with (fail)
  refine wp_world (fun W => Ext w W ∧ RowAt W (B + 1 + 1) (isdC noEp 0) ∧ RowAt W g (epC z)) ⟨HX4.out.setCells (by omega) _ _, HU4o.out.others (by omega) _ _, RowAt.store HU4e.out (show (epC z).size = (epC (nextEp l s)).size from rfl)⟩ ?_
  rintro W5 ⟨x5, u2, u3⟩
  have HX5 := lh x5
  have HU5 := lh u2
  have HU5e := lh u3
  have k5 : rowOf W5 g 0 38 = some (epC z) := u3.all rfl (by omega)
  have hl5 := u3.lt
  clear x5 u2 u3 HX4 HU4o HU4e m4
  go_wp2_with (go_at_call 39; refine (show Hid _ from ?_).out)
  refine lh ?_
  refine (HFo.out W5 HX5.out).mono ?_
  rintro e w' ⟨rfl, hxl⟩; obtain ⟨xl, rfl⟩ := hxl.asLater; clear hxl
  have m5 : roomOf (later W5 xl) (B + 1 + 1) 0 39 = true := by rw [(HU5.out.later xl).room]; rfl
  by_cases e0 : E = 0
  ·have HO2 : Hid (OUT = isdC z 0) := lh (by rw [HO.out, if_pos e0])
   subst e0
   have hfo := isd_fits z 0
   go_wp2
   refine post_row isd_ty Tryz.results37 rfl rfl (RowAt.stored (n := 39) (ds := isdC z 0) (HU5.out.later xl) rfl rfl (by omega)) ⟨by rw [HO2.out], (by (with_reducible repeat first|exact HX5.out|exact eR _|apply eD|apply eN|apply eA|apply eO|apply eS|apply eC);all_goals first|omega|simp <;> omega)⟩
  ·have HO2 : Hid (OUT = isdC noEp E) := lh (by rw [HO.out, if_neg e0])
   have de : (E != 0) = true := by simpa using e0
   have hfo := isd_fits noEp E
   clear e0
   go_wp2
   refine post_row isd_ty Tryz.results37 rfl rfl (RowAt.stored (n := 39) (ds := isdC noEp E) (HU5.out.later xl) rfl rfl (by omega)) ⟨by rw [HO2.out], (by (with_reducible repeat first|exact HX5.out|exact eR _|apply eD|apply eN|apply eA|apply eO|apply eS|apply eC);all_goals first|omega|simp <;> omega)⟩
 ·have hlt : l.length - 1 < l.length := by omega
  have HOk := lh (HC.out.ok _ (List.getElem_mem hlt))
  obtain ⟨b, off, rfl, hb, kr⟩ := epr_at (HC.out.rd.on HX2.out) (l.length - 1) hlt
  have hps := (last_some (l := l) (by omega)).1
  generalize l[l.length - 1]'hlt = e at *
  have HN := lh (fun (W : World) (hx : Ext w W) => rename_any e W HOk.out.1 HOk.out.2.1 (HOk.out.2.2.on hx) (RowAt.ext HK.out hx))
  rw [← hps] at HN
  have hset := ep_prev_set (protoEp l s) (lastD l)
  rw [hpv] at hset
  have HSet := lh hset
  have hfe := ep_fits e
  have hfd : fitsRow 16 (dgC (lastD l)) = true := dg_fits _
  generalize lastD l = LD at *
  obtain ⟨n, hn⟩ : ∃ n, l.length = n + 1 := ⟨l.length - 1, by omega⟩
  have dl : decide (0 < l.length) = true := decide_eq_true (by omega)
  have dn : (l.length : Int) - 1 = (n : Int) := by omega
  have hbn : n < l.length := by omega
  rw [hn, Nat.add_sub_cancel] at kr
  clear hset hpv hps h0 hlt HC HK hn
  go_wp2_with (go_at_call 16; refine (show Hid _ from ?_).out)
  refine lh ?_
  refine (HN.out W2 HX2.out).mono ?_
  rintro r w3 ⟨rfl, hx3⟩
  have HX2b := lh (HX2.out.trans hx3)
  have HU0b := lh (HU02.out.ext hx3)
  have HU2b := lh (HU22.out.ext hx3)
  have HU3b := lh (HU32.out.ext hx3)
  have hs3 := hx3.size
  have hlb := HU3b.out.lt
  have mb : roomOf w3 g 1 16 = true := by rw [HU3b.out.room]; rfl
  clear hx3 HX2 HU02 HU22 HU32 kr HN
  go_upto_region 4 with (fail)
  refine wp_world (fun W => Ext w W ∧ RowAt W B (kyC k) ∧ RowAt W (B + 1 + 1) (isdC noEp 0) ∧ RowAt W g (epC (nextEp l s))) ⟨HX2b.out.setCells (by omega) _ _, HU0b.out.others (by omega) _ _, HU2b.out.others (by omega) _ _, ?_⟩ ?_
  ·have h := HU3b.out.sets 1 (dgC LD).toList
   rw [HSet.out] at h
   exact h
  clear HX2b HU0b HU2b HU3b mb HSet
  rintro W3 ⟨x3, u0, u2, u3⟩
  have HX3 := lh x3
  have HUk := lh u0
  have HUo := lh u2
  have HUe := lh u3
  clear x3 u0 u2 u3
  have k0 : rowOf W3 B 0 5 = some (kyC k) := HUk.out.all rfl (by omega)
  have k3 : rowOf W3 g 0 38 = some (epC (nextEp l s)) := HUe.out.all rfl (by omega)
  go_wp2_with (go_at_call 83; refine (show Hid _ from ?_).out)
  refine lh ?_
  refine (HSe.out W3 HX3.out).mono ?_
  rintro r w4 ⟨rfl, hx4⟩
  have HX4 := lh (HX3.out.trans hx4)
  have HU4o := lh (HUo.out.ext hx4)
  have HU4e := lh (HUe.out.ext hx4)
  have hl4 := HU4e.out.lt
  have m4 : roomOf w4 g 0 38 = true := by rw [HU4e.out.room]; rfl
  clear hx4 k0 k3 HX3 HUk HUo HUe
  go_upto_region 5 with (fail)
  refine wp_world (fun W => Ext w W ∧ RowAt W (B + 1 + 1) (isdC noEp 0) ∧ RowAt W g (epC z)) ⟨HX4.out.setCells (by omega) _ _, HU4o.out.others (by omega) _ _, RowAt.store HU4e.out (show (epC z).size = (epC (nextEp l s)).size from rfl)⟩ ?_
  rintro W5 ⟨x5, u2, u3⟩
  have HX5 := lh x5
  have HU5 := lh u2
  have HU5e := lh u3
  have k5 : rowOf W5 g 0 38 = some (epC z) := u3.all rfl (by omega)
  have hl5 := u3.lt
  clear x5 u2 u3 HX4 HU4o HU4e m4
  go_wp2_with (go_at_call 39; refine (show Hid _ from ?_).out)
  refine lh ?_
  refine (HFo.out W5 HX5.out).mono ?_
  rintro e w' ⟨rfl, hxl⟩; obtain ⟨xl, rfl⟩ := hxl.asLater; clear hxl
  have m5 : roomOf (later W5 xl) (B + 1 + 1) 0 39 = true := by rw [(HU5.out.later xl).room]; rfl
  by_cases e0 : E = 0
  ·have HO2 : Hid (OUT = isdC z 0) := lh (by rw [HO.out, if_pos e0])
   subst e0
   have hfo := isd_fits z 0
   go_wp2
   refine post_row isd_ty Tryz.results37 rfl rfl (RowAt.stored (n := 39) (ds := isdC z 0) (HU5.out.later xl) rfl rfl (by omega)) ⟨by rw [HO2.out], (by (with_reducible repeat first|exact HX5.out|exact eR _|apply eD|apply eN|apply eA|apply eO|apply eS|apply eC);all_goals first|omega|simp <;> omega)⟩
  ·have HO2 : Hid (OUT = isdC noEp E) := lh (by rw [HO.out, if_neg e0])
   have de : (E != 0) = true := by simpa using e0
   have hfo := isd_fits noEp E
   clear e0
   go_wp2
   refine post_row isd_ty Tryz.results37 rfl rfl (RowAt.stored (n := 39) (ds := isdC noEp E) (HU5.out.later xl) rfl rfl (by omega)) ⟨by rw [HO2.out], (by (with_reducible repeat first|exact HX5.out|exact eR _|apply eD|apply eN|apply eA|apply eO|apply eS|apply eC);all_goals first|omega|simp <;> omega)⟩
end
end Go.Proofs.YtpojnhikgjcgmaaGreatDoor

namespace Go.Proofs.YtpojnhikgjcgmaaGreatDoor
open Go.RowKit Go.Shelf Go.Maps
open Go.Proofs
theorem madeN_all {k : Ky} {ss : List Ep} (h100 : ss.length ≤ 100) : ∀ e ∈ madeN k ss, ∃ l s, s ∈ ss ∧ l.length ≤ 100 ∧ e = issueX k l s := by
 have key : ∀ n, n ≤ ss.length → ∀ e ∈ madeN k (ss.take n), ∃ l s, s ∈ ss ∧ l.length ≤ 100 ∧ e = issueX k l s := by
  intro n
  induction n with
  | zero => intro _ e he; rw [List.take_zero] at he; simp [madeN] at he
  | succ n ih =>
   intro hn e he
   rw [made_take k ss n (by omega)] at he
   split at he
   ·rw [List.mem_append, List.mem_singleton] at he
    rcases he with he | rfl
    ·exact ih (by omega) e he
    ·have h1 := made_len k (ss.take n)
     rw [List.length_take] at h1
     exact ⟨_, _, List.getElem_mem (by omega), by omega, rfl⟩
   ·exact ih (by omega) e he
 intro e he
 exact key ss.length (Nat.le_refl _) e (by rwa [List.take_length])
theorem madeN_ok {k : Ky} {ss : List Ep} {w : World} (hki : i64 k.serial) (h100 : ss.length ≤ 100) (h : ∀ s ∈ ss, EpOk s ∧ EpShort s ∧ EpAt w s) : ∀ e ∈ madeN k ss, EpOk e ∧ EpShort e ∧ EpAt w e := by
 intro e he
 obtain ⟨l, s, hs, hl, rfl⟩ := madeN_all h100 e he
 obtain ⟨h1, h2, h3⟩ := h s hs
 exact ⟨issueX_ok hki hl h1, issueX_short h2, issueX_at h3⟩
theorem owns_ch {base : Nat} {w : World} {A : Option Addr} {c : Nat} {l : List Ep} (h : OwnsEp base w A c l) (hb : ∀ e ∈ l, EpOk e ∧ EpShort e ∧ EpAt w e) : ChAt w A l := ⟨h.reads epE, hb⟩
def MadeOut (k : Ky) (ss : List Ep) (base : Nat) (r : Ending) (w' : World) : Prop := ∃ A c, r = .returned (.slice A (madeN k ss).length c) ∧ OwnsEp base w' A c (madeN k ss) ∧ ChAt w' A (madeN k ss)
theorem isdO_is (k : Ky) (l : List Ep) (s : Ep) : ∃ z2, isdO k l s = isdC z2 (issueE k l s) ∧ (issueE k l s = 0 → z2 = issueX k l s) := by
 unfold isdO
 by_cases h : issueE k l s = 0
 ·rw [if_pos h, h]
  exact ⟨_, rfl, fun _ => rfl⟩
 ·rw [if_neg h]
  exact ⟨_, rfl, fun h2 => absurd h2 h⟩
theorem made_any (k : Ky) (A : Option Addr) (c : Nat) (ss : List Ep) (w : World) (hs : k.secret.size ≤ 64) (hki : i64 k.serial) (hl : ss.length ≤ 100) (hc : ChAt w A ss) (hk : RKonst w) :
  Calls Tryz.prog 24 #[.agg (kyC k), .slice A ss.length c] w fun r w' => MadeOut k ss w.heap.size r w' ∧ Ext w w' := by
 have HC := lh hc
 have HIs := lh (fun (Ao : Option Addr) (co : Nat) (l : List Ep) (s : Ep) (W : World) (h100 : l.length ≤ 100) (ho : ChAt W Ao l) (h1 : EpOk s ∧ EpShort s ∧ EpAt w s) (hx : Ext w W) => rissue_any k Ao co l s W hs hki h100 ho h1.1 h1.2.1 (h1.2.2.on hx) (RowAt.ext hk hx))
 have HMk := lh (fun (n : Nat) (W : World) (hx : Ext w W) => madeN_ok (k := k) (ss := ss.take n) (w := W) hki (by rw [List.length_take]; omega) (fun s hs' => ⟨(hc.ok s (List.mem_of_mem_take hs')).1, (hc.ok s (List.mem_of_mem_take hs')).2.1, (hc.ok s (List.mem_of_mem_take hs')).2.2.on hx⟩))
 have HLn := lh (fun (n : Nat) => made_len k (ss.take n))
 have HT := lh (fun (n : Nat) (h : n < ss.length) => made_take k ss n h)
 have hfk := ky_fits k
 clear hc hk
 go_enter Tryz.func24, Tryz.ntmps24
 go_upto_region 1 with (fail)
 refine wp_world (fun W => Ext w W ∧ RowAt W w.heap.size (kyC k)) ⟨(by (with_reducible repeat first|exact eR _|apply eD|apply eN|apply eA|apply eO|apply eS|apply eC);all_goals first|omega|simp <;> omega), RowAt.new _ _ _⟩ ?_
 obtain ⟨B, hB⟩ : ∃ B, w.heap.size = B := ⟨_, rfl⟩
 rw [hB]
 rintro W1 ⟨x1, u0⟩
 have HX1 := lh x1
 have HU0 := lh u0
 have hl1 := u0.lt
 clear x1 u0
 go_wp2
 go_loopw [5, 6, 7] (fun o i _ wr => ∃ (n : Nat) (Ao : Option Addr) (co : Nat) (out : List Ep), n ≤ ss.length ∧ o = .slice Ao out.length co ∧ i = .int .i64 n ∧ Hid (out = madeN k (ss.take n)) ∧ Hid (OwnsEp W1.heap.size wr Ao co out) ∧ Hid (Ext W1 wr)) (fun _ i _ _ => ss.length - (intOf i).toNat)
 case atStart => exact ⟨0, none, 0, [], Nat.zero_le _, rfl, rfl, lh rfl, lh (Owns.nil _ _ _ _ _), lh (eR _)⟩
 case round =>
  obtain ⟨n, Ao, co, out, hn, rfl, rfl, HOu, HO, HX⟩ := hrel
  generalize hwA : wr = wA at *
  clear hwA
  have hsz := HX.out.size
  have HXa := lh (HX1.out.trans HX.out)
  by_cases hlt : n < ss.length
  ·obtain ⟨b, off, rfl, hb, kr⟩ := epr_at (HC.out.rd.on HXa.out) n hlt
   have HOk := lh (HC.out.ok _ (List.getElem_mem hlt))
   have HTk := HT.out n hlt
   rw [← HOu.out] at HTk
   have HT' := lh HTk
   have hol : out.length ≤ 100 := by
    have h := HLn.out n
    rw [← HOu.out, List.length_take] at h
    omega
   have HCo : Hid (ChAt wA Ao out) := lh (owns_ch HO.out (fun e he => HMk.out n wA HXa.out e (by rw [← HOu.out]; exact he)))
   generalize ss[n] = s at *
   have k0 : rowOf wA B 0 5 = some (kyC k) := (HU0.out.ext HX.out).all rfl (by omega)
   have kp : rowOf wA b (off + n * 38 + 17) 2 = some (pdC s.lo s.hi) := epr_pd kr
   have q19 : wA.cell? ⟨b, off + n * 38 + 19, none⟩ = some (.slice s.PA s.pu.length s.pc) := (rowOf_cell kr (i := 19) (by omega)).trans (ep_g19 s)
   have q20 : wA.cell? ⟨b, off + n * 38 + 20, none⟩ = some (.slice s.RA s.rv.length s.rc) := (rowOf_cell kr (i := 20) (by omega)).trans (ep_g20 s)
   have HIk := lh (fun (W : World) (hx : Ext wA W) => HIs.out Ao co out s W hol (HCo.out.on hx) HOk.out (HXa.out.trans hx))
   obtain ⟨z2, hOUT, hz2⟩ := isdO_is k out s
   rw [hOUT] at HIk
   have HZ2 := lh hz2
   clear hOUT hz2
   generalize issueE k out s = E at *
   generalize issueX k out s = z at *
   have hB2 : B < wA.heap.size := by omega
   have hfi := isd_fits z2 E
   clear HTk kr HMk HLn HT HIs HCo HOk
   go_upto_region 5 with (fail)
   refine wp_region_rowN 20 (by kernel_rfl) 18 19 (fun i => ([.agg (kyC k), .slice Ao out.length co, .slice (some ⟨b, off, none⟩) ss.length c, .int .i64 n, .pointer (some ⟨b, off + n * 38, none⟩), .pointer (some ⟨b, off + n * 38 + 17, none⟩), .agg (pdC s.lo s.hi), .slice (some ⟨b, off, none⟩) ss.length c, .int .i64 n, .pointer (some ⟨b, off + n * 38, none⟩), .pointer (some ⟨b, off + n * 38 + 19, none⟩), .slice s.PA s.pu.length s.pc, .slice (some ⟨b, off, none⟩) ss.length c, .int .i64 n, .pointer (some ⟨b, off + n * 38, none⟩), .pointer (some ⟨b, off + n * 38 + 20, none⟩), .slice s.RA s.rv.length s.rc, .agg (isdC z2 E), undef, undef] : List Value).getD i undef) (isdC z2 E) (by kernel_rfl) (by kernel_rfl) (by decide) (dk (by kernel_rfl)) (dk (by kernel_rfl)) (dk (by kernel_rfl)) (lt_cons ?_ (lt_cons ?_ (lt_cons ?_ (lt_cons ?_ (lt_cons ?_ (lt_cons ?_ (lt_cons ?_ (lt_cons ?_ (lt_cons ?_ (lt_cons ?_ (lt_cons ?_ (lt_cons ?_ (lt_cons ?_ (lt_cons ?_ (lt_cons ?_ (lt_cons ?_ (lt_cons ?_ (lt_cons ?_ (lt_cons ?_ (lt_cons ?_ (lt_none))))))))))))))))))))) ?_ ?_ ?_
   ·
    intro _ _
    refine sop rfl fun xs W HW hsW HD Q' HQ => ?_; simp only [fillAt, dstOf, lc0, lcs, obs, Act.put, lsa, lsz, lss, nz, Nat.reduceAdd] at HQ ⊢
    have hc := (row_extW HW.out (b := B) (by omega) 0 5).trans k0
    go_wp2
    exact HQ.out _ _ (eR _) rfl
   ·
    intro _ _
    refine sop rfl fun xs W HW hsW HD Q' HQ => ?_; simp only [fillAt, dstOf, lc0, lcs, obs, Act.put, lsa, lsz, lss, nz, Nat.reduceAdd] at HQ ⊢
    go_wp2
    exact HQ.out _ _ (eR _) rfl
   ·
    intro _ _
    refine sop rfl fun xs W HW hsW HD Q' HQ => ?_; simp only [fillAt, dstOf, lc0, lcs, obs, Act.put, lsa, lsz, lss, nz, Nat.reduceAdd] at HQ ⊢
    go_wp2
    exact HQ.out _ _ (eR _) rfl
   ·
    intro _ _
    refine sop rfl fun xs W HW hsW HD Q' HQ => ?_; simp only [fillAt, dstOf, lc0, lcs, obs, Act.put, lsa, lsz, lss, nz, Nat.reduceAdd] at HQ ⊢
    go_wp2
    exact HQ.out _ _ (eR _) rfl
   ·
    intro _ _
    refine sop rfl fun xs W HW hsW HD Q' HQ => ?_; simp only [fillAt, dstOf, lc0, lcs, obs, Act.put, lsa, lsz, lss, nz, Nat.reduceAdd] at HQ ⊢
    have hd2 : xs 2 = .slice (some ⟨b, off, none⟩) ss.length c := (HD.out 2 (dk (by kernel_rfl)))
    generalize xs 2 = x2 at hd2 HQ ⊢; subst hd2
    have hd3 : xs 3 = .int .i64 n := (HD.out 3 (dk (by kernel_rfl)))
    generalize xs 3 = x3 at hd3 HQ ⊢; subst hd3
    go_wp2
    exact HQ.out _ _ (eR _) rfl
   ·
    intro _ _
    refine sop rfl fun xs W HW hsW HD Q' HQ => ?_; simp only [fillAt, dstOf, lc0, lcs, obs, Act.put, lsa, lsz, lss, nz, Nat.reduceAdd] at HQ ⊢
    have hd4 : xs 4 = .pointer (some ⟨b, off + n * 38, none⟩) := (HD.out 4 (dk (by kernel_rfl)))
    generalize xs 4 = x4 at hd4 HQ ⊢; subst hd4
    go_wp2
    exact HQ.out _ _ (eR _) rfl
   ·
    intro _ _
    refine sop rfl fun xs W HW hsW HD Q' HQ => ?_; simp only [fillAt, dstOf, lc0, lcs, obs, Act.put, lsa, lsz, lss, nz, Nat.reduceAdd] at HQ ⊢
    have hd5 : xs 5 = .pointer (some ⟨b, off + n * 38 + 17, none⟩) := (HD.out 5 (dk (by kernel_rfl)))
    generalize xs 5 = x5 at hd5 HQ ⊢; subst hd5
    have hc := (row_extW HW.out (b := b) (by omega) (off+n*38+17) 2).trans kp
    go_wp2
    exact HQ.out _ _ (eR _) rfl
   ·
    intro _ _
    refine sop rfl fun xs W HW hsW HD Q' HQ => ?_; simp only [fillAt, dstOf, lc0, lcs, obs, Act.put, lsa, lsz, lss, nz, Nat.reduceAdd] at HQ ⊢
    go_wp2
    exact HQ.out _ _ (eR _) rfl
   ·
    intro _ _
    refine sop rfl fun xs W HW hsW HD Q' HQ => ?_; simp only [fillAt, dstOf, lc0, lcs, obs, Act.put, lsa, lsz, lss, nz, Nat.reduceAdd] at HQ ⊢
    go_wp2
    exact HQ.out _ _ (eR _) rfl
   ·
    intro _ _
    refine sop rfl fun xs W HW hsW HD Q' HQ => ?_; simp only [fillAt, dstOf, lc0, lcs, obs, Act.put, lsa, lsz, lss, nz, Nat.reduceAdd] at HQ ⊢
    have hd7 : xs 7 = .slice (some ⟨b, off, none⟩) ss.length c := (HD.out 7 (dk (by kernel_rfl)))
    generalize xs 7 = x7 at hd7 HQ ⊢; subst hd7
    have hd8 : xs 8 = .int .i64 n := (HD.out 8 (dk (by kernel_rfl)))
    generalize xs 8 = x8 at hd8 HQ ⊢; subst hd8
    go_wp2
    exact HQ.out _ _ (eR _) rfl
   ·
    intro _ _
    refine sop rfl fun xs W HW hsW HD Q' HQ => ?_; simp only [fillAt, dstOf, lc0, lcs, obs, Act.put, lsa, lsz, lss, nz, Nat.reduceAdd] at HQ ⊢
    have hd9 : xs 9 = .pointer (some ⟨b, off + n * 38, none⟩) := (HD.out 9 (dk (by kernel_rfl)))
    generalize xs 9 = x9 at hd9 HQ ⊢; subst hd9
    go_wp2
    exact HQ.out _ _ (eR _) rfl
   ·
    intro _ _
    refine sop rfl fun xs W HW hsW HD Q' HQ => ?_; simp only [fillAt, dstOf, lc0, lcs, obs, Act.put, lsa, lsz, lss, nz, Nat.reduceAdd] at HQ ⊢
    have hd10 : xs 10 = .pointer (some ⟨b, off + n * 38 + 19, none⟩) := (HD.out 10 (dk (by kernel_rfl)))
    generalize xs 10 = x10 at hd10 HQ ⊢; subst hd10
    have hc : W.cell? ⟨b, (off+n*38+19), none⟩ = some (.slice s.PA s.pu.length s.pc) := (HW.out.cell (p := ⟨b, (off+n*38+19), none⟩) (by show b < _; omega)).trans q19
    go_wp2
    exact HQ.out _ _ (eR _) rfl
   ·
    intro _ _
    refine sop rfl fun xs W HW hsW HD Q' HQ => ?_; simp only [fillAt, dstOf, lc0, lcs, obs, Act.put, lsa, lsz, lss, nz, Nat.reduceAdd] at HQ ⊢
    go_wp2
    exact HQ.out _ _ (eR _) rfl
   ·
    intro _ _
    refine sop rfl fun xs W HW hsW HD Q' HQ => ?_; simp only [fillAt, dstOf, lc0, lcs, obs, Act.put, lsa, lsz, lss, nz, Nat.reduceAdd] at HQ ⊢
    go_wp2
    exact HQ.out _ _ (eR _) rfl
   ·
    intro _ _
    refine sop rfl fun xs W HW hsW HD Q' HQ => ?_; simp only [fillAt, dstOf, lc0, lcs, obs, Act.put, lsa, lsz, lss, nz, Nat.reduceAdd] at HQ ⊢
    have hd12 : xs 12 = .slice (some ⟨b, off, none⟩) ss.length c := (HD.out 12 (dk (by kernel_rfl)))
    generalize xs 12 = x12 at hd12 HQ ⊢; subst hd12
    have hd13 : xs 13 = .int .i64 n := (HD.out 13 (dk (by kernel_rfl)))
    generalize xs 13 = x13 at hd13 HQ ⊢; subst hd13
    go_wp2
    exact HQ.out _ _ (eR _) rfl
   ·
    intro _ _
    refine sop rfl fun xs W HW hsW HD Q' HQ => ?_; simp only [fillAt, dstOf, lc0, lcs, obs, Act.put, lsa, lsz, lss, nz, Nat.reduceAdd] at HQ ⊢
    have hd14 : xs 14 = .pointer (some ⟨b, off + n * 38, none⟩) := (HD.out 14 (dk (by kernel_rfl)))
    generalize xs 14 = x14 at hd14 HQ ⊢; subst hd14
    go_wp2
    exact HQ.out _ _ (eR _) rfl
   ·
    intro _ _
    refine sop rfl fun xs W HW hsW HD Q' HQ => ?_; simp only [fillAt, dstOf, lc0, lcs, obs, Act.put, lsa, lsz, lss, nz, Nat.reduceAdd] at HQ ⊢
    have hd15 : xs 15 = .pointer (some ⟨b, off + n * 38 + 20, none⟩) := (HD.out 15 (dk (by kernel_rfl)))
    generalize xs 15 = x15 at hd15 HQ ⊢; subst hd15
    have hc : W.cell? ⟨b, (off+n*38+20), none⟩ = some (.slice s.RA s.rv.length s.rc) := (HW.out.cell (p := ⟨b, (off+n*38+20), none⟩) (by show b < _; omega)).trans q20
    go_wp2
    exact HQ.out _ _ (eR _) rfl
   ·
    intro _ _
    refine sop rfl fun xs W HW hsW HD Q' HQ => ?_; simp only [fillAt, dstOf, lc0, lcs, obs, Act.put, lsa, lsz, lss, nz, Nat.reduceAdd] at HQ ⊢
    have hd0 : xs 0 = .agg (kyC k) := (HD.out 0 (dk (by kernel_rfl)))
    generalize xs 0 = x0 at hd0 HQ ⊢; subst hd0
    have hd1 : xs 1 = .slice Ao out.length co := (HD.out 1 (dk (by kernel_rfl)))
    generalize xs 1 = x1 at hd1 HQ ⊢; subst hd1
    have hd6 : xs 6 = .agg (pdC s.lo s.hi) := (HD.out 6 (dk (by kernel_rfl)))
    generalize xs 6 = x6 at hd6 HQ ⊢; subst hd6
    have hd11 : xs 11 = .slice s.PA s.pu.length s.pc := (HD.out 11 (dk (by kernel_rfl)))
    generalize xs 11 = x11 at hd11 HQ ⊢; subst hd11
    have hd16 : xs 16 = .slice s.RA s.rv.length s.rc := (HD.out 16 (dk (by kernel_rfl)))
    generalize xs 16 = x16 at hd16 HQ ⊢; subst hd16
    go_wp2_with (go_at_call 37; refine (HIk.out _ HW.out).mono ?_; rintro e w1 ⟨rfl, hx⟩)
    exact HQ.out _ _ hx rfl
   ·exact fun h => absurd rfl h
   ·exact fun _ h => absurd rfl h
   ·
    refine sop rfl fun xs W HW hsW HD Q' HQ => ?_; simp only [fillAt, dstOf, lc0, lcs, obs, Act.put, lsa, lsz, lss, nz, Nat.reduceAdd] at HQ ⊢
    go_wp2
    exact HQ.out _ _ ((eR _).alloc _) ⟨W.heap.size, rfl, by omega, _, RowAt.new _ _ _, rfl⟩
   ·
    refine sop rfl fun xs W HW hsW HD Q' HQ => ?_; simp only [fillAt, dstOf, lc0, lcs, obs, Act.put, lsa, lsz, lss, nz, Nat.reduceAdd] at HQ ⊢
    have hdv : xs 17 = .agg (isdC z2 E) := (HD.out 17 (dk (by kernel_rfl)))
    obtain ⟨bb, hxa, hbb, ds, hrb, hzb⟩ : ∃ b, xs 18 = .pointer (some ⟨b, 0, none⟩) ∧ wA.heap.size ≤ b ∧ ∃ ds, RowAt W b ds ∧ ds.size = (isdC z2 E).size := (HD.out 18 (dk (by kernel_rfl)))
    have hrm : roomOf W bb 0 39 = true := by rw [hrb.room, hzb]; rfl
    generalize xs 17 = x17 at hdv HQ ⊢; subst hdv
    generalize xs 18 = x18 at hxa HQ ⊢; subst hxa
    clear hrb hzb
    go_wp2
    exact HQ.out undef bb rfl
   intro xs W5 R hW hxb hbaseR hrowR hvs
   simp only [fillAt, dstOf, lc0, lcs, obs, Act.put, lsa, lsz, lss, nz, Nat.reduceAdd]
   generalize xs 18 = xa at *; subst hxb
   have HW5 := lh (HX.out.trans hW)
   have HWW5 := lh hW
   have HRR := lh hrowR
   have hlR := hrowR.lt
   clear hW hvs hrowR k0 kp q19 q20
   have q38 : W5.cell? ⟨R, 38, none⟩ = some (.int .i64 E) := (HRR.out.cell 38).trans (isd_g38 z2 E)
   have hlr := HRR.out.lt
   have HO5 := lh (HO.out.ext HWW5.out)
   have hs5 := HWW5.out.size
   by_cases e0 : E = 0
   ·have HOk2 : Hid (madeN k (ss.take (n + 1)) = out ++ [z]) := lh (by rw [HT'.out, if_pos e0])
    have hzz := HZ2.out e0
    have de : (E == 0) = true := by simpa using e0
    have kz : rowOf W5 R 0 38 = some (epC z2) := by rw [HRR.out.row, if_neg (by omega), isd_ep]
    have hfz := ep_fits z2
    rw [← hzz] at HOk2
    clear e0 hzz HT' HZ2
    go_wp2_with (at_builtin; refine (show Hid _ from ?_).out)
    refine lh ?_
    refine app_reads epT epE rfl _ _ rfl W1.heap.size _ _ out rfl (HO5.out.ext ((eR _).alloc _)) _ _ _ [z2] rfl (reads_freshB epE [z2] W5 _ _ (by kernel_rfl) _ rfl) (fun h => by cases h) (by simp; omega) (by simp; omega) (by rw [World.size_alloc]; omega) ?_
    intro A9 c9 l9 w9 HL9 hO9 hB9 hl91 hl92 _
    have HO9 := lh hO9
    have HX9 : Hid (Ext W1 w9) := lh (Ext.grown ((HX.out.trans HWW5.out).alloc _) hB9 (Nat.le_refl _))
    have HL : Hid (l9 = madeN k (ss.take (n + 1))) := lh (by rw [HOk2.out]; exact HL9.out)
    clear hO9 hB9 hl91 hl92 HL9 HOk2 kz q38
    go_wp2
    go_roundw
    case rel => exact ⟨n + 1, A9, c9, l9, by omega, rfl, by go_num, HL, HO9, lh (by (with_reducible repeat first|exact HX9.out|exact eR _|apply eD|apply eN|apply eA|apply eO|apply eS|apply eC);all_goals first|omega|simp <;> omega)⟩
    case measure => simp [intOf]; omega
   ·have HOk2 : Hid (madeN k (ss.take (n + 1)) = out) := lh (by rw [HT'.out, if_neg e0])
    have de : (E == 0) = false := by simpa using e0
    clear e0 HT' HZ2
    go_wp2
    go_roundw
    case rel => exact ⟨n + 1, Ao, co, out, by omega, rfl, by go_num, lh HOk2.out.symm, HO5, lh (by (with_reducible repeat first|exact HX.out.trans HWW5.out|exact eR _|apply eD|apply eN|apply eA|apply eO|apply eS|apply eC);all_goals first|omega|simp <;> omega)⟩
    case measure => simp [intOf]; omega
  ·have HOe : Hid (out = madeN k ss) := lh (by have h := HOu.out; rwa [List.take_of_length_le (by omega)] at h)
   have HMe := lh (HMk.out ss.length wA HXa.out)
   go_wp2
   go_ret
   refine ⟨⟨Ao, co, ?_, ?_, ?_⟩, (by (with_reducible repeat first|exact HXa.out|exact eR _|apply eD|apply eN|apply eA|apply eO|apply eS|apply eC);all_goals first|omega|simp <;> omega)⟩
   ·rw [← HOe.out]; rfl
   ·rw [← HOe.out]; exact HO.out.lower (by have := HX1.out.size; omega)
   ·rw [← HOe.out]; exact owns_ch HO.out (fun e he => HMe.out e (by rw [List.take_length, ← HOe.out]; exact he))
end Go.Proofs.YtpojnhikgjcgmaaGreatDoor