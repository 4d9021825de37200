/- Entries and rules that came in, opened. -/
import Derived.WalkKit
import Derived.WalkSpells
import Derived.WalkLawsBesides
import Derived.Deep.QuietTactic
import Derived.BigQuiet
import Derived.Test.YtmgekdggahoboaaGreatDoorVOa
import Derived.Stop.BytesEq
set_option maxRecDepth 100000
set_option maxHeartbeats 64000000
set_option linter.unusedVariables false
set_option linter.unusedSimpArgs false
namespace Go.Proofs.YtmgekdggahoboaaGreatDoor
open Go.RowKit
open Go.Proofs
def rightB (s : St) : Bool :=
 decide (100 ≤ s.status) && decide (s.status ≤ 599) && decide (0 ≤ s.size) && decide (s.size ≤ 1099511627776) && decide (0 ≤ s.lo) && decide (s.lo ≤ s.hi) && decide (s.hi ≤ 1099511627776) &&
 decide (s.addr.size ≤ 4096) && decide (s.var.size ≤ 4096) && decide (s.tags.size ≤ 4096) && decide (0 ≤ s.gate) && decide (s.gate ≤ 1099511627776) && decide (0 ≤ s.serial) && decide (s.serial ≤ 1099511627776)
theorem rright_any (s : St) (w : World) (h1 : s.addr.size ≤ 9223372036854775807) (h2 : s.var.size ≤ 9223372036854775807) (h3 : s.tags.size ≤ 9223372036854775807) :
  Calls Tryz.prog 78 #[.agg (stmC s)] w fun e' w' => e' = .returned (.bool (rightB s)) ∧ Ext w w' := by
 go_enter Tryz.func78, Tryz.ntmps78
 go_wp2
 all_goals
  go_ret
  refine ⟨ret_bool ?_, (by (with_reducible repeat first|exact eR _|apply eD|apply eN|apply eA|apply eO|apply eS|apply eC);all_goals first|omega|simp <;> omega)⟩
  simp_all [rightB]
  try omega
def lightB (e : En) (n : Nat) : Bool :=
 decide (e.st.size ≤ 2000) && decide (e.bytes.size ≤ 2000) && decide (n ≤ 40) && decide (e.st.addr.size ≤ 500) && decide (e.st.var.size ≤ 500) && decide (e.st.tags.size ≤ 500)
theorem light_any (e : En) (A : Option Addr) (n c : Nat) (w : World) (hv : e.hv = .slice A n c) (h0 : e.bytes.size ≤ 9223372036854775807) (hn : n ≤ 9223372036854775807) (h1 : e.st.addr.size ≤ 9223372036854775807) (h2 : e.st.var.size ≤ 9223372036854775807) (h3 : e.st.tags.size ≤ 9223372036854775807) :
  Calls Tryz.prog 85 #[.agg (entC e)] w fun e' w' => e' = .returned (.bool (lightB e n)) ∧ Ext w w' := by
 go_enter Tryz.func85, Tryz.ntmps85
 go_wp2
 all_goals
  go_ret
  refine ⟨ret_bool ?_, (by (with_reducible repeat first|exact eR _|apply eD|apply eN|apply eA|apply eO|apply eS|apply eC);all_goals first|omega|simp <;> omega)⟩
  rw [Bool.eq_iff_iff]
  simp only [lightB, Bool.and_eq_true, decide_eq_true_eq, Bool.false_eq_true, false_iff]
  omega
end Go.Proofs.YtmgekdggahoboaaGreatDoor

namespace Go.Proofs.YtmgekdggahoboaaGreatDoor
open Go.RowKit
open Go.Proofs
open Go.Proofs.Sp (Sp)
theorem rfull_any (e : En) (A : Option Addr) (c : Nat) (l : List Sp) (w : World) (hv : e.hv = .slice A l.length c) (hl : l.length ≤ 140737488355328) (hn : e.st.size ≤ 1099511627776) (hr : ReadsSp w w.heap.size A l) :
  Calls Tryz.prog 81 #[.agg (entC e)] w fun e' w' => e' = .returned (.bool (fullB l e.st.size)) ∧ Ext w w' := by
 have HR := lh hr
 clear hr
 go_enter Tryz.func81, Tryz.ntmps81
 go_wp2
 go_loopw [3] (fun i wr => ∃ k : Nat, ((k : Int) ≤ e.st.size ∨ k = 0) ∧ i = .int .i64 k ∧ Ext w wr ∧ RowAt wr w.heap.size (entC e) ∧ Hid (∀ j : Nat, j < k → hasB l j = true)) (fun i _ => e.st.size.toNat - (intOf i).toNat)
 case atStart => exact ⟨0, .inr rfl, rfl, (eR _).alloc _, RowAt.new _ _ _, lh (fun j hj => absurd hj (Nat.not_lt_zero _))⟩
 case round =>
  obtain ⟨k, hk, rfl, hx, h1, HN⟩ := hrel
  have HX := lh hx
  have H1 := lh h1
  have c3 : wr.cell? ⟨w.heap.size, 3, none⟩ = some (.int .i64 e.st.size) := (h1.cell 3).trans (ent_g3 e)
  have c42 : wr.cell? ⟨w.heap.size, 42, none⟩ = some (.slice A l.length c) := (h1.cell 42).trans (by rw [ent_g42, hv])
  have hsz := h1.lt
  have HRw := lh ((HR.out.ext hx (Nat.le_refl _)).up hx.size)
  have HV := lh hv
  by_cases hlt : (k : Int) < e.st.size
  ·cases hf : hasB l k with
   | true =>
    have HF := lh hf
    have HN2 : Hid (∀ j : Nat, j < k + 1 → hasB l j = true) := lh (fun j hj => by
     by_cases ej : j = k
     ·rw [ej]; exact hf
     ·exact HN.out j (by omega))
    clear hx h1 hf hv
    go_wp2_with (go_at_call 80; refine (rhas_any A c l _ _ hl HRw.out).mono ?_; rw [HF.out]; rintro e w' ⟨rfl, hxl⟩; obtain ⟨xl, rfl⟩ := hxl.asLater; clear hxl)
    go_roundw
    case rel => exact ⟨k + 1, by omega, by go_num, (by (with_reducible repeat first|exact HX.out|exact eR _|apply eD|apply eN|apply eA|apply eO|apply eS|apply eC);all_goals first|omega|simp <;> omega), (by (repeat (first | with_reducible exact H1.out | with_reducible refine RowAt.drew ?_ | with_reducible refine RowAt.later ?_ _ | with_reducible exact RowAt.newAt (by first | rfl | omega | (simp [later_size, setCells_size]; done) | (simp [later_size, setCells_size]; omega)) | with_reducible refine RowAt.alloc ?_ _ | with_reducible apply RowAt.store | with_reducible refine RowAt.others ?_ ?_ _ _ | with_reducible refine RowAt.other ?_ ?_ _)); all_goals first | omega | (simp; done) | (simp; omega) | (simp [go_sem]; done)), HN2⟩
    case measure => simp [intOf]; omega
   | false =>
    have HF := lh hf
    have HG := lh (full_no hlt hf)
    clear hx h1 hf hv
    go_wp2_with (go_at_call 80; refine (rhas_any A c l _ _ hl HRw.out).mono ?_; rw [HF.out]; rintro e w' ⟨rfl, hxl⟩; obtain ⟨xl, rfl⟩ := hxl.asLater; clear hxl)
    go_ret
    exact ⟨ret_bool (by rw [HG.out]), (by (with_reducible repeat first|exact HX.out|exact eR _|apply eD|apply eN|apply eA|apply eO|apply eS|apply eC);all_goals first|omega|simp <;> omega)⟩
  ·have HG : Hid (fullB l e.st.size = true) := lh (full_yes (fun j hj => HN.out j (by omega)))
   clear hx h1 hv
   go_wp2
   go_ret
   exact ⟨ret_bool (by rw [HG.out]), HX.out⟩
end Go.Proofs.YtmgekdggahoboaaGreatDoor

namespace Go.Proofs.YtmgekdggahoboaaGreatDoor
open Go.RowKit
open Go.Proofs
def u8s (l : List Int) : List UInt8 := l.map fun n => UInt8.ofNat n.toNat
theorem u8s_cells {l : List Int} (h : Byt l) : ((u8s l).map Extern.Stop.cell).toArray = cells8 l := by
 unfold cells8 u8s
 congr 1
 rw [List.map_map]
 apply List.map_congr_left
 intro x hx
 have := h x hx
 simp [Extern.Stop.cell]
 omega
theorem u8s_inj : ∀ {a b : List Int}, Byt a → Byt b → u8s a = u8s b → a = b
 | [], [], _, _, _ => rfl
 | [], y :: b, _, _, h => by simp [u8s] at h
 | x :: a, [], _, _, h => by simp [u8s] at h
 | x :: a, y :: b, ha, hb, h => by
  simp only [u8s, List.map_cons, List.cons.injEq] at h
  have h1 := ha x (by simp)
  have h2 := hb y (by simp)
  have e : x = y := by
   have := congrArg UInt8.toNat h.1
   simp at this
   omega
  rw [e, u8s_inj (fun z hz => ha z (by simp [hz])) (fun z hz => hb z (by simp [hz])) h.2]
theorem u8s_beq {a b : List Int} (ha : Byt a) (hb : Byt b) : (u8s a == u8s b) = decide (a = b) := by
 by_cases e : a = b
 ·subst e; simp
 ·have : ¬ (u8s a = u8s b) := fun h => e (u8s_inj ha hb h)
  simp [e, this]
theorem eq_dig {a b : List Int} (ha : a.length = 16) (hb : b.length = 16) (ba : Byt a) (bb : Byt b) (W : World) : (binOp .eql 43 (.agg (cells8 a)) (.agg (dgC b))).run Tryz.prog W = .ok (.bool (decide (a = b))) W := by
 have := run_eql_bytes (P := Tryz.prog) W 43 5 16 (by kernel_rfl) (by kernel_rfl) u8_size (u8s a) (u8s b) (by simp [u8s, ha]) (by simp [u8s, hb])
 rw [u8s_cells ba, u8s_cells bb, u8s_beq ba bb] at this
 rw [dgC_cells hb]
 exact this
theorem neq_dig {a b : List Int} (ha : a.length = 16) (hb : b.length = 16) (ba : Byt a) (bb : Byt b) (W : World) : (binOp .neq 43 (.agg (cells8 a)) (.agg (dgC b))).run Tryz.prog W = .ok (.bool (!(decide (a = b)))) W := by
 have h := run_equalIn_bytes (P := Tryz.prog) W 9998 43 5 16 (by kernel_rfl) (by kernel_rfl) u8_size (u8s a) (u8s b) (by simp [u8s, ha]) (by simp [u8s, hb])
 rw [u8s_cells ba, u8s_cells bb, u8s_beq ba bb] at h
 rw [dgC_cells hb, run_neq_struct, h]
 rfl
theorem digest_length (t : Int) (l : List (List Int)) : (Wire.digest t l).length = 16 := by rw [Wire.digest, List.length_take, Sha.sha_length]; omega
theorem digest_byt (t : Int) (l : List (List Int)) : Byt (Wire.digest t l) := fun x hx => Sha.out_byte _ x (List.mem_of_mem_take hx)
end Go.Proofs.YtmgekdggahoboaaGreatDoor
namespace Go.Proofs.YtmgekdggahoboaaGreatDoor
open Go.RowKit
open Go.Proofs
open Go.Proofs.Sp (Sp)
def lastB (l : List Sp) (n : Int) : Bool := decide (l.length = 0) || decide ((l.getD (l.length - 1) (0, 0)).2 ≤ n)
def zeroAt (b : ByteArray) (l : List Sp) (k : Nat) : Bool := decide ((bts b).getD k 0 = 0) || hasB l k
def zeroB (b : ByteArray) (l : List Sp) : Bool := (List.range b.size).all (zeroAt b l)
def validB (e : En) (l : List Sp) : Bool :=
 rightB e.st && setB l && decide (e.st.size ≤ 65536) && decide ((e.bytes.size : Int) = e.st.size) && lastB l e.st.size && zeroB e.bytes l && (e.whole == fullB l e.st.size) && (!(fullB l e.st.size) || decide (Wire.digest 34 [bts e.bytes] = e.st.body))
theorem odigest_is (s : ByteArray) (D : List Int) (w : World) (hk : Konst 4 w) (hl : s.size ≤ 140737488351200) (h : Wire.digest 34 [bts s] = D) :
  Calls Tryz.prog 120 #[.string s] w fun e w' => e = .returned (.agg (cells8 D)) ∧ Ext w w' := by subst h; exact odigest_ok s w hk hl
theorem rdigest_is (s : ByteArray) (D : List Int) (w : World) (hk : RKonst w) (hl : s.size ≤ 140737488351200) (h : Wire.digest 34 [bts s] = D) :
  Calls Tryz.prog 82 #[.string s] w fun e w' => e = .returned (.agg (cells8 D)) ∧ Ext w w' := by subst h; exact rdigest_ok s w hk hl
theorem zeroB_no {b : ByteArray} {l : List Sp} {k : Nat} (h : k < b.size) (hf : zeroAt b l k = false) : zeroB b l = false := by
 cases e : zeroB b l with
 | false => rfl
 | true =>
  have := List.all_eq_true.1 e k (List.mem_range.2 h)
  rw [hf] at this
  cases this
theorem zeroB_yes {b : ByteArray} {l : List Sp} (h : ∀ j, j < b.size → zeroAt b l j = true) : zeroB b l = true := List.all_eq_true.2 (fun j hj => h j (List.mem_range.1 hj))
theorem rvalidE_any (e : En) (A : Option Addr) (c : Nat) (l : List Sp) (w : World) (hv : e.hv = .slice A l.length c) (hl : l.length ≤ 140737488355328) (h1 : e.st.addr.size ≤ 9223372036854775807) (h2 : e.st.var.size ≤ 9223372036854775807) (h3 : e.st.tags.size ≤ 9223372036854775807) (h4 : e.bytes.size ≤ 140737488351200)
  (hb : e.st.body.length = 16) (hby : Byt e.st.body) (hk : RKonst w) (hr : ReadsSp w w.heap.size A l) :
  Calls Tryz.prog 34 #[.agg (entC e)] w fun e' w' => e' = .returned (.bool (validB e l)) ∧ Ext w w' := by
 have HRd := lh hr
 have HK := lh hk
 have HB := lh hb
 have HBy := lh hby
 clear hr hk hb hby
 cases hrt : rightB e.st with
 | false =>
  have HRt := lh hrt
  have HV : Hid (validB e l = false) := lh (by simp [validB, hrt])
  clear hrt
  cases hst : setB l with
  | false =>
   have HSt := lh hst
   clear hst
   go_enter Tryz.func34, Tryz.ntmps34
   go_wp2_with (first
    | (go_at_call 78; refine (rright_any _ _ (by omega) (by omega) (by omega)).mono ?_; rw [HRt.out]; rintro e w' ⟨rfl, hxl⟩; obtain ⟨xl, rfl⟩ := hxl.asLater; clear hxl)
    | (go_at_call 79; refine (rvalid_any A c l _ hl (HRd.out.on (by (with_reducible repeat first|exact eR _|apply eD|apply eN|apply eA|apply eO|apply eS|apply eC);all_goals first|omega|simp <;> omega))).mono ?_; rw [HSt.out]; rintro e w' ⟨rfl, hxl⟩; obtain ⟨xl, rfl⟩ := hxl.asLater; clear hxl))
   go_ret
   exact ⟨ret_bool (by rw [HV.out]), (by (with_reducible repeat first|exact eR _|apply eD|apply eN|apply eA|apply eO|apply eS|apply eC);all_goals first|omega|simp <;> omega)⟩
  | true =>
   have HSt := lh hst
   clear hst
   go_enter Tryz.func34, Tryz.ntmps34
   go_wp2_with (first
    | (go_at_call 78; refine (rright_any _ _ (by omega) (by omega) (by omega)).mono ?_; rw [HRt.out]; rintro e w' ⟨rfl, hxl⟩; obtain ⟨xl, rfl⟩ := hxl.asLater; clear hxl)
    | (go_at_call 79; refine (rvalid_any A c l _ hl (HRd.out.on (by (with_reducible repeat first|exact eR _|apply eD|apply eN|apply eA|apply eO|apply eS|apply eC);all_goals first|omega|simp <;> omega))).mono ?_; rw [HSt.out]; rintro e w' ⟨rfl, hxl⟩; obtain ⟨xl, rfl⟩ := hxl.asLater; clear hxl))
   go_ret
   exact ⟨ret_bool (by rw [HV.out]), (by (with_reducible repeat first|exact eR _|apply eD|apply eN|apply eA|apply eO|apply eS|apply eC);all_goals first|omega|simp <;> omega)⟩
 | true =>
  have HRt := lh hrt
  cases hst : setB l with
  | false =>
   have HSt := lh hst
   have HV : Hid (validB e l = false) := lh (by simp [validB, hst])
   clear hst hrt
   go_enter Tryz.func34, Tryz.ntmps34
   go_wp2_with (first
    | (go_at_call 78; refine (rright_any _ _ (by omega) (by omega) (by omega)).mono ?_; rw [HRt.out]; rintro e w' ⟨rfl, hxl⟩; obtain ⟨xl, rfl⟩ := hxl.asLater; clear hxl)
    | (go_at_call 79; refine (rvalid_any A c l _ hl (HRd.out.on (by (with_reducible repeat first|exact eR _|apply eD|apply eN|apply eA|apply eO|apply eS|apply eC);all_goals first|omega|simp <;> omega))).mono ?_; rw [HSt.out]; rintro e w' ⟨rfl, hxl⟩; obtain ⟨xl, rfl⟩ := hxl.asLater; clear hxl))
   go_ret
   exact ⟨ret_bool (by rw [HV.out]), (by (with_reducible repeat first|exact eR _|apply eD|apply eN|apply eA|apply eO|apply eS|apply eC);all_goals first|omega|simp <;> omega)⟩
  | true =>
   have HSt := lh hst
   by_cases hs : 65536 < e.st.size
   ·have HV : Hid (validB e l = false) := lh (by simp [validB, hst, hrt]; omega)
    clear hst hrt
    go_enter Tryz.func34, Tryz.ntmps34
    go_wp2_with (first
     | (go_at_call 78; refine (rright_any _ _ (by omega) (by omega) (by omega)).mono ?_; rw [HRt.out]; rintro e w' ⟨rfl, hxl⟩; obtain ⟨xl, rfl⟩ := hxl.asLater; clear hxl)
     | (go_at_call 79; refine (rvalid_any A c l _ hl (HRd.out.on (by (with_reducible repeat first|exact eR _|apply eD|apply eN|apply eA|apply eO|apply eS|apply eC);all_goals first|omega|simp <;> omega))).mono ?_; rw [HSt.out]; rintro e w' ⟨rfl, hxl⟩; obtain ⟨xl, rfl⟩ := hxl.asLater; clear hxl))
    go_ret
    exact ⟨ret_bool (by rw [HV.out]), (by (with_reducible repeat first|exact eR _|apply eD|apply eN|apply eA|apply eO|apply eS|apply eC);all_goals first|omega|simp <;> omega)⟩
   ·by_cases hn : (e.bytes.size : Int) = e.st.size
    ·have HV0 : Hid (validB e l = (lastB l e.st.size && zeroB e.bytes l && (e.whole == fullB l e.st.size) && (!(fullB l e.st.size) || decide (Wire.digest 34 [bts e.bytes] = e.st.body)))) := lh (by
      have hs' : e.st.size ≤ 65536 := by omega
      simp [validB, hst, hrt, hn, hs'])
     have hne : ((e.bytes.size : Int) != e.st.size) = false := by rw [bne_eq_false_iff_eq]; exact hn
     have HN := lh hn
     clear hst hrt hn
     go_enter Tryz.func34, Tryz.ntmps34
     go_upto_region 5 with (first
      | (go_at_call 78; refine (rright_any _ _ (by omega) (by omega) (by omega)).mono ?_; rw [HRt.out]; rintro e w' ⟨rfl, hxl⟩; obtain ⟨xl, rfl⟩ := hxl.asLater; clear hxl)
      | (go_at_call 79; refine (rvalid_any A c l _ hl (HRd.out.on (by (with_reducible repeat first|exact eR _|apply eD|apply eN|apply eA|apply eO|apply eS|apply eC);all_goals first|omega|simp <;> omega))).mono ?_; rw [HSt.out]; rintro e w' ⟨rfl, hxl⟩; obtain ⟨xl, rfl⟩ := hxl.asLater; clear hxl))
     refine wp_world (fun W => Ext w W ∧ RowAt W w.heap.size (entC e)) ⟨(by (with_reducible repeat first|exact eR _|apply eD|apply eN|apply eA|apply eO|apply eS|apply eC);all_goals first|omega|simp <;> omega), (by (repeat (first | with_reducible exact rfl | with_reducible refine RowAt.drew ?_ | with_reducible refine RowAt.later ?_ _ | with_reducible exact RowAt.newAt (by first | rfl | omega | (simp [later_size, setCells_size]; done) | (simp [later_size, setCells_size]; omega)) | with_reducible refine RowAt.alloc ?_ _ | with_reducible apply RowAt.store | with_reducible refine RowAt.others ?_ ?_ _ _ | with_reducible refine RowAt.other ?_ ?_ _)); all_goals first | omega | (simp; done) | (simp; omega) | (simp [go_sem]; done))⟩ ?_
     rintro W ⟨hx, h5⟩
     have HX := lh hx
     have H5 := lh h5
     have c42 : W.cell? ⟨w.heap.size, 42, none⟩ = some (.slice A l.length c) := (h5.cell 42).trans (by rw [ent_g42, hv])
     have c3 : W.cell? ⟨w.heap.size, 3, none⟩ = some (.int .i64 e.st.size) := (h5.cell 3).trans (ent_g3 e)
     have hszW := h5.lt
     have HHV := lh hv
     clear hne
     by_cases h0 : l.length = 0
     ·have hlf : lastB l e.st.size = true := by
       simp only [lastB, Bool.or_eq_true, decide_eq_true_eq]
       exact .inl h0
      rw [hlf, Bool.true_and] at HV0
      have d0 : decide (0 < l.length) = false := by simp only [decide_eq_false_iff_not]; omega
      have d1 : decide (0 < (l.length : Int)) = false := by simp only [decide_eq_false_iff_not]; omega
      have hl0 : l.length ≤ 0 := by omega
      clear h5 hv h0 hlf
      refine wp_region_later (by kernel_rfl) (by kernel_rfl) ?_
      repeat (first | go_big_quiet_step (fail) | quiet_step (fail))
      refine wpQuiet_nil ?_
      rintro _ ⟨xq, rfl⟩
      go_wp2
      clear d0 d1
      refine wp_world (fun W2 => Ext w W2 ∧ RowAt W2 w.heap.size (entC e)) ⟨(by (with_reducible repeat first|exact HX.out|exact eR _|apply eD|apply eN|apply eA|apply eO|apply eS|apply eC);all_goals first|omega|simp <;> omega), (by (repeat (first | with_reducible exact H5.out | with_reducible refine RowAt.drew ?_ | with_reducible refine RowAt.later ?_ _ | with_reducible exact RowAt.newAt (by first | rfl | omega | (simp [later_size, setCells_size]; done) | (simp [later_size, setCells_size]; omega)) | with_reducible refine RowAt.alloc ?_ _ | with_reducible apply RowAt.store | with_reducible refine RowAt.others ?_ ?_ _ _ | with_reducible refine RowAt.other ?_ ?_ _)); all_goals first | omega | (simp; done) | (simp; omega) | (simp [go_sem]; done))⟩ ?_
      rintro W2 ⟨hx2, h52⟩
      have HX2 := lh hx2
      have H52 := lh h52
      clear hx2 h52 c42 c3 hszW
      go_loopw [5] (fun i wr => ∃ k : Nat, k ≤ e.bytes.size ∧ i = .int .i64 k ∧ Ext w wr ∧ RowAt wr w.heap.size (entC e) ∧ Hid (∀ j, j < k → zeroAt e.bytes l j = true)) (fun i _ => e.bytes.size - (intOf i).toNat)
      case atStart => exact ⟨0, Nat.zero_le _, rfl, HX2.out, H52.out, lh (fun j hj => absurd hj (Nat.not_lt_zero _))⟩
      case round =>
       obtain ⟨k, hk, rfl, hx, h5, HZ⟩ := hrel
       have HXr := lh hx
       have H5r := lh h5
       have c42 : wr.cell? ⟨w.heap.size, 42, none⟩ = some (.slice A l.length c) := (h5.cell 42).trans (by rw [ent_g42, HHV.out])
       have c43 : wr.cell? ⟨w.heap.size, 43, none⟩ = some (.string e.bytes) := (h5.cell 43).trans (ent_g43 e)
       have hszr := h5.lt
       have HRw := lh ((HRd.out.ext hx (Nat.le_refl _)).up hx.size)
       by_cases hlt : k < e.bytes.size
       ·have hbt := bts_get e.bytes k hlt
        have HZY : Hid (zeroAt e.bytes l k = true → ∀ j, j < k + 1 → zeroAt e.bytes l j = true) := lh (fun h j hj => by
         by_cases ej : j = k
         ·rw [ej]; exact h
         ·exact HZ.out j (by omega))
        have HZN : Hid (zeroAt e.bytes l k = false → zeroB e.bytes l = false) := lh (zeroB_no hlt)
        by_cases hz : (e.bytes[k].toNat : Int) = 0
        ·have HY := lh (HZY.out (by rw [zeroAt, hbt, hz]; rfl))
         have hne : ((e.bytes[k].toNat : Int) != 0) = false := by rw [bne_eq_false_iff_eq]; exact hz
         clear hx h5 hbt hz
         go_wp2
         go_roundw
         case rel => exact ⟨k + 1, by omega, by go_num, HXr.out, H5r.out, HY⟩
         case measure => simp [intOf]; omega
        ·have hne : ((e.bytes[k].toNat : Int) != 0) = true := by rw [bne_iff_ne]; exact hz
         cases hh : hasB l k with
         | true =>
          have HF := lh hh
          have HY := lh (HZY.out (by rw [zeroAt, hh, Bool.or_true]))
          clear hx h5 hbt hz hh
          go_wp2_with (go_at_call 80; refine (rhas_any A c l _ _ hl HRw.out).mono ?_; rw [HF.out]; rintro e w' ⟨rfl, hxl⟩; obtain ⟨xl, rfl⟩ := hxl.asLater; clear hxl)
          go_roundw
          case rel => exact ⟨k + 1, by omega, by go_num, (by (with_reducible repeat first|exact HXr.out|exact eR _|apply eD|apply eN|apply eA|apply eO|apply eS|apply eC);all_goals first|omega|simp <;> omega), (by (repeat (first | with_reducible exact H5r.out | with_reducible refine RowAt.drew ?_ | with_reducible refine RowAt.later ?_ _ | with_reducible exact RowAt.newAt (by first | rfl | omega | (simp [later_size, setCells_size]; done) | (simp [later_size, setCells_size]; omega)) | with_reducible refine RowAt.alloc ?_ _ | with_reducible apply RowAt.store | with_reducible refine RowAt.others ?_ ?_ _ _ | with_reducible refine RowAt.other ?_ ?_ _)); all_goals first | omega | (simp; done) | (simp; omega) | (simp [go_sem]; done)), HY⟩
          case measure => simp [intOf]; omega
         | false =>
          have HF := lh hh
          have HV : Hid (validB e l = false) := lh (by
           have hzf := HZN.out (by rw [zeroAt, hh, hbt]; simp; omega)
           rw [HV0.out, hzf, Bool.false_and, Bool.false_and])
          clear hx h5 hbt hz hh
          go_wp2_with (go_at_call 80; refine (rhas_any A c l _ _ hl HRw.out).mono ?_; rw [HF.out]; rintro e w' ⟨rfl, hxl⟩; obtain ⟨xl, rfl⟩ := hxl.asLater; clear hxl)
          go_ret
          exact ⟨ret_bool (by rw [HV.out]), (by (with_reducible repeat first|exact HXr.out|exact eR _|apply eD|apply eN|apply eA|apply eO|apply eS|apply eC);all_goals first|omega|simp <;> omega)⟩
       ·have HV1 : Hid (validB e l = ((e.whole == fullB l e.st.size) && (!(fullB l e.st.size) || decide (Wire.digest 34 [bts e.bytes] = e.st.body)))) := lh (by
         rw [HV0.out, zeroB_yes (fun j hj => HZ.out j (by omega)), Bool.true_and])
        have hrow : rowOf wr w.heap.size 0 45 = some (entC e) := h5.all (ent_size e).symm (by omega)
        have c44 : wr.cell? ⟨w.heap.size, 44, none⟩ = some (.bool e.whole) := (h5.cell 44).trans (ent_g44 e)
        have HRL := lh ((HRd.out.ext hx (Nat.le_refl _)).up hx.size)
        cases hfu : fullB l e.st.size with
        | false =>
         have HFu := lh hfu
         cases hw : e.whole with
         | true =>
          have HV : Hid (validB e l = false) := lh (by rw [HV1.out, hfu, hw]; rfl)
          rw [hw] at c44
          clear hx h5 hfu hw
          go_wp2_with (go_at_call 81; refine (rfull_any e A c l _ HHV.out hl (by omega) HRL.out).mono ?_; rw [HFu.out]; rintro e w' ⟨rfl, hxl⟩; obtain ⟨xl, rfl⟩ := hxl.asLater; clear hxl)
          go_ret
          exact ⟨ret_bool (by rw [HV.out]), (by (with_reducible repeat first|exact HXr.out|exact eR _|apply eD|apply eN|apply eA|apply eO|apply eS|apply eC);all_goals first|omega|simp <;> omega)⟩
         | false =>
          have HV : Hid (validB e l = true) := lh (by rw [HV1.out, hfu, hw]; rfl)
          rw [hw] at c44
          clear hx h5 hfu hw
          go_wp2_with (go_at_call 81; refine (rfull_any e A c l _ HHV.out hl (by omega) HRL.out).mono ?_; rw [HFu.out]; rintro e w' ⟨rfl, hxl⟩; obtain ⟨xl, rfl⟩ := hxl.asLater; clear hxl)
          refine wp_region_later (by kernel_rfl) (by kernel_rfl) ?_
          repeat (first | go_big_quiet_step (fail) | quiet_step (fail))
          refine wpQuiet_nil ?_
          rintro _ ⟨xq, rfl⟩
          go_wp2
          go_ret
          exact ⟨ret_bool (by rw [HV.out]), (by (with_reducible repeat first|exact HXr.out|exact eR _|apply eD|apply eN|apply eA|apply eO|apply eS|apply eC);all_goals first|omega|simp <;> omega)⟩
        | true =>
         have HFu := lh hfu
         cases hw : e.whole with
         | false =>
          have HV : Hid (validB e l = false) := lh (by rw [HV1.out, hfu, hw]; rfl)
          rw [hw] at c44
          clear hx h5 hfu hw
          go_wp2_with (go_at_call 81; refine (rfull_any e A c l _ HHV.out hl (by omega) HRL.out).mono ?_; rw [HFu.out]; rintro e w' ⟨rfl, hxl⟩; obtain ⟨xl, rfl⟩ := hxl.asLater; clear hxl)
          go_ret
          exact ⟨ret_bool (by rw [HV.out]), (by (with_reducible repeat first|exact HXr.out|exact eR _|apply eD|apply eN|apply eA|apply eO|apply eS|apply eC);all_goals first|omega|simp <;> omega)⟩
         | true =>
          have HV : Hid (validB e l = decide (Wire.digest 34 [bts e.bytes] = e.st.body)) := lh (by rw [HV1.out, hfu, hw]; rfl)
          rw [hw] at c44
          have hq := eq_dig (digest_length 34 [bts e.bytes]) HB.out (digest_byt 34 [bts e.bytes]) HBy.out
          have hbd : rowOf wr w.heap.size 4 16 = some (dgC e.st.body) := by rw [h5.row, if_neg (by omega), ent_body]
          have HKr : Hid (RKonst wr) := lh (HK.out.ext hx)
          clear hx h5 hfu hw
          go_wp2_with (go_at_call 81; refine (rfull_any e A c l _ HHV.out hl (by omega) HRL.out).mono ?_; rw [HFu.out]; rintro e w' ⟨rfl, hxl⟩; obtain ⟨xl, rfl⟩ := hxl.asLater; clear hxl)
          generalize hDD : Wire.digest 34 [bts e.bytes] = D at *
          have HDD := lh hDD
          clear hDD
          refine wp_region_later (by kernel_rfl) (by kernel_rfl) ?_
          repeat (first | go_big_quiet_step ((go_at_call 82; exact quietE (rdigest_is e.bytes D _ (RowAt.ext HKr.out (by exact ((eR _).onto _).onto _)) h4 HDD.out))) | quiet_step ((go_at_call 82; exact quietE (rdigest_is e.bytes D _ (RowAt.ext HKr.out (by exact ((eR _).onto _).onto _)) h4 HDD.out))))
          refine wpQuiet_nil ?_
          rintro _ ⟨xq, rfl⟩
          go_wp2
          go_ret
          exact ⟨ret_bool (by rw [HV.out]), (by (with_reducible repeat first|exact HXr.out|exact eR _|apply eD|apply eN|apply eA|apply eO|apply eS|apply eC);all_goals first|omega|simp <;> omega)⟩
     ·obtain ⟨b, off, rfl, hbb, _, cl⟩ := ReadsSp.cell (HRd.out.ext hx (Nat.le_refl _)) (l.length - 1) (by omega)
      have hgl : l.getD (l.length - 1) (0, 0) = l[l.length - 1] := by simp [show l.length - 1 < l.length by omega]
      have hp0 : 0 < l.length := by omega
      by_cases hla : e.st.size < l[l.length - 1].2
      ·have hlf : lastB l e.st.size = false := by
        simp only [lastB, hgl, Bool.or_eq_false_iff, decide_eq_false_iff_not]
        exact ⟨h0, by omega⟩
       have HV : Hid (validB e l = false) := lh (by rw [HV0.out, hlf, Bool.false_and, Bool.false_and, Bool.false_and])
       clear hlf
       generalize l[l.length - 1] = s at *
       clear hx h5 hv hgl h0
       refine wp_region_later (by kernel_rfl) (by kernel_rfl) ?_
       repeat (first | go_big_quiet_step (fail) | quiet_step (fail))
       refine wpQuiet_nil ?_
       rintro _ ⟨xq, rfl⟩
       go_wp2
       go_ret
       exact ⟨ret_bool (by rw [HV.out]), (by (with_reducible repeat first|exact HX.out|exact eR _|apply eD|apply eN|apply eA|apply eO|apply eS|apply eC);all_goals first|omega|simp <;> omega)⟩
      ·have hlf : lastB l e.st.size = true := by
        simp only [lastB, hgl, Bool.or_eq_true, decide_eq_true_eq]
        exact .inr (by omega)
       rw [hlf, Bool.true_and] at HV0
       generalize l[l.length - 1] = s at *
       clear h5 hv hgl h0 hlf
       refine wp_region_later (by kernel_rfl) (by kernel_rfl) ?_
       repeat (first | go_big_quiet_step (fail) | quiet_step (fail))
       refine wpQuiet_nil ?_
       rintro _ ⟨xq, rfl⟩
       go_wp2
       refine wp_world (fun W2 => Ext w W2 ∧ RowAt W2 w.heap.size (entC e)) ⟨(by (with_reducible repeat first|exact HX.out|exact eR _|apply eD|apply eN|apply eA|apply eO|apply eS|apply eC);all_goals first|omega|simp <;> omega), (by (repeat (first | with_reducible exact H5.out | with_reducible refine RowAt.drew ?_ | with_reducible refine RowAt.later ?_ _ | with_reducible exact RowAt.newAt (by first | rfl | omega | (simp [later_size, setCells_size]; done) | (simp [later_size, setCells_size]; omega)) | with_reducible refine RowAt.alloc ?_ _ | with_reducible apply RowAt.store | with_reducible refine RowAt.others ?_ ?_ _ _ | with_reducible refine RowAt.other ?_ ?_ _)); all_goals first | omega | (simp; done) | (simp; omega) | (simp [go_sem]; done))⟩ ?_
       rintro W2 ⟨hx2, h52⟩
       have HX2 := lh hx2
       have H52 := lh h52
       clear hx2 h52 c42 c3 hszW
       go_loopw [5] (fun i wr => ∃ k : Nat, k ≤ e.bytes.size ∧ i = .int .i64 k ∧ Ext w wr ∧ RowAt wr w.heap.size (entC e) ∧ Hid (∀ j, j < k → zeroAt e.bytes l j = true)) (fun i _ => e.bytes.size - (intOf i).toNat)
       case atStart => exact ⟨0, Nat.zero_le _, rfl, HX2.out, H52.out, lh (fun j hj => absurd hj (Nat.not_lt_zero _))⟩
       case round =>
        obtain ⟨k, hk, rfl, hx, h5, HZ⟩ := hrel
        have HXr := lh hx
        have H5r := lh h5
        have c42 : wr.cell? ⟨w.heap.size, 42, none⟩ = some (.slice (some ⟨b, off, none⟩) l.length c) := (h5.cell 42).trans (by rw [ent_g42, HHV.out])
        have c43 : wr.cell? ⟨w.heap.size, 43, none⟩ = some (.string e.bytes) := (h5.cell 43).trans (ent_g43 e)
        have hszr := h5.lt
        have HRw := lh ((HRd.out.ext hx (Nat.le_refl _)).up hx.size)
        by_cases hlt : k < e.bytes.size
        ·have hbt := bts_get e.bytes k hlt
         have HZY : Hid (zeroAt e.bytes l k = true → ∀ j, j < k + 1 → zeroAt e.bytes l j = true) := lh (fun h j hj => by
          by_cases ej : j = k
          ·rw [ej]; exact h
          ·exact HZ.out j (by omega))
         have HZN : Hid (zeroAt e.bytes l k = false → zeroB e.bytes l = false) := lh (zeroB_no hlt)
         by_cases hz : (e.bytes[k].toNat : Int) = 0
         ·have HY := lh (HZY.out (by rw [zeroAt, hbt, hz]; rfl))
          have hne : ((e.bytes[k].toNat : Int) != 0) = false := by rw [bne_eq_false_iff_eq]; exact hz
          clear hx h5 hbt hz
          go_wp2
          go_roundw
          case rel => exact ⟨k + 1, by omega, by go_num, HXr.out, H5r.out, HY⟩
          case measure => simp [intOf]; omega
         ·have hne : ((e.bytes[k].toNat : Int) != 0) = true := by rw [bne_iff_ne]; exact hz
          cases hh : hasB l k with
          | true =>
           have HF := lh hh
           have HY := lh (HZY.out (by rw [zeroAt, hh, Bool.or_true]))
           clear hx h5 hbt hz hh
           go_wp2_with (go_at_call 80; refine (rhas_any (some ⟨b, off, none⟩) c l _ _ hl HRw.out).mono ?_; rw [HF.out]; rintro e w' ⟨rfl, hxl⟩; obtain ⟨xl, rfl⟩ := hxl.asLater; clear hxl)
           go_roundw
           case rel => exact ⟨k + 1, by omega, by go_num, (by (with_reducible repeat first|exact HXr.out|exact eR _|apply eD|apply eN|apply eA|apply eO|apply eS|apply eC);all_goals first|omega|simp <;> omega), (by (repeat (first | with_reducible exact H5r.out | with_reducible refine RowAt.drew ?_ | with_reducible refine RowAt.later ?_ _ | with_reducible exact RowAt.newAt (by first | rfl | omega | (simp [later_size, setCells_size]; done) | (simp [later_size, setCells_size]; omega)) | with_reducible refine RowAt.alloc ?_ _ | with_reducible apply RowAt.store | with_reducible refine RowAt.others ?_ ?_ _ _ | with_reducible refine RowAt.other ?_ ?_ _)); all_goals first | omega | (simp; done) | (simp; omega) | (simp [go_sem]; done)), HY⟩
           case measure => simp [intOf]; omega
          | false =>
           have HF := lh hh
           have HV : Hid (validB e l = false) := lh (by
            have hzf := HZN.out (by rw [zeroAt, hh, hbt]; simp; omega)
            rw [HV0.out, hzf, Bool.false_and, Bool.false_and])
           clear hx h5 hbt hz hh
           go_wp2_with (go_at_call 80; refine (rhas_any (some ⟨b, off, none⟩) c l _ _ hl HRw.out).mono ?_; rw [HF.out]; rintro e w' ⟨rfl, hxl⟩; obtain ⟨xl, rfl⟩ := hxl.asLater; clear hxl)
           go_ret
           exact ⟨ret_bool (by rw [HV.out]), (by (with_reducible repeat first|exact HXr.out|exact eR _|apply eD|apply eN|apply eA|apply eO|apply eS|apply eC);all_goals first|omega|simp <;> omega)⟩
        ·have HV1 : Hid (validB e l = ((e.whole == fullB l e.st.size) && (!(fullB l e.st.size) || decide (Wire.digest 34 [bts e.bytes] = e.st.body)))) := lh (by
          rw [HV0.out, zeroB_yes (fun j hj => HZ.out j (by omega)), Bool.true_and])
         have hrow : rowOf wr w.heap.size 0 45 = some (entC e) := h5.all (ent_size e).symm (by omega)
         have c44 : wr.cell? ⟨w.heap.size, 44, none⟩ = some (.bool e.whole) := (h5.cell 44).trans (ent_g44 e)
         have HRL := lh ((HRd.out.ext hx (Nat.le_refl _)).up hx.size)
         cases hfu : fullB l e.st.size with
         | false =>
          have HFu := lh hfu
          cases hw : e.whole with
          | true =>
           have HV : Hid (validB e l = false) := lh (by rw [HV1.out, hfu, hw]; rfl)
           rw [hw] at c44
           clear hx h5 hfu hw
           go_wp2_with (go_at_call 81; refine (rfull_any e (some ⟨b, off, none⟩) c l _ HHV.out hl (by omega) HRL.out).mono ?_; rw [HFu.out]; rintro e w' ⟨rfl, hxl⟩; obtain ⟨xl, rfl⟩ := hxl.asLater; clear hxl)
           go_ret
           exact ⟨ret_bool (by rw [HV.out]), (by (with_reducible repeat first|exact HXr.out|exact eR _|apply eD|apply eN|apply eA|apply eO|apply eS|apply eC);all_goals first|omega|simp <;> omega)⟩
          | false =>
           have HV : Hid (validB e l = true) := lh (by rw [HV1.out, hfu, hw]; rfl)
           rw [hw] at c44
           clear hx h5 hfu hw
           go_wp2_with (go_at_call 81; refine (rfull_any e (some ⟨b, off, none⟩) c l _ HHV.out hl (by omega) HRL.out).mono ?_; rw [HFu.out]; rintro e w' ⟨rfl, hxl⟩; obtain ⟨xl, rfl⟩ := hxl.asLater; clear hxl)
           refine wp_region_later (by kernel_rfl) (by kernel_rfl) ?_
           repeat (first | go_big_quiet_step (fail) | quiet_step (fail))
           refine wpQuiet_nil ?_
           rintro _ ⟨xq, rfl⟩
           go_wp2
           go_ret
           exact ⟨ret_bool (by rw [HV.out]), (by (with_reducible repeat first|exact HXr.out|exact eR _|apply eD|apply eN|apply eA|apply eO|apply eS|apply eC);all_goals first|omega|simp <;> omega)⟩
         | true =>
          have HFu := lh hfu
          cases hw : e.whole with
          | false =>
           have HV : Hid (validB e l = false) := lh (by rw [HV1.out, hfu, hw]; rfl)
           rw [hw] at c44
           clear hx h5 hfu hw
           go_wp2_with (go_at_call 81; refine (rfull_any e (some ⟨b, off, none⟩) c l _ HHV.out hl (by omega) HRL.out).mono ?_; rw [HFu.out]; rintro e w' ⟨rfl, hxl⟩; obtain ⟨xl, rfl⟩ := hxl.asLater; clear hxl)
           go_ret
           exact ⟨ret_bool (by rw [HV.out]), (by (with_reducible repeat first|exact HXr.out|exact eR _|apply eD|apply eN|apply eA|apply eO|apply eS|apply eC);all_goals first|omega|simp <;> omega)⟩
          | true =>
           have HV : Hid (validB e l = decide (Wire.digest 34 [bts e.bytes] = e.st.body)) := lh (by rw [HV1.out, hfu, hw]; rfl)
           rw [hw] at c44
           have hq := eq_dig (digest_length 34 [bts e.bytes]) HB.out (digest_byt 34 [bts e.bytes]) HBy.out
           have hbd : rowOf wr w.heap.size 4 16 = some (dgC e.st.body) := by rw [h5.row, if_neg (by omega), ent_body]
           have HKr : Hid (RKonst wr) := lh (HK.out.ext hx)
           clear hx h5 hfu hw
           go_wp2_with (go_at_call 81; refine (rfull_any e (some ⟨b, off, none⟩) c l _ HHV.out hl (by omega) HRL.out).mono ?_; rw [HFu.out]; rintro e w' ⟨rfl, hxl⟩; obtain ⟨xl, rfl⟩ := hxl.asLater; clear hxl)
           generalize hDD : Wire.digest 34 [bts e.bytes] = D at *
           have HDD := lh hDD
           clear hDD
           refine wp_region_later (by kernel_rfl) (by kernel_rfl) ?_
           repeat (first | go_big_quiet_step ((go_at_call 82; exact quietE (rdigest_is e.bytes D _ (RowAt.ext HKr.out (by exact ((eR _).onto _).onto _)) h4 HDD.out))) | quiet_step ((go_at_call 82; exact quietE (rdigest_is e.bytes D _ (RowAt.ext HKr.out (by exact ((eR _).onto _).onto _)) h4 HDD.out))))
           refine wpQuiet_nil ?_
           rintro _ ⟨xq, rfl⟩
           go_wp2
           go_ret
           exact ⟨ret_bool (by rw [HV.out]), (by (with_reducible repeat first|exact HXr.out|exact eR _|apply eD|apply eN|apply eA|apply eO|apply eS|apply eC);all_goals first|omega|simp <;> omega)⟩
    ·have HV : Hid (validB e l = false) := lh (by simp [validB, hst, hrt, hn])
     have hne : ((e.bytes.size : Int) != e.st.size) = true := by rw [bne_iff_ne]; exact hn
     clear hst hrt hn
     go_enter Tryz.func34, Tryz.ntmps34
     go_wp2_with (first
      | (go_at_call 78; refine (rright_any _ _ (by omega) (by omega) (by omega)).mono ?_; rw [HRt.out]; rintro e w' ⟨rfl, hxl⟩; obtain ⟨xl, rfl⟩ := hxl.asLater; clear hxl)
      | (go_at_call 79; refine (rvalid_any A c l _ hl (HRd.out.on (by (with_reducible repeat first|exact eR _|apply eD|apply eN|apply eA|apply eO|apply eS|apply eC);all_goals first|omega|simp <;> omega))).mono ?_; rw [HSt.out]; rintro e w' ⟨rfl, hxl⟩; obtain ⟨xl, rfl⟩ := hxl.asLater; clear hxl))
     go_ret
     exact ⟨ret_bool (by rw [HV.out]), (by (with_reducible repeat first|exact eR _|apply eD|apply eN|apply eA|apply eO|apply eS|apply eC);all_goals first|omega|simp <;> omega)⟩
end Go.Proofs.YtmgekdggahoboaaGreatDoor

namespace Go.Proofs.YtmgekdggahoboaaGreatDoor
open Go.RowKit
open Go.Proofs
open Go.Proofs.Sp (Sp)
def fineB (e : En) (l : List Sp) : Bool := lightB e l.length && validB e l
theorem fine_any (e : En) (A : Option Addr) (c : Nat) (l : List Sp) (w : World) (hv : e.hv = .slice A l.length c) (hl : l.length ≤ 9223372036854775807) (h1 : e.st.addr.size ≤ 9223372036854775807) (h2 : e.st.var.size ≤ 9223372036854775807) (h3 : e.st.tags.size ≤ 9223372036854775807) (h4 : e.bytes.size ≤ 9223372036854775807)
  (hb : e.st.body.length = 16) (hby : Byt e.st.body) (hk : RKonst w) (hr : ReadsSp w w.heap.size A l) :
  Calls Tryz.prog 36 #[.agg (entC e)] w fun e' w' => e' = .returned (.bool (fineB e l)) ∧ Ext w w' := by
 have HR := lh hr
 have HK := lh hk
 have HB := lh hb
 have HBy := lh hby
 have HV := lh hv
 clear hr hk hb hby hv
 cases hli : lightB e l.length with
 | false =>
  have HL := lh hli
  have HF : Hid (fineB e l = false) := lh (by rw [fineB, hli, Bool.false_and])
  clear hli
  go_enter Tryz.func36, Tryz.ntmps36
  go_wp2_with (go_at_call 85; refine (light_any e A l.length c _ HV.out (by omega) (by omega) h1 h2 h3).mono ?_; rw [HL.out]; rintro e w' ⟨rfl, hxl⟩; obtain ⟨xl, rfl⟩ := hxl.asLater; clear hxl)
  go_ret
  exact ⟨ret_bool (by rw [HF.out]), (by (with_reducible repeat first|exact eR _|apply eD|apply eN|apply eA|apply eO|apply eS|apply eC);all_goals first|omega|simp <;> omega)⟩
 | true =>
  have HL := lh hli
  have HF : Hid (fineB e l = validB e l) := lh (by rw [fineB, hli, Bool.true_and])
  have h5 : e.bytes.size ≤ 2000 := by
   simp only [lightB, Bool.and_eq_true, decide_eq_true_eq] at hli
   omega
  have h6 : l.length ≤ 140737488355328 := by
   simp only [lightB, Bool.and_eq_true, decide_eq_true_eq] at hli
   omega
  clear hli
  go_enter Tryz.func36, Tryz.ntmps36
  go_wp2_with (first
   | (go_at_call 85; refine (light_any e A l.length c _ HV.out (by omega) (by omega) h1 h2 h3).mono ?_; rw [HL.out]; rintro e w' ⟨rfl, hxl⟩; obtain ⟨xl, rfl⟩ := hxl.asLater; clear hxl)
   | (go_at_call 34; refine (rvalidE_any e A c l _ HV.out h6 h1 h2 h3 (by omega) HB.out HBy.out (RowAt.ext HK.out (by (with_reducible repeat first|exact eR _|apply eD|apply eN|apply eA|apply eO|apply eS|apply eC);all_goals first|omega|simp <;> omega)) (HR.out.on (by (with_reducible repeat first|exact eR _|apply eD|apply eN|apply eA|apply eO|apply eS|apply eC);all_goals first|omega|simp <;> omega))).mono ?_; rintro e w' ⟨rfl, hxl⟩; obtain ⟨xl, rfl⟩ := hxl.asLater; clear hxl))
  go_ret
  exact ⟨ret_bool (by rw [HF.out]), (by (with_reducible repeat first|exact eR _|apply eD|apply eN|apply eA|apply eO|apply eS|apply eC);all_goals first|omega|simp <;> omega)⟩
end Go.Proofs.YtmgekdggahoboaaGreatDoor
namespace Go.Proofs.YtmgekdggahoboaaGreatDoor
open Go.RowKit Go.Shelf
open Go.Proofs
open Go.Proofs.Sp (Sp)
structure EntIn (e : En) (A : Option Addr) (c : Nat) (l : List Sp) (w : World) : Prop where
 hv : e.hv = .slice A l.length c
 hl : l.length ≤ 9223372036854775807
 h1 : e.st.addr.size ≤ 9223372036854775807
 h2 : e.st.var.size ≤ 9223372036854775807
 h3 : e.st.tags.size ≤ 9223372036854775807
 h4 : e.bytes.size ≤ 9223372036854775807
 hb : e.st.body.length = 16
 hby : Byt e.st.body
 hA : plainA A
 hr : ReadsSp w w.heap.size A l
 z : A = none → c = 0
 hs : e.st.seal_.length = 16
end Go.Proofs.YtmgekdggahoboaaGreatDoor

namespace Go.Proofs.YtmgekdggahoboaaGreatDoor
open Go.ChangeShapes Go.WideShapes Go.ChangeAt Go.RowKit Go.Joins Go.Deep
open Go.Proofs
open Go.Proofs.Sp (Sp)
section
variable {H : Type} {enc : TypeId × Value → H} {w : World} {base : Nat} {spare : Nat → Bool} {held : Bool}
theorem open_entry2 {r : Reach} {b0 : Nat} {v : Value} {d : DataW H} {p : List MemPlace} (hv : Value.okWide Tryz.prog w r b0 96 v) (h : DataW.Trod enc Tryz.prog w 0 (fun _ => true) held 96 v d p) :
  ∃ (e : En) (A : Option Addr) (c : Nat) (l : List Sp), v = .agg (entC e) ∧ EntIn e A c l w ∧ Byt e.st.seal_ := by
 have hv2 := hv
 unfold Value.okWide at hv2
 rw [Tryz.underlying96] at hv2
 simp only [] at hv2
 obtain ⟨cs, rfl, hsz, ts, hts, _, hok⟩ := hv2
 have hC : Tryz.prog.cellsOf 96 = 45 := by kernel_rfl
 have cS : Tryz.prog.cellsOf 52 = 41 := by kernel_rfl
 have cb : Tryz.prog.cellsOf 4 = 1 := by kernel_rfl
 have cl : Tryz.prog.cellsOf 94 = 1 := by kernel_rfl
 have cst : Tryz.prog.cellsOf 9 = 1 := by kernel_rfl
 have ht42 : (Tryz.prog.cellTypes Tryz.prog.depth 96).map (fun l => (l.length, l[42]?)) = some (45, some 94) := by kernel_rfl
 rw [hts] at ht42
 simp only [Option.map_some, Option.some.injEq, Prod.mk.injEq] at ht42
 obtain ⟨t1, t2⟩ := ht42
 obtain ⟨fuel, hf⟩ := h
 obtain ⟨xs, n, _, _, hlen, hxl, hg⟩ := DataW.trod_struct Tryz.underlying96 hf
 have hx5 : xs.length = 5 := hxl
 have g0 := hg 0 _ rfl
 have g1 := hg 1 _ rfl
 have g2 := hg 2 _ rfl
 have g3 := hg 3 _ rfl
 have g4 := hg 4 _ rfl
 simp only [List.getElem_toArray, List.getElem_cons_succ, List.getElem_cons_zero, Value.cells, cS, cb, cl, cst] at g0 g1 g2 g3 g4
 rw [List.getElem?_eq_getElem (by omega)] at g0 g1 g2 g3 g4
 obtain ⟨s, e0, l1, l2, l3, l4, l5, l6, l7⟩ := stm_of_trod g0
 obtain ⟨b1, e1, _⟩ := DataW.trod_bool Tryz.underlying4 g1
 have hcl : cs.toList.length = 45 := by simpa [hC] using hsz
 obtain ⟨v2, e2⟩ : ∃ v2, (cs.toList.drop 42).take 1 = [v2] := ⟨cs.toList[42], by rw [List.drop_eq_getElem_cons (by omega)]; simp⟩
 rw [e2] at g2
 obtain ⟨A, c, l, rfl, hl, hr⟩ := sp_of_trod g2
 obtain ⟨s3, e3, _, z3⟩ := DataW.trod_string Tryz.underlying9 g3
 obtain ⟨b4, e4, _⟩ := DataW.trod_bool Tryz.underlying4 g4
 have hcs : cs = entC ⟨s, b1, .slice A l.length c, s3, b4⟩ := by
  have q0 := seg e0
  have q1 := seg e1
  have q2 := seg e2
  have q3 := seg e3
  have q4 := seg e4
  have e : cs.toList = cs.toList.drop 0 := rfl
  apply Array.toList_inj.1
  rw [e, q0, q1, q2, q3, q4, List.drop_eq_nil_of_le (show cs.toList.length ≤ 44 + 1 by omega)]
  simp [entC]
 have hAz : plainA A ∧ (A = none → c = 0) := by
  have h42 : cs[42]? = some (.slice A l.length c) := by rw [hcs]; rfl
  obtain ⟨u, hu, hcell⟩ := hok 42 _ h42
  rw [t1] at hu
  have : u = 94 := Option.some.inj (hu.symm.trans t2)
  subst this
  exact ⟨plain_of_ok hcell, none_of_ok hcell⟩
 obtain ⟨hA, hz⟩ := hAz
 unfold maxLen at *
 exact ⟨⟨s, b1, .slice A l.length c, s3, b4⟩, A, c, l, by rw [hcs], ⟨rfl, by omega, by show s.addr.size ≤ _; omega, by show s.var.size ≤ _; omega, by show s.tags.size ≤ _; omega, by show s3.size ≤ _; omega, l1, l2, hA, hr, hz, l6⟩, l7⟩
end
end Go.Proofs.YtmgekdggahoboaaGreatDoor