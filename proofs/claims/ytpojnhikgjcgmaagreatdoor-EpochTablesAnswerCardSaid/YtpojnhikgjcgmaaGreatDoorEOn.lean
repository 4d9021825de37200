/- Chains of epochs that came in, opened. -/
import Derived.WalkKit
import Derived.WalkSpells
import Derived.WalkLawsBesides
import Derived.Deep.QuietTactic
import Derived.BigQuiet
import Derived.Test.YtpojnhikgjcgmaaGreatDoorEYi
set_option maxRecDepth 100000
set_option maxHeartbeats 64000000
set_option linter.unusedVariables false
set_option linter.unusedSimpArgs false
namespace Go.Proofs.YtpojnhikgjcgmaaGreatDoor
open Go.RowKit Go.Shelf Go.Maps
open Go.Proofs
theorem eq_dg2 {a b : List Int} (ha : DgOk a) (hb : DgOk b) (W : World) : (binOp .eql 23 (.agg (dgC a)) (.agg (dgC b))).run Tryz.prog W = .ok (.bool (decide (a = b))) W := by
 have h := run_equalIn_bytes (P := Tryz.prog) W 9998 23 5 16 (by kernel_rfl) (by kernel_rfl) u8_size (u8s a) (u8s b) (by simp [u8s, ha.len]) (by simp [u8s, hb.len])
 rw [u8s_cells ha.byt, u8s_cells hb.byt, u8s_beq ha.byt hb.byt] at h
 rw [dgC_cells ha.len, dgC_cells hb.len, run_eql_struct, h]
 rfl
def fewEp (l : List Ep) (n : Int) : Bool := l.all shortEp && decide ((l.length : Int) ≤ n)
structure EpsIn (w : World) (A : Option Addr) (l : List Ep) : Prop where
 rd : Reads 38 epL w w.heap.size A l
 ok : ∀ e ∈ l, EpOk e ∧ EpAt w e
theorem EpsIn.on {w w' : World} {A : Option Addr} {l : List Ep} (h : EpsIn w A l) (hx : Ext w w') : EpsIn w' A l := ⟨h.rd.on hx, fun e he => ⟨(h.ok e he).1, (h.ok e he).2.on hx⟩⟩
theorem fewEp_is {l : List Ep} {n : Int} (h : fewEp l n = true) : (l.length : Int) ≤ n ∧ ∀ e ∈ l, EpShort e := by
 unfold fewEp at h
 simp only [Bool.and_eq_true, decide_eq_true_eq, List.all_eq_true] at h
 exact ⟨h.2, fun e he => shortEp_is (h.1 e he)⟩
theorem EpsIn.ch {w : World} {A : Option Addr} {l : List Ep} (h : EpsIn w A l) (hs : ∀ e ∈ l, EpShort e) : ChAt w A l := ⟨h.rd, fun e he => ⟨(h.ok e he).1, hs e he, (h.ok e he).2⟩⟩
theorem rfew31_any (A : Option Addr) (c : Nat) (l : List Ep) (n : Int) (w : World) (hl : l.length ≤ 9223372036854775807) (hc : EpsIn w A l) :
  Calls Tryz.prog 23 #[.slice A l.length c, .int .i64 n] w fun e w' => e = .returned (.bool (fewEp l n)) ∧ Ext w w' := by
 have HC := lh hc
 have HE := lh (fun (e : Ep) (he : e ∈ l) (W : World) (hx : Ext w W) => rshortEp_any e W ((hc.ok e he).2.on hx) (hc.ok e he).1.pul (hc.ok e he).1.rvl (fun p hp => ((hc.ok e he).1.pu p hp).2))
 clear hc
 obtain ⟨R, hR⟩ : ∃ R, fewEp l n = R := ⟨_, rfl⟩
 have HF := lh hR
 rw [hR]
 clear hR
 go_enter Tryz.func23, Tryz.ntmps23
 go_wp2
 go_loopw [5] (fun i wr => ∃ k : Nat, k ≤ l.length ∧ i = .int .i64 k ∧ Hid ((l.take k).all shortEp = true) ∧ Hid (Ext w wr)) (fun i _ => l.length - (intOf i).toNat)
 case atStart => exact ⟨0, Nat.zero_le _, rfl, lh rfl, lh (eR _)⟩
 case round =>
  obtain ⟨k, hk, rfl, HB, HX⟩ := hrel
  by_cases hlt : k < l.length
  ·obtain ⟨b, off, rfl, hb, kr⟩ := epr_at (HC.out.rd.on HX.out) k hlt
   have HEk := lh (HE.out l[k] (List.getElem_mem hlt))
   have HS : Hid ((l.take (k + 1)).all shortEp = shortEp l[k]) := lh (by rw [List.take_succ_eq_append_getElem hlt, List.all_append, HB.out]; simp)
   have HA : Hid (shortEp l[k] = false → l.all shortEp = false) := lh (fun h => all_no shortEp l k hlt h)
   generalize l[k] = e at *
   have hfe := ep_fits e
   cases hs : shortEp e with
   | false =>
    rw [hs] at HEk HA
    have HF2 : Hid (R = false) := lh (by rw [← HF.out]; unfold fewEp; rw [HA.out rfl]; rfl)
    clear HS hs HA HE HC
    go_wp2_with (go_at_call 10; refine (HEk.out _ HX.out).mono ?_; rintro e w' ⟨rfl, hxl⟩; obtain ⟨xl, rfl⟩ := hxl.asLater; clear hxl)
    go_ret
    exact ⟨ret_bool HF2.out.symm, (by (with_reducible repeat first|exact HX.out|exact eR _|apply eD|apply eN|apply eA|apply eO|apply eS|apply eC);all_goals first|omega|simp <;> omega)⟩
   | true =>
    rw [hs] at HEk HS
    clear hs HA
    go_wp2_with (go_at_call 10; refine (HEk.out _ HX.out).mono ?_; rintro e w' ⟨rfl, hxl⟩; obtain ⟨xl, rfl⟩ := hxl.asLater; clear hxl)
    go_roundw
    case rel => exact ⟨k + 1, by omega, by go_num, HS, lh (by (with_reducible repeat first|exact HX.out|exact eR _|apply eD|apply eN|apply eA|apply eO|apply eS|apply eC);all_goals first|omega|simp <;> omega)⟩
    case measure => simp [intOf]; omega
  ·have e : k = l.length := by omega
   subst e
   rw [List.take_length] at HB
   have HF2 : Hid (R = decide ((l.length : Int) ≤ n)) := lh (by rw [← HF.out]; unfold fewEp; rw [HB.out, Bool.true_and])
   go_wp2
   go_ret
   exact ⟨ret_bool HF2.out.symm, HX.out⟩
theorem state_take {l : List Ep} {lo : Int} {a t : Ad.Bs} (k : Nat) (hk : k < l.length) : stateB (l.take (k + 1)) lo a t = max (stateB (l.take k) lo a t) (removesB l[k] lo a t) := by
 unfold stateB
 rw [List.take_succ_eq_append_getElem hk, List.foldl_append]
 rfl
theorem rstate_any (A : Option Addr) (c : Nat) (l : List Ep) (s : St) (w : World) (hl : l.length ≤ 100) (hc : ChAt w A l) (hsa : s.addr.size ≤ 900000) (hst : s.tags.size ≤ 900000) :
  Calls Tryz.prog 30 #[.slice A l.length c, .agg (stmC s)] w fun e w' => e = .returned (.int .i64 (stateB l s.lo (bsT s.addr) (bsT s.tags))) ∧ Ext w w' := by
 have HC := lh hc
 have HE := lh (fun (e : Ep) (he : e ∈ l) (W : World) (hx : Ext w W) => rremoves_any e s W ((hc.ok e he).2.2.on hx) (by have := (hc.ok e he).2.1.pu; omega) (fun p hp => by have := (hc.ok e he).2.1.what p hp; omega) hsa hst)
 have HT := lh (fun (k : Nat) (hk : k < l.length) => state_take (lo := s.lo) (a := bsT s.addr) (t := bsT s.tags) k hk)
 have hfs := stm_fits s
 clear hc
 obtain ⟨R, hR⟩ : ∃ R, stateB l s.lo (bsT s.addr) (bsT s.tags) = R := ⟨_, rfl⟩
 have HF := lh hR
 rw [hR]
 clear hR
 go_enter Tryz.func30, Tryz.ntmps30
 go_upto_region 1 with (fail)
 refine wp_world (fun W => Ext w W ∧ RowAt W w.heap.size (stmC s)) ⟨(by (with_reducible repeat first|exact eR _|apply eD|apply eN|apply eA|apply eO|apply eS|apply eC);all_goals first|omega|simp <;> omega), RowAt.new _ _ _⟩ ?_
 obtain ⟨B, hB⟩ : ∃ B, w.heap.size = B := ⟨_, rfl⟩
 rw [hB]
 rintro W1 ⟨x1, u1⟩
 have HX1 := lh x1
 have HU1 := lh u1
 have hl1 := u1.lt
 clear x1 u1
 go_wp2
 go_loopw [5, 6] (fun o i wr => ∃ (k : Nat) (m : Int), k ≤ l.length ∧ o = .int .i64 m ∧ i = .int .i64 k ∧ Hid (stateB (l.take k) s.lo (bsT s.addr) (bsT s.tags) = m) ∧ Hid (Ext W1 wr)) (fun _ i _ => l.length - (intOf i).toNat)
 case atStart => exact ⟨0, 0, Nat.zero_le _, rfl, rfl, lh rfl, lh (eR _)⟩
 case round =>
  obtain ⟨k, m, hk, rfl, rfl, HB, HX⟩ := hrel
  have hsz := HX.out.size
  by_cases hlt : k < l.length
  ·obtain ⟨b, off, rfl, hb, kr⟩ := epr_at (HC.out.rd.on (HX1.out.trans HX.out)) k hlt
   have HEk := lh (HE.out l[k] (List.getElem_mem hlt))
   have HS := HT.out k hlt
   rw [HB.out] at HS
   have HS' := lh HS
   clear HS
   generalize l[k] = e at *
   have hfe := ep_fits e
   have k1 : rowOf wr B 0 41 = some (stmC s) := (HU1.out.ext HX.out).all rfl (by omega)
   have hB2 : B < wr.heap.size := by omega
   generalize removesB e s.lo (bsT s.addr) (bsT s.tags) = V at *
   clear HT HE
   go_upto_region 5 with (fail)
   refine wp_region_later (by kernel_rfl) (by kernel_rfl) ?_
   repeat (first | go_big_quiet_step ((go_at_call 21; exact quietE (HEk.out _ ((HX1.out.trans HX.out).onto _)))) | quiet_step ((go_at_call 21; exact quietE (HEk.out _ ((HX1.out.trans HX.out).onto _)))))
   refine wpQuiet_nil ?_
   rintro _ ⟨xq, rfl⟩
   go_wp2
   go_roundw
   case rel => exact ⟨k + 1, _, by omega, rfl, by go_num, HS', lh (by (with_reducible repeat first|exact HX.out|exact eR _|apply eD|apply eN|apply eA|apply eO|apply eS|apply eC);all_goals first|omega|simp <;> omega)⟩
   case measure => simp [intOf]; omega
  ·have e : k = l.length := by omega
   subst e
   rw [List.take_length] at HB
   have HF2 : Hid (R = m) := lh (by rw [← HF.out, HB.out])
   go_wp2
   go_ret
   exact ⟨ret_int HF2.out.symm, (by (with_reducible repeat first|exact HX1.out.trans HX.out|exact eR _|apply eD|apply eN|apply eA|apply eO|apply eS|apply eC);all_goals first|omega|simp <;> omega)⟩
theorem rev_takeF {l : List Ep} {d : List Int} (k : Nat) (hk : k < l.length) (h : revokedB (l.take k) d = false) : revokedB (l.take (k + 1)) d = (l[k].rv.any fun x => decide (x = d)) := by
 unfold revokedB at h ⊢
 rw [List.take_succ_eq_append_getElem hk, List.any_append, h]
 simp
theorem rev_hit {l : List Ep} {d : List Int} (k : Nat) (hk : k < l.length) (h : (l[k].rv.any fun x => decide (x = d)) = true) : revokedB l d = true := by
 unfold revokedB
 rw [List.any_eq_true]
 exact ⟨_, List.getElem_mem hk, h⟩
theorem rv_takeF {L : List (List Int)} {d : List Int} (k : Nat) (hk : k < L.length) (h : ((L.take k).any fun x => decide (x = d)) = false) (h2 : decide (L[k] = d) = false) : ((L.take (k + 1)).any fun x => decide (x = d)) = false := by
 rw [List.take_succ_eq_append_getElem hk, List.any_append, h]
 simp [h2]
theorem rv_hit {L : List (List Int)} {d : List Int} (k : Nat) (hk : k < L.length) (h2 : decide (L[k] = d) = true) : (L.any fun x => decide (x = d)) = true := by
 rw [List.any_eq_true]
 exact ⟨_, List.getElem_mem hk, h2⟩
theorem rrevoked_any (A : Option Addr) (c : Nat) (l : List Ep) (d : List Int) (w : World) (hl : l.length ≤ 100) (hc : ChAt w A l) (hd : DgOk d) :
  Calls Tryz.prog 31 #[.slice A l.length c, .agg (dgC d)] w fun e w' => e = .returned (.bool (revokedB l d)) ∧ Ext w w' := by
 have HC := lh hc
 have HT := lh (fun (k : Nat) (hk : k < l.length) (h : revokedB (l.take k) d = false) => rev_takeF k hk h)
 have HH := lh (fun (k : Nat) (hk : k < l.length) (h : (l[k].rv.any fun x => decide (x = d)) = true) => rev_hit k hk h)
 have hfd : fitsRow 16 (dgC d) = true := dg_fits d
 have HD := lh hd
 clear hc hd
 obtain ⟨R, hR⟩ : ∃ R, revokedB l d = R := ⟨_, rfl⟩
 have HF := lh hR
 rw [hR] at HH ⊢
 clear hR
 go_enter Tryz.func31, Tryz.ntmps31
 go_upto_region 1 with (fail)
 refine wp_world (fun W => Ext w W ∧ RowAt W w.heap.size (dgC d)) ⟨(by (with_reducible repeat first|exact eR _|apply eD|apply eN|apply eA|apply eO|apply eS|apply eC);all_goals first|omega|simp <;> omega), RowAt.new _ _ _⟩ ?_
 obtain ⟨B, hB⟩ : ∃ B, w.heap.size = B := ⟨_, rfl⟩
 rw [hB]
 rintro W1 ⟨x1, u1⟩
 have HX1 := lh x1
 have HU1 := lh u1
 have hl1 := u1.lt
 clear x1 u1
 go_wp2
 go_loopw [5, 6] (fun i _ wr => ∃ k : Nat, k ≤ l.length ∧ i = .int .i64 k ∧ Hid (revokedB (l.take k) d = false) ∧ Hid (Ext W1 wr)) (fun i _ _ => l.length - (intOf i).toNat)
 case atStart => exact ⟨0, Nat.zero_le _, rfl, lh rfl, lh (eR _)⟩
 case round =>
  obtain ⟨k, hk, rfl, HB, HX⟩ := hrel
  generalize hwA : wr = wA at *
  clear hwA
  have hsz := HX.out.size
  by_cases hlt : k < l.length
  ·obtain ⟨b, off, rfl, hb, kr⟩ := epr_at (HC.out.rd.on (HX1.out.trans HX.out)) k hlt
   have HTk := lh (HT.out k hlt HB.out)
   have HHk := lh (HH.out k hlt)
   have HOk := lh (HC.out.ok _ (List.getElem_mem hlt))
   generalize l[k] = e at *
   have hrl := HOk.out.2.1.rv
   clear HT HH HB
   go_wp2
   go_loopw [6] (fun j wr => ∃ m : Nat, m ≤ e.rv.length ∧ j = .int .i64 m ∧ Hid (((e.rv.take m).any fun x => decide (x = d)) = false) ∧ Hid (Ext wA wr)) (fun j _ => e.rv.length - (intOf j).toNat)
   case atStart => exact ⟨0, Nat.zero_le _, rfl, lh rfl, lh (eR _)⟩
   case round =>
    obtain ⟨m, hm, rfl, HB2, HX2⟩ := hrel
    have hsz2 := HX2.out.size
    have k2 : rowOf wr b (off + k * 38) 38 = some (epC e) := (rowOf_congr (fun i _ => HX2.out.cell (p := ⟨b, off + k * 38 + i, none⟩) hb)).trans kr
    have q20 : wr.cell? ⟨b, off + k * 38 + 20, none⟩ = some (.slice e.RA e.rv.length e.rc) := (rowOf_cell k2 (i := 20) (by omega)).trans (ep_g20 e)
    have hb2 : b < wr.heap.size := by omega
    have HW := lh ((HX1.out.trans HX.out).trans HX2.out)
    by_cases hlm : m < e.rv.length
    ·obtain ⟨b3, off3, hRA, hb3, kd⟩ := reads_row dgE ((HOk.out.2.2.on HW.out).rv) m hlm
     rw [hRA] at q20
     have hdk := HOk.out.1.rv _ (List.getElem_mem hlm)
     have hq := fun W => eq_dg2 hdk HD.out W
     have HN := lh (rv_takeF (d := d) m hlm HB2.out)
     have HHi := lh (rv_hit (d := d) m hlm)
     have k1 : rowOf wr B 0 16 = some (dgC d) := (HU1.out.ext (HX.out.trans HX2.out)).all rfl (by omega)
     have hB3 : B < wr.heap.size := by omega
     have kd' : rowOf wr b3 (off3 + m * 16) 16 = some (dgC e.rv[m]) := kd
     have hfx : fitsRow 16 (dgC e.rv[m]) = true := dg_fits _
     generalize e.rv[m] = x at *
     clear kd hdk hRA k2 kr
     cases hx : decide (x = d) with
     | true =>
      rw [hx] at hq HHi
      have HR2 : Hid (R = true) := lh (by rw [← HF.out]; exact HF.out ▸ (HHk.out (HHi.out rfl)))
      clear HHi HHk HN HTk hx
      go_upto_region 7 with (fail)
      refine wp_region_later (by kernel_rfl) (by kernel_rfl) ?_
      repeat (first | go_big_quiet_step ((fail)) | quiet_step ((fail)))
      refine wpQuiet_nil ?_
      rintro _ ⟨xq, rfl⟩
      go_wp2
      go_ret
      exact ⟨ret_bool HR2.out.symm, (by (with_reducible repeat first|exact HW.out|exact eR _|apply eD|apply eN|apply eA|apply eO|apply eS|apply eC);all_goals first|omega|simp <;> omega)⟩
     | false =>
      rw [hx] at hq HN
      have HN2 := lh (HN.out rfl)
      clear HHi HHk HN HTk hx
      go_upto_region 7 with (fail)
      refine wp_region_later (by kernel_rfl) (by kernel_rfl) ?_
      repeat (first | go_big_quiet_step ((fail)) | quiet_step ((fail)))
      refine wpQuiet_nil ?_
      rintro _ ⟨xq, rfl⟩
      go_wp2
      go_roundw
      case rel => exact ⟨m + 1, by omega, by go_num, HN2, lh (by (with_reducible repeat first|exact HX2.out|exact eR _|apply eD|apply eN|apply eA|apply eO|apply eS|apply eC);all_goals first|omega|simp <;> omega)⟩
      case measure => simp [intOf]; omega
    ·have HB3 : Hid (revokedB (l.take (k + 1)) d = false) := lh (by rw [HTk.out]; have h := HB2.out; rwa [List.take_of_length_le (by omega)] at h)
     clear HTk HHk
     go_wp2
     go_roundw
     case rel => exact ⟨k + 1, by omega, by go_num, HB3, lh (by (with_reducible repeat first|exact HX.out.trans HX2.out|exact eR _|apply eD|apply eN|apply eA|apply eO|apply eS|apply eC);all_goals first|omega|simp <;> omega)⟩
     case measure => simp [intOf]; omega
  ·have e : k = l.length := by omega
   subst e
   rw [List.take_length] at HB
   have HF2 : Hid (R = false) := lh (by rw [← HF.out, HB.out])
   go_wp2
   go_ret
   exact ⟨ret_bool HF2.out.symm, (by (with_reducible repeat first|exact HX1.out.trans HX.out|exact eR _|apply eD|apply eN|apply eA|apply eO|apply eS|apply eC);all_goals first|omega|simp <;> omega)⟩
end Go.Proofs.YtpojnhikgjcgmaaGreatDoor

namespace Go.Proofs.YtpojnhikgjcgmaaGreatDoor
open Go.ChangeShapes Go.WideShapes Go.ChangeAt Go.RowKit Go.Joins Go.Deep
open Go.Proofs
section
variable {H : Type} {enc : TypeId × Value → H} {w : World} {base : Nat} {spare : Nat → Bool} {held : Bool}
theorem open_eps {r : Reach} {b0 : Nat} {v : Value} {d : DataW H} {p : List MemPlace} (hv : Value.okWide Tryz.prog w r b0 45 v) (h : DataW.Trod enc Tryz.prog w 0 (fun _ => true) held 45 v d p) :
  ∃ (A : Option Addr) (c : Nat) (l : List Ep), v = .slice A l.length c ∧ l.length ≤ 9223372036854775807 ∧ EpsIn w A l := by
 unfold Value.okWide at hv
 rw [Tryz.underlying45] at hv
 simp only [] at hv
 obtain ⟨fuel, hf⟩ := h
 cases v with
 | slice A n c =>
  obtain ⟨A', c', l, e, h1, h2, h3, h4, _⟩ := slice_of_trod epE noEp (EpIn w) Tryz.underlying45 (by kernel_rfl) (by omega) (fun h => ep_of_trod h) hf
  injection e with e1 e2 e3
  subst e1 e2 e3
  exact ⟨A, c, l, rfl, by unfold maxLen at h2; omega, ⟨h3, fun e he => ep_ok (h4 e he)⟩⟩
 | _ =>
  exfalso
  unfold Cell.okWide at hv
  rw [Tryz.underlying45] at hv
  simp only [] at hv
  unfold Cell.ok at hv
  rw [Tryz.underlying45] at hv
  simp at hv
end
end Go.Proofs.YtpojnhikgjcgmaaGreatDoor