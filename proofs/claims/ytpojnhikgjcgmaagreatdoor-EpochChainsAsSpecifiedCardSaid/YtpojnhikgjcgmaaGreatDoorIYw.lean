/- weirgateref31.Same at chains that say the same. -/
import Derived.WalkKit
import Derived.WalkSpells
import Derived.WalkLawsBesides
import Derived.Deep.QuietTactic
import Derived.BigQuiet
import Derived.Test.YtpojnhikgjcgmaaGreatDoorIYs
set_option maxRecDepth 100000
set_option maxHeartbeats 64000000
set_option linter.unusedVariables false
set_option linter.unusedSimpArgs false
namespace Go.Proofs.YtpojnhikgjcgmaaGreatDoor
open Go.RowKit Go.Shelf Go.Maps
open Go.Proofs
theorem same1_any (A1 : Option Addr) (c1 : Nat) (A2 : Option Addr) (c2 : Nat) (ls : List ByteArray) (w : World) (hl : ls.length ≤ 100000) (h1 : ReadsStr w w.heap.size A1 ls) (h2 : ReadsStr w w.heap.size A2 ls) :
  Calls Tryz.prog 137 #[.slice A1 ls.length c1, .slice A2 ls.length c2] w fun r w' => r = .returned (.bool true) ∧ Ext w w' := by
 have H1 := lh h1
 have H2 := lh h2
 clear h1 h2
 go_enter Tryz.func137, Tryz.ntmps137
 go_wp2
 go_loopw [5] (fun i wr => ∃ k : Nat, k ≤ ls.length ∧ i = .int .i64 k ∧ Hid (Ext w wr)) (fun i _ => ls.length - (intOf i).toNat)
 case atStart => exact ⟨0, Nat.zero_le _, rfl, lh (eR _)⟩
 case round =>
  obtain ⟨k, hk, rfl, HX⟩ := hrel
  by_cases hlt : k < ls.length
  ·obtain ⟨b, off, rfl, hb, d1⟩ := ReadsStr.cell (H1.out.ext HX.out (Nat.le_refl _)) k hlt
   obtain ⟨b', off', rfl, hb', d2⟩ := ReadsStr.cell (H2.out.ext HX.out (Nat.le_refl _)) k hlt
   generalize ls[k] = x at *
   have hb2 : b < wr.heap.size := Nat.lt_of_lt_of_le hb HX.out.size
   have hb3 : b' < wr.heap.size := Nat.lt_of_lt_of_le hb' HX.out.size
   have dx : (x.toList == x.toList) = true := beq_self_eq_true _
   go_upto_region 6 with (fail)
   refine wp_region_later (by kernel_rfl) (by kernel_rfl) ?_
   repeat (first | go_big_quiet_step ((fail)) | quiet_step ((fail)))
   refine wpQuiet_nil ?_
   rintro _ ⟨xq, rfl⟩
   go_wp2
   go_roundw
   case rel => exact ⟨k + 1, by omega, by go_num, lh (by (with_reducible repeat first|exact HX.out|exact eR _|apply eD|apply eN|apply eA|apply eO|apply eS|apply eC);all_goals first|omega|simp <;> omega)⟩
   case measure => simp [intOf]; omega
  ·have e : k = ls.length := by omega
   subst e
   go_wp2
   go_ret
   exact ⟨rfl, HX.out⟩
theorem same4_any (A1 : Option Addr) (c1 : Nat) (A2 : Option Addr) (c2 : Nat) (ls : List ByteArray) (w : World) (hl : ls.length ≤ 100000) (h1 : ReadsStr w w.heap.size A1 ls) (h2 : ReadsStr w w.heap.size A2 ls) :
  Calls Tryz.prog 84 #[.slice A1 ls.length c1, .slice A2 ls.length c2] w fun r w' => r = .returned (.bool true) ∧ Ext w w' := by
 have H := lh (same1_any A1 c1 A2 c2 ls w hl h1 h2)
 clear h1 h2
 go_enter Tryz.func84, Tryz.ntmps84
 go_wp2_with (go_at_call 137; refine H.out.mono ?_; rintro e w' ⟨rfl, hxl⟩; obtain ⟨xl, rfl⟩ := hxl.asLater; clear hxl)
 go_ret
 exact ⟨rfl, (by (with_reducible repeat first|exact eR _|apply eD|apply eN|apply eA|apply eO|apply eS|apply eC);all_goals first|omega|simp <;> omega)⟩
theorem parts_len {e : Ep} (h : EpShort e) : (epParts e).length ≤ 100000 := by
 have key : ∀ l : List Pu, (l.flatMap puParts).length = 2 * l.length := by
  intro l
  induction l with
  | nil => rfl
  | cons p t ih => rw [List.flatMap_cons, List.length_append, ih, List.length_cons]; simp [puParts]; omega
 unfold epParts
 rw [List.length_append, List.length_append, key, List.length_map]
 have h1 := h.pu
 have h2 := h.rv
 have h3 : (epHead e).length ≤ 100 := by simp [epHead]
 omega
theorem eq_sl {a : List Int} (ha : DgOk a) (W : World) : (binOp .eql 28 (.agg (dgC a)) (.agg (dgC a))).run Tryz.prog W = .ok (.bool true) W := by
 have h := run_equalIn_bytes (P := Tryz.prog) W 9998 28 5 16 (by kernel_rfl) (by kernel_rfl) u8_size (u8s a) (u8s a) (by simp [u8s, ha.len]) (by simp [u8s, ha.len])
 rw [u8s_cells ha.byt, u8s_beq ha.byt ha.byt] at h
 rw [dgC_cells ha.len, run_eql_struct, h]
 simp
theorem eq_pd (a b : Int) (W : World) : (binOp .eql 25 (.agg (pdC a b)) (.agg (pdC a b))).run Tryz.prog W = .ok (.bool true) W := by
 rw [run_eql_struct]
 simp [go_sem, pdC]
theorem rsameEp_any (e : Ep) (A1 : Option Addr) (a1 : Nat) (A2 : Option Addr) (a2 : Nat) (w : World) (hok : EpOk e) (hsh : EpShort e) (ha : EpAt w e) (hok2 : EpOk (memE e A1 a1 A2 a2)) (ha2 : EpAt w (memE e A1 a1 A2 a2)) :
  Calls Tryz.prog 41 #[.agg (epC e), .agg (epC (memE e A1 a1 A2 a2))] w fun r w' => r = .returned (.bool true) ∧ Ext w w' := by
 have HI1 := lh (fun (W : World) (hx : Ext w W) => reparts_any e W hok hsh (ha.on hx))
 have HI2 := lh (fun (W : World) (hx : Ext w W) => reparts_any (memE e A1 a1 A2 a2) W hok2 ⟨hsh.pu, hsh.rv, hsh.what⟩ (ha2.on hx))
 unfold EPOut at HI1 HI2
 have hpp : epParts (memE e A1 a1 A2 a2) = epParts e := rfl
 rw [hpp] at HI2
 have hfe := ep_fits e
 have hfz := ep_fits (memE e A1 a1 A2 a2)
 have hE1 := fun W => eq_sl hok.sl W
 have hE2 : ∀ W, (binOp .eql 23 (.agg (dgC e.prev)) (.agg (dgC e.prev))).run Tryz.prog W = .ok (.bool true) W := fun W => by rw [eq_dg2 hok.prev hok.prev]; simp
 have hE3 := fun W => eq_pd e.lo e.hi W
 have hlp : (epParts e).length ≤ 100000 := parts_len hsh
 obtain ⟨z, hz⟩ : ∃ z, memE e A1 a1 A2 a2 = z := ⟨_, rfl⟩
 have g0 : (epC z)[0]? = some (.int .i64 e.num) := by rw [← hz]; exact ep_g0 _
 have g21 : (epC z)[21]? = some (.int .i64 e.serial) := by rw [← hz]; exact ep_g21 _
 have g19 : (epC z)[19]? = some (.slice z.PA e.pu.length z.pc) := by rw [← hz]; exact ep_g19 _
 have s22 : rowSub (epC z) 22 16 = some (dgC e.sl) := by rw [← hz]; exact ep_sl _
 have s17 : rowSub (epC z) 17 2 = some (pdC e.lo e.hi) := by rw [← hz]; exact ep_pd _
 have s1 : rowSub (epC z) 1 16 = some (dgC e.prev) := by rw [← hz]; exact ep_prev _
 rw [hz] at HI2 hfz ⊢
 clear hok hsh ha hok2 ha2 hpp hz
 go_enter Tryz.func41, Tryz.ntmps41
 go_upto_region 1 with (fail)
 obtain ⟨B, hB⟩ : ∃ B, w.heap.size = B := ⟨_, rfl⟩
 obtain ⟨C, hC⟩ : ∃ C, B + 1 = C := ⟨_, rfl⟩
 refine wp_world (fun W => Ext w W ∧ RowAt W w.heap.size (epC e) ∧ RowAt W (w.heap.size + 1) (epC z)) ⟨(by (with_reducible repeat first|exact eR _|apply eD|apply eN|apply eA|apply eO|apply eS|apply eC);all_goals first|omega|simp <;> omega), (RowAt.new _ _ _).alloc _, RowAt.newAt (by simp)⟩ ?_
 rw [hB, hC]
 rintro W1 ⟨x1, uB, uC⟩
 have HX1 := lh x1
 have hlC := uC.lt
 have hlB := uB.lt
 have qB_0 : W1.cell? ⟨B, 0, none⟩ = some (.int .i64 e.num) := (uB.cell 0).trans (ep_g0 e)
 have qC_0 : W1.cell? ⟨C, 0, none⟩ = some (.int .i64 e.num) := (uC.cell 0).trans g0
 have qB_21 : W1.cell? ⟨B, 21, none⟩ = some (.int .i64 e.serial) := (uB.cell 21).trans (ep_g21 e)
 have qC_21 : W1.cell? ⟨C, 21, none⟩ = some (.int .i64 e.serial) := (uC.cell 21).trans g21
 have qB_19 : W1.cell? ⟨B, 19, none⟩ = some (.slice e.PA e.pu.length e.pc) := (uB.cell 19).trans (ep_g19 e)
 have qC_19 : W1.cell? ⟨C, 19, none⟩ = some (.slice z.PA e.pu.length z.pc) := (uC.cell 19).trans g19
 have kB_22_16 : rowOf W1 B 22 16 = some (dgC e.sl) := by rw [uB.row, if_neg (by omega), ep_sl]
 have kC_22_16 : rowOf W1 C 22 16 = some (dgC e.sl) := by rw [uC.row, if_neg (by omega), s22]
 have kB_17_2 : rowOf W1 B 17 2 = some (pdC e.lo e.hi) := by rw [uB.row, if_neg (by omega), ep_pd]
 have kC_17_2 : rowOf W1 C 17 2 = some (pdC e.lo e.hi) := by rw [uC.row, if_neg (by omega), s17]
 have kB_1_16 : rowOf W1 B 1 16 = some (dgC e.prev) := by rw [uB.row, if_neg (by omega), ep_prev]
 have kC_1_16 : rowOf W1 C 1 16 = some (dgC e.prev) := by rw [uC.row, if_neg (by omega), s1]
 have kB_0_38 : rowOf W1 B 0 38 = some (epC e) := uB.all rfl (by omega)
 have kC_0_38 : rowOf W1 C 0 38 = some (epC z) := uC.all rfl (by omega)
 clear x1 uB uC g0 g21 g19 s22 s17 s1 hB hC
 refine wp_region_softE 50 (softsL [.eq (.pointer (some ⟨B, 0, none⟩)), .eq (.int .i64 e.num), .eq (.pointer (some ⟨C, 0, none⟩)), .eq (.int .i64 e.num), .eq (.bool true), .eq (.bool true), .eq (.pointer (some ⟨B, 21, none⟩)), .eq (.int .i64 e.serial), .eq (.pointer (some ⟨C, 21, none⟩)), .eq (.int .i64 e.serial), .eq (.bool true), .eq (.bool true), .eq (.bool true), .eq (.pointer (some ⟨B, 22, none⟩)), .eq (.agg (dgC e.sl)), .eq (.pointer (some ⟨C, 22, none⟩)), .eq (.agg (dgC e.sl)), .eq (.bool true), .eq (.bool true), .eq (.bool true), .eq (.pointer (some ⟨B, 17, none⟩)), .eq (.agg (pdC e.lo e.hi)), .eq (.pointer (some ⟨C, 17, none⟩)), .eq (.agg (pdC e.lo e.hi)), .eq (.bool true), .eq (.bool true), .eq (.bool true), .eq (.pointer (some ⟨B, 1, none⟩)), .eq (.agg (dgC e.prev)), .eq (.pointer (some ⟨C, 1, none⟩)), .eq (.agg (dgC e.prev)), .eq (.bool true), .eq (.bool true), .eq (.bool true), .eq (.pointer (some ⟨B, 19, none⟩)), .eq (.slice e.PA e.pu.length e.pc), .eq (.int .i64 e.pu.length), .eq (.pointer (some ⟨C, 19, none⟩)), .eq (.slice z.PA e.pu.length z.pc), .eq (.int .i64 e.pu.length), .eq (.bool true), .eq (.bool true), .eq (.bool true), .eq (.agg (epC e)), readZ (epParts e), .eq (.agg (epC z)), readZ (epParts e), .eq (.bool true), .eq (.bool true), .eq (.bool true)]) (by kernel_rfl) (by kernel_rfl) (lt_cons ?_ (lt_cons ?_ (lt_cons ?_ (lt_cons ?_ (lt_cons ?_ (lt_cons ?_ (lt_cons ?_ (lt_cons ?_ (lt_cons ?_ (lt_cons ?_ (lt_cons ?_ (lt_cons ?_ (lt_cons ?_ (lt_cons ?_ (lt_cons ?_ (lt_cons ?_ (lt_cons ?_ (lt_cons ?_ (lt_cons ?_ (lt_cons ?_ (lt_cons ?_ (lt_cons ?_ (lt_cons ?_ (lt_cons ?_ (lt_cons ?_ (lt_cons ?_ (lt_cons ?_ (lt_cons ?_ (lt_cons ?_ (lt_cons ?_ (lt_cons ?_ (lt_cons ?_ (lt_cons ?_ (lt_cons ?_ (lt_cons ?_ (lt_cons ?_ (lt_cons ?_ (lt_cons ?_ (lt_cons ?_ (lt_cons ?_ (lt_cons ?_ (lt_cons ?_ (lt_cons ?_ (lt_cons ?_ (lt_cons ?_ (lt_cons ?_ (lt_cons ?_ (lt_cons ?_ (lt_cons ?_ (lt_cons ?_ (lt_none))))))))))))))))))))))))))))))))))))))))))))))))))) ?_
 any_goals (refine sop rfl fun xs W HW hsW HD Q' HQ => ?_; simp only [fillAt, dstOf, lc0, lcs, obs, Act.put, lsa, lsz, lss, nz, Nat.reduceAdd] at HQ ⊢)
 ·
  go_wp2
  exact HQ.out _ _ (eR _) rfl
 ·
  have hd0 : xs 0 = .pointer (some ⟨B, 0, none⟩) := (HD.out 0 (dk (by kernel_rfl)))
  generalize xs 0 = x0 at hd0 HQ ⊢; subst hd0
  have hc : W.cell? ⟨B, 0, none⟩ = some (.int .i64 e.num) := (HW.out.cell (p := ⟨B, 0, none⟩) (by show B < _; omega)).trans qB_0
  go_wp2
  exact HQ.out _ _ (eR _) rfl
 ·
  go_wp2
  exact HQ.out _ _ (eR _) rfl
 ·
  have hd2 : xs 2 = .pointer (some ⟨C, 0, none⟩) := (HD.out 2 (dk (by kernel_rfl)))
  generalize xs 2 = x2 at hd2 HQ ⊢; subst hd2
  have hc : W.cell? ⟨C, 0, none⟩ = some (.int .i64 e.num) := (HW.out.cell (p := ⟨C, 0, none⟩) (by show C < _; omega)).trans qC_0
  go_wp2
  exact HQ.out _ _ (eR _) rfl
 ·
  have hd1 : xs 1 = .int .i64 e.num := (HD.out 1 (dk (by kernel_rfl)))
  generalize xs 1 = x1 at hd1 HQ ⊢; subst hd1
  have hd3 : xs 3 = .int .i64 e.num := (HD.out 3 (dk (by kernel_rfl)))
  generalize xs 3 = x3 at hd3 HQ ⊢; subst hd3
  go_wp2
  exact HQ.out _ _ (eR _) rfl
 ·
  have hd4 : xs 4 = .bool true := (HD.out 4 (dk (by kernel_rfl)))
  generalize xs 4 = x4 at hd4 HQ ⊢; subst hd4
  go_wp2
  exact HQ.out _ _ (eR _) rfl
 ·
  have hd5 : xs 5 = .bool true := (HD.out 5 (dk (by kernel_rfl)))
  generalize xs 5 = x5 at hd5 HQ ⊢; subst hd5
  go_wp2
  exact HQ.out _ _ (eR _) rfl
 ·
  have hd5 : xs 5 = .bool true := (HD.out 5 (dk (by kernel_rfl)))
  generalize xs 5 = x5 at hd5 HQ ⊢; subst hd5
  have hd6 : xs 6 = .pointer (some ⟨B, 21, none⟩) := (HD.out 6 (dk (by kernel_rfl)))
  generalize xs 6 = x6 at hd6 HQ ⊢; subst hd6
  have hc : W.cell? ⟨B, 21, none⟩ = some (.int .i64 e.serial) := (HW.out.cell (p := ⟨B, 21, none⟩) (by show B < _; omega)).trans qB_21
  go_wp2
  exact HQ.out _ _ (eR _) rfl
 ·
  have hd5 : xs 5 = .bool true := (HD.out 5 (dk (by kernel_rfl)))
  generalize xs 5 = x5 at hd5 HQ ⊢; subst hd5
  go_wp2
  exact HQ.out _ _ (eR _) rfl
 ·
  have hd5 : xs 5 = .bool true := (HD.out 5 (dk (by kernel_rfl)))
  generalize xs 5 = x5 at hd5 HQ ⊢; subst hd5
  have hd8 : xs 8 = .pointer (some ⟨C, 21, none⟩) := (HD.out 8 (dk (by kernel_rfl)))
  generalize xs 8 = x8 at hd8 HQ ⊢; subst hd8
  have hc : W.cell? ⟨C, 21, none⟩ = some (.int .i64 e.serial) := (HW.out.cell (p := ⟨C, 21, none⟩) (by show C < _; omega)).trans qC_21
  go_wp2
  exact HQ.out _ _ (eR _) rfl
 ·
  have hd5 : xs 5 = .bool true := (HD.out 5 (dk (by kernel_rfl)))
  generalize xs 5 = x5 at hd5 HQ ⊢; subst hd5
  have hd7 : xs 7 = .int .i64 e.serial := (HD.out 7 (dk (by kernel_rfl)))
  generalize xs 7 = x7 at hd7 HQ ⊢; subst hd7
  have hd9 : xs 9 = .int .i64 e.serial := (HD.out 9 (dk (by kernel_rfl)))
  generalize xs 9 = x9 at hd9 HQ ⊢; subst hd9
  go_wp2
  exact HQ.out _ _ (eR _) rfl
 ·
  have hd5 : xs 5 = .bool true := (HD.out 5 (dk (by kernel_rfl)))
  generalize xs 5 = x5 at hd5 HQ ⊢; subst hd5
  have hd10 : xs 10 = .bool true := (HD.out 10 (dk (by kernel_rfl)))
  generalize xs 10 = x10 at hd10 HQ ⊢; subst hd10
  go_wp2
  exact HQ.out _ _ (eR _) rfl
 ·
  have hd11 : xs 11 = .bool true := (HD.out 11 (dk (by kernel_rfl)))
  generalize xs 11 = x11 at hd11 HQ ⊢; subst hd11
  go_wp2
  exact HQ.out _ _ (eR _) rfl
 ·
  have hd12 : xs 12 = .bool true := (HD.out 12 (dk (by kernel_rfl)))
  generalize xs 12 = x12 at hd12 HQ ⊢; subst hd12
  go_wp2
  exact HQ.out _ _ (eR _) rfl
 ·
  have hd12 : xs 12 = .bool true := (HD.out 12 (dk (by kernel_rfl)))
  generalize xs 12 = x12 at hd12 HQ ⊢; subst hd12
  have hd13 : xs 13 = .pointer (some ⟨B, 22, none⟩) := (HD.out 13 (dk (by kernel_rfl)))
  generalize xs 13 = x13 at hd13 HQ ⊢; subst hd13
  have hc := (row_extW HW.out (b := B) (by omega) 22 16).trans kB_22_16
  go_wp2
  exact HQ.out _ _ (eR _) rfl
 ·
  have hd12 : xs 12 = .bool true := (HD.out 12 (dk (by kernel_rfl)))
  generalize xs 12 = x12 at hd12 HQ ⊢; subst hd12
  go_wp2
  exact HQ.out _ _ (eR _) rfl
 ·
  have hd12 : xs 12 = .bool true := (HD.out 12 (dk (by kernel_rfl)))
  generalize xs 12 = x12 at hd12 HQ ⊢; subst hd12
  have hd15 : xs 15 = .pointer (some ⟨C, 22, none⟩) := (HD.out 15 (dk (by kernel_rfl)))
  generalize xs 15 = x15 at hd15 HQ ⊢; subst hd15
  have hc := (row_extW HW.out (b := C) (by omega) 22 16).trans kC_22_16
  go_wp2
  exact HQ.out _ _ (eR _) rfl
 ·
  have hd12 : xs 12 = .bool true := (HD.out 12 (dk (by kernel_rfl)))
  generalize xs 12 = x12 at hd12 HQ ⊢; subst hd12
  have hd14 : xs 14 = .agg (dgC e.sl) := (HD.out 14 (dk (by kernel_rfl)))
  generalize xs 14 = x14 at hd14 HQ ⊢; subst hd14
  have hd16 : xs 16 = .agg (dgC e.sl) := (HD.out 16 (dk (by kernel_rfl)))
  generalize xs 16 = x16 at hd16 HQ ⊢; subst hd16
  go_wp2
  exact HQ.out _ _ (eR _) rfl
 ·
  have hd12 : xs 12 = .bool true := (HD.out 12 (dk (by kernel_rfl)))
  generalize xs 12 = x12 at hd12 HQ ⊢; subst hd12
  have hd17 : xs 17 = .bool true := (HD.out 17 (dk (by kernel_rfl)))
  generalize xs 17 = x17 at hd17 HQ ⊢; subst hd17
  go_wp2
  exact HQ.out _ _ (eR _) rfl
 ·
  have hd18 : xs 18 = .bool true := (HD.out 18 (dk (by kernel_rfl)))
  generalize xs 18 = x18 at hd18 HQ ⊢; subst hd18
  go_wp2
  exact HQ.out _ _ (eR _) rfl
 ·
  have hd19 : xs 19 = .bool true := (HD.out 19 (dk (by kernel_rfl)))
  generalize xs 19 = x19 at hd19 HQ ⊢; subst hd19
  go_wp2
  exact HQ.out _ _ (eR _) rfl
 ·
  have hd19 : xs 19 = .bool true := (HD.out 19 (dk (by kernel_rfl)))
  generalize xs 19 = x19 at hd19 HQ ⊢; subst hd19
  have hd20 : xs 20 = .pointer (some ⟨B, 17, none⟩) := (HD.out 20 (dk (by kernel_rfl)))
  generalize xs 20 = x20 at hd20 HQ ⊢; subst hd20
  have hc := (row_extW HW.out (b := B) (by omega) 17 2).trans kB_17_2
  go_wp2
  exact HQ.out _ _ (eR _) rfl
 ·
  have hd19 : xs 19 = .bool true := (HD.out 19 (dk (by kernel_rfl)))
  generalize xs 19 = x19 at hd19 HQ ⊢; subst hd19
  go_wp2
  exact HQ.out _ _ (eR _) rfl
 ·
  have hd19 : xs 19 = .bool true := (HD.out 19 (dk (by kernel_rfl)))
  generalize xs 19 = x19 at hd19 HQ ⊢; subst hd19
  have hd22 : xs 22 = .pointer (some ⟨C, 17, none⟩) := (HD.out 22 (dk (by kernel_rfl)))
  generalize xs 22 = x22 at hd22 HQ ⊢; subst hd22
  have hc := (row_extW HW.out (b := C) (by omega) 17 2).trans kC_17_2
  go_wp2
  exact HQ.out _ _ (eR _) rfl
 ·
  have hd19 : xs 19 = .bool true := (HD.out 19 (dk (by kernel_rfl)))
  generalize xs 19 = x19 at hd19 HQ ⊢; subst hd19
  have hd21 : xs 21 = .agg (pdC e.lo e.hi) := (HD.out 21 (dk (by kernel_rfl)))
  generalize xs 21 = x21 at hd21 HQ ⊢; subst hd21
  have hd23 : xs 23 = .agg (pdC e.lo e.hi) := (HD.out 23 (dk (by kernel_rfl)))
  generalize xs 23 = x23 at hd23 HQ ⊢; subst hd23
  go_wp2
  exact HQ.out _ _ (eR _) rfl
 ·
  have hd19 : xs 19 = .bool true := (HD.out 19 (dk (by kernel_rfl)))
  generalize xs 19 = x19 at hd19 HQ ⊢; subst hd19
  have hd24 : xs 24 = .bool true := (HD.out 24 (dk (by kernel_rfl)))
  generalize xs 24 = x24 at hd24 HQ ⊢; subst hd24
  go_wp2
  exact HQ.out _ _ (eR _) rfl
 ·
  have hd25 : xs 25 = .bool true := (HD.out 25 (dk (by kernel_rfl)))
  generalize xs 25 = x25 at hd25 HQ ⊢; subst hd25
  go_wp2
  exact HQ.out _ _ (eR _) rfl
 ·
  have hd26 : xs 26 = .bool true := (HD.out 26 (dk (by kernel_rfl)))
  generalize xs 26 = x26 at hd26 HQ ⊢; subst hd26
  go_wp2
  exact HQ.out _ _ (eR _) rfl
 ·
  have hd26 : xs 26 = .bool true := (HD.out 26 (dk (by kernel_rfl)))
  generalize xs 26 = x26 at hd26 HQ ⊢; subst hd26
  have hd27 : xs 27 = .pointer (some ⟨B, 1, none⟩) := (HD.out 27 (dk (by kernel_rfl)))
  generalize xs 27 = x27 at hd27 HQ ⊢; subst hd27
  have hc := (row_extW HW.out (b := B) (by omega) 1 16).trans kB_1_16
  go_wp2
  exact HQ.out _ _ (eR _) rfl
 ·
  have hd26 : xs 26 = .bool true := (HD.out 26 (dk (by kernel_rfl)))
  generalize xs 26 = x26 at hd26 HQ ⊢; subst hd26
  go_wp2
  exact HQ.out _ _ (eR _) rfl
 ·
  have hd26 : xs 26 = .bool true := (HD.out 26 (dk (by kernel_rfl)))
  generalize xs 26 = x26 at hd26 HQ ⊢; subst hd26
  have hd29 : xs 29 = .pointer (some ⟨C, 1, none⟩) := (HD.out 29 (dk (by kernel_rfl)))
  generalize xs 29 = x29 at hd29 HQ ⊢; subst hd29
  have hc := (row_extW HW.out (b := C) (by omega) 1 16).trans kC_1_16
  go_wp2
  exact HQ.out _ _ (eR _) rfl
 ·
  have hd26 : xs 26 = .bool true := (HD.out 26 (dk (by kernel_rfl)))
  generalize xs 26 = x26 at hd26 HQ ⊢; subst hd26
  have hd28 : xs 28 = .agg (dgC e.prev) := (HD.out 28 (dk (by kernel_rfl)))
  generalize xs 28 = x28 at hd28 HQ ⊢; subst hd28
  have hd30 : xs 30 = .agg (dgC e.prev) := (HD.out 30 (dk (by kernel_rfl)))
  generalize xs 30 = x30 at hd30 HQ ⊢; subst hd30
  go_wp2
  exact HQ.out _ _ (eR _) rfl
 ·
  have hd26 : xs 26 = .bool true := (HD.out 26 (dk (by kernel_rfl)))
  generalize xs 26 = x26 at hd26 HQ ⊢; subst hd26
  have hd31 : xs 31 = .bool true := (HD.out 31 (dk (by kernel_rfl)))
  generalize xs 31 = x31 at hd31 HQ ⊢; subst hd31
  go_wp2
  exact HQ.out _ _ (eR _) rfl
 ·
  have hd32 : xs 32 = .bool true := (HD.out 32 (dk (by kernel_rfl)))
  generalize xs 32 = x32 at hd32 HQ ⊢; subst hd32
  go_wp2
  exact HQ.out _ _ (eR _) rfl
 ·
  have hd33 : xs 33 = .bool true := (HD.out 33 (dk (by kernel_rfl)))
  generalize xs 33 = x33 at hd33 HQ ⊢; subst hd33
  go_wp2
  exact HQ.out _ _ (eR _) rfl
 ·
  have hd33 : xs 33 = .bool true := (HD.out 33 (dk (by kernel_rfl)))
  generalize xs 33 = x33 at hd33 HQ ⊢; subst hd33
  have hd34 : xs 34 = .pointer (some ⟨B, 19, none⟩) := (HD.out 34 (dk (by kernel_rfl)))
  generalize xs 34 = x34 at hd34 HQ ⊢; subst hd34
  have hc : W.cell? ⟨B, 19, none⟩ = some (.slice e.PA e.pu.length e.pc) := (HW.out.cell (p := ⟨B, 19, none⟩) (by show B < _; omega)).trans qB_19
  go_wp2
  exact HQ.out _ _ (eR _) rfl
 ·
  have hd33 : xs 33 = .bool true := (HD.out 33 (dk (by kernel_rfl)))
  generalize xs 33 = x33 at hd33 HQ ⊢; subst hd33
  have hd35 : xs 35 = .slice e.PA e.pu.length e.pc := (HD.out 35 (dk (by kernel_rfl)))
  generalize xs 35 = x35 at hd35 HQ ⊢; subst hd35
  go_wp2
  exact HQ.out _ _ (eR _) rfl
 ·
  have hd33 : xs 33 = .bool true := (HD.out 33 (dk (by kernel_rfl)))
  generalize xs 33 = x33 at hd33 HQ ⊢; subst hd33
  go_wp2
  exact HQ.out _ _ (eR _) rfl
 ·
  have hd33 : xs 33 = .bool true := (HD.out 33 (dk (by kernel_rfl)))
  generalize xs 33 = x33 at hd33 HQ ⊢; subst hd33
  have hd37 : xs 37 = .pointer (some ⟨C, 19, none⟩) := (HD.out 37 (dk (by kernel_rfl)))
  generalize xs 37 = x37 at hd37 HQ ⊢; subst hd37
  have hc : W.cell? ⟨C, 19, none⟩ = some (.slice z.PA e.pu.length z.pc) := (HW.out.cell (p := ⟨C, 19, none⟩) (by show C < _; omega)).trans qC_19
  go_wp2
  exact HQ.out _ _ (eR _) rfl
 ·
  have hd33 : xs 33 = .bool true := (HD.out 33 (dk (by kernel_rfl)))
  generalize xs 33 = x33 at hd33 HQ ⊢; subst hd33
  have hd38 : xs 38 = .slice z.PA e.pu.length z.pc := (HD.out 38 (dk (by kernel_rfl)))
  generalize xs 38 = x38 at hd38 HQ ⊢; subst hd38
  go_wp2
  exact HQ.out _ _ (eR _) rfl
 ·
  have hd33 : xs 33 = .bool true := (HD.out 33 (dk (by kernel_rfl)))
  generalize xs 33 = x33 at hd33 HQ ⊢; subst hd33
  have hd36 : xs 36 = .int .i64 e.pu.length := (HD.out 36 (dk (by kernel_rfl)))
  generalize xs 36 = x36 at hd36 HQ ⊢; subst hd36
  have hd39 : xs 39 = .int .i64 e.pu.length := (HD.out 39 (dk (by kernel_rfl)))
  generalize xs 39 = x39 at hd39 HQ ⊢; subst hd39
  go_wp2
  exact HQ.out _ _ (eR _) rfl
 ·
  have hd33 : xs 33 = .bool true := (HD.out 33 (dk (by kernel_rfl)))
  generalize xs 33 = x33 at hd33 HQ ⊢; subst hd33
  have hd40 : xs 40 = .bool true := (HD.out 40 (dk (by kernel_rfl)))
  generalize xs 40 = x40 at hd40 HQ ⊢; subst hd40
  go_wp2
  exact HQ.out _ _ (eR _) rfl
 ·
  have hd41 : xs 41 = .bool true := (HD.out 41 (dk (by kernel_rfl)))
  generalize xs 41 = x41 at hd41 HQ ⊢; subst hd41
  go_wp2
  exact HQ.out _ _ (eR _) rfl
 ·
  have hd42 : xs 42 = .bool true := (HD.out 42 (dk (by kernel_rfl)))
  generalize xs 42 = x42 at hd42 HQ ⊢; subst hd42
  have hc := (row_extW HW.out (b := B) (by omega) 0 38).trans kB_0_38
  go_wp2
  exact HQ.out _ _ (eR _) rfl
 ·
  have hd42 : xs 42 = .bool true := (HD.out 42 (dk (by kernel_rfl)))
  generalize xs 42 = x42 at hd42 HQ ⊢; subst hd42
  have hd43 : xs 43 = .agg (epC e) := (HD.out 43 (dk (by kernel_rfl)))
  generalize xs 43 = x43 at hd43 HQ ⊢; subst hd43
  go_wp2_with (go_at_call 62; refine (HI1.out _ (HX1.out.trans HW.out)).mono ?_; rintro r w1 ⟨⟨A, c, l', rfl, hl', ho⟩, hx⟩)
  exact HQ.out _ _ hx (readZ_of ho hl'.out)
 ·
  have hd42 : xs 42 = .bool true := (HD.out 42 (dk (by kernel_rfl)))
  generalize xs 42 = x42 at hd42 HQ ⊢; subst hd42
  have hc := (row_extW HW.out (b := C) (by omega) 0 38).trans kC_0_38
  go_wp2
  exact HQ.out _ _ (eR _) rfl
 ·
  have hd42 : xs 42 = .bool true := (HD.out 42 (dk (by kernel_rfl)))
  generalize xs 42 = x42 at hd42 HQ ⊢; subst hd42
  have hd45 : xs 45 = .agg (epC z) := (HD.out 45 (dk (by kernel_rfl)))
  generalize xs 45 = x45 at hd45 HQ ⊢; subst hd45
  go_wp2_with (go_at_call 62; refine (HI2.out _ (HX1.out.trans HW.out)).mono ?_; rintro r w1 ⟨⟨A, c, l', rfl, hl', ho⟩, hx⟩)
  exact HQ.out _ _ hx (readZ_of ho hl'.out)
 ·
  have hd42 : xs 42 = .bool true := (HD.out 42 (dk (by kernel_rfl)))
  generalize xs 42 = x42 at hd42 HQ ⊢; subst hd42
  have hs44 : (readZ (epParts e)).S (xs 44) W := (HD.out 44 (dk (by kernel_rfl)))
  have hs46 : (readZ (epParts e)).S (xs 46) W := (HD.out 46 (dk (by kernel_rfl)))
  obtain ⟨A4, c4, h4, hr4, _⟩ := hs44
  obtain ⟨A6, c6, h6, hr6, _⟩ := hs46
  generalize xs 44 = x44 at h4 HQ ⊢; subst h4
  generalize xs 46 = x46 at h6 HQ ⊢; subst h6
  go_wp2_with (go_at_call 84; refine (same4_any A4 _ A6 _ (epParts e) _ hlp hr4 hr6).mono ?_; rintro r w1 ⟨rfl, hx⟩)
  exact HQ.out _ _ hx rfl
 ·
  have hd42 : xs 42 = .bool true := (HD.out 42 (dk (by kernel_rfl)))
  generalize xs 42 = x42 at hd42 HQ ⊢; subst hd42
  have hd47 : xs 47 = .bool true := (HD.out 47 (dk (by kernel_rfl)))
  generalize xs 47 = x47 at hd47 HQ ⊢; subst hd47
  go_wp2
  exact HQ.out _ _ (eR _) rfl
 ·
  have hd48 : xs 48 = .bool true := (HD.out 48 (dk (by kernel_rfl)))
  generalize xs 48 = x48 at hd48 HQ ⊢; subst hd48
  go_wp2
  exact HQ.out _ _ (eR _) rfl
 intro xs W3 hW hS
 have h49 : xs 49 = .bool true := hS 49 (by omega)
 simp only [fillAt, dstOf, lc0, lcs, obs, Act.put, lsa, lsz, lss, nz, Nat.reduceAdd, List.drop_succ_cons, List.drop_zero, List.drop_nil]
 generalize xs 49 = x49 at *; subst h49
 have HW3 := lh (HX1.out.trans hW)
 have HWW3 := lh hW
 clear hS hW qB_0 qC_0 qB_21 qC_21 qB_19 qC_19 kB_22_16 kC_22_16 kB_17_2 kC_17_2 kB_1_16 kC_1_16 kB_0_38 kC_0_38
 go_wp2
 go_ret
 exact ⟨rfl, HW3.out⟩
theorem rsame31_any (A1 : Option Addr) (c1 : Nat) (A2 : Option Addr) (c2 : Nat) (l : List Ep) (w : World) (hl : l.length ≤ 100) (h1 : ChAt w A1 l) (h2 : ChAt w A2 l) :
  Calls Tryz.prog 40 #[.slice A1 l.length c1, .slice A2 l.length c2] w fun r w' => r = .returned (.bool true) ∧ Ext w w' := by
 have H1 := lh h1
 have H2 := lh h2
 have HS := lh (fun (e : Ep) (he : e ∈ l) (W : World) (hx : Ext w W) => rsameEp_any e e.PA e.pc e.RA e.rc W (h1.ok e he).1 (h1.ok e he).2.1 ((h1.ok e he).2.2.on hx) (h1.ok e he).1 ((h1.ok e he).2.2.on hx))
 clear h1 h2
 go_enter Tryz.func40, Tryz.ntmps40
 go_wp2
 go_loopw [5, 6] (fun i _ wr => ∃ k : Nat, k ≤ l.length ∧ i = .int .i64 k ∧ Hid (Ext w wr)) (fun i _ _ => l.length - (intOf i).toNat)
 case atStart => exact ⟨0, Nat.zero_le _, rfl, lh (eR _)⟩
 case round =>
  obtain ⟨k, hk, rfl, HX⟩ := hrel
  by_cases hlt : k < l.length
  ·obtain ⟨b, off, rfl, hb, kr⟩ := epr_at (H1.out.rd.on HX.out) k hlt
   obtain ⟨b', off', rfl, hb', kr'⟩ := epr_at (H2.out.rd.on HX.out) k hlt
   have HSk := HS.out l[k] (List.getElem_mem hlt)
   generalize l[k] = e at *
   have HSe : Hid (∀ W, Ext w W → Calls Tryz.prog 41 #[.agg (epC e), .agg (epC e)] W fun r w' => r = .returned (.bool true) ∧ Ext W w') := lh HSk
   have hfe := ep_fits e
   clear HSk HS
   go_upto_region 6 with (fail)
   refine wp_region_later (by kernel_rfl) (by kernel_rfl) ?_
   repeat (first | go_big_quiet_step ((go_at_call 41; exact quietE (HSe.out _ (HX.out.onto _)))) | quiet_step ((go_at_call 41; exact quietE (HSe.out _ (HX.out.onto _)))))
   refine wpQuiet_nil ?_
   rintro _ ⟨xq, rfl⟩
   go_wp2
   go_roundw
   case rel => exact ⟨k + 1, by omega, by go_num, lh (by (with_reducible repeat first|exact HX.out|exact eR _|apply eD|apply eN|apply eA|apply eO|apply eS|apply eC);all_goals first|omega|simp <;> omega)⟩
   case measure => simp [intOf]; omega
  ·have e : k = l.length := by omega
   subst e
   go_wp2
   go_ret
   exact ⟨rfl, HX.out⟩
end Go.Proofs.YtpojnhikgjcgmaaGreatDoor