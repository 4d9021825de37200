/- weirgatelaw35.EntryPacksBack, the lifted law: it returns true for every entry and text, and leaves its arguments as they were; the listed tables hold what the program's text lays (the card ties them). No other condition. -/
import Derived.WalkKit
import Derived.WalkSpells
import Derived.WalkLawsBesides
import Derived.Deep.QuietTactic
import Derived.BigQuiet
import Derived.Test.YtmgekdggahoboaaGreatDoorVEpa
import Derived.Test.YtmgekdggahoboaaGreatDoorTie
import Derived.Test.YtmgekdggahoboaaGreatDoorCards
import Derived.ProofKit
import Derived.Lay
import Derived.ChangeMaps5
import Derived.SevenTiedAt
import Derived.Stop.Joined
set_option maxRecDepth 100000
set_option maxHeartbeats 64000000
set_option linter.unusedVariables false
set_option linter.unusedSimpArgs false
namespace Go.Proofs.YtmgekdggahoboaaGreatDoor
open Go.RowKit
open Go.Proofs
open Go.Proofs.Sp (Sp)
theorem rpack_any (e : En) (A : Option Addr) (c : Nat) (l : List Sp) (w : World) (hv : e.hv = .slice A l.length c) (hl : l.length ≤ 10000) (hr : Reads 2 encSp w w.heap.size A l) (hb : e.st.body.length = 16) (hs : e.st.seal_.length = 16) (hi : ∀ x ∈ packN e l, i64 x) (hz : (encStrs (packT e)).length ≤ 1000000000) :
  Calls Tryz.prog 37 #[.agg (entC e)] w fun r w' => r = .returned (.string (packB e l)) ∧ Ext w w' := by
 have hfs := stm_fits e.st
 have HRw := lh hr
 clear hr
 go_enter Tryz.func37, Tryz.ntmps37
 go_upto_region 2 with (fail)
 refine wp_world (fun W => Ext w W ∧ RowAt W w.heap.size (entC e) ∧ RowAt W (w.heap.size + 1) (stmC e.st)) ⟨(by (with_reducible repeat first|exact eR _|apply eD|apply eN|apply eA|apply eO|apply eS|apply eC);all_goals first|omega|simp <;> omega), ?_, ?_⟩ ?_
 ·exact RowAt.others ((RowAt.new _ _ _).alloc _) (by omega) _ _
 ·exact RowAt.store (RowAt.newAt (by simp)) rfl
 obtain ⟨B, hB⟩ : ∃ B, w.heap.size = B := ⟨_, rfl⟩
 rw [hB]
 rintro W2 ⟨x2, u0, u1⟩
 have HX2 := lh x2
 have HU0 := lh u0
 have HU1 := lh u1
 have hl2 := u1.lt
 have HR := lh (HRw.out.on x2)
 have c2 : W2.cell? ⟨B + 1, 2, none⟩ = some (.int .i64 e.st.status) := (u1.cell 2).trans (stm_g2 _)
 have c3 : W2.cell? ⟨B + 1, 3, none⟩ = some (.int .i64 e.st.size) := (u1.cell 3).trans (stm_g3 _)
 have c21 : W2.cell? ⟨B + 1, 21, none⟩ = some (.int .i64 e.st.lo) := (u1.cell 21).trans (stm_g21 _)
 have c22 : W2.cell? ⟨B + 1, 22, none⟩ = some (.int .i64 e.st.hi) := (u1.cell 22).trans (stm_g22 _)
 have c23 : W2.cell? ⟨B + 1, 23, none⟩ = some (.int .i64 e.st.gate) := (u1.cell 23).trans (stm_g23 _)
 have c24 : W2.cell? ⟨B + 1, 24, none⟩ = some (.int .i64 e.st.serial) := (u1.cell 24).trans (stm_g24 _)
 have q41 : W2.cell? ⟨B, 41, none⟩ = some (.bool e.soft) := (u0.cell 41).trans (ent_g41 e)
 clear x2 u0 u1 HRw hfs
 cases hsf : e.soft with
 | false =>
  rw [hsf] at q41
  have hsi : (if e.soft = true then (1 : Int) else 0) = 0 := by rw [hsf]; rfl
  go_upto_region 6 with (fail)
  refine wp_world (fun W => Ext W2 W ∧ TRow W W2.heap.size (#[.int .i64 e.st.status, .int .i64 e.st.size, .int .i64 e.st.lo, .int .i64 e.st.hi, .int .i64 e.st.gate, .int .i64 e.st.serial, .int .i64 0]) 3) ⟨(by (with_reducible repeat first|exact eR _|apply eD|apply eN|apply eA|apply eO|apply eS|apply eC);all_goals first|omega|simp <;> omega), TRow.new _ _ _⟩ ?_
  obtain ⟨g, hg⟩ : ∃ g, W2.heap.size = g := ⟨_, rfl⟩
  rw [hg]
  rintro W5 ⟨x5, t5⟩
  have HX25 := lh x5
  have HOw : Hid (Owns 3 1 encZ W2.heap.size W5 (some ⟨g, 0, none⟩) 7 (n7 e)) := lh (owns_t zE (n7 e) (by omega) t5 (by unfold n7; rw [hsi]; rfl) rfl)
  clear x5 t5 c2 c3 c21 c22 c23 c24 q41
  go_wp2
  go_loopw [5, 6] (fun o i wr => ∃ (k : Nat) (Ao : Option Addr) (co : Nat) (out : List Int), o = .slice Ao out.length co ∧ i = .int .i64 k ∧ k ≤ l.length ∧ Hid (out = n7 e ++ (l.take k).flatMap (fun s => [s.1, s.2])) ∧ Hid (Owns 3 1 encZ W2.heap.size wr Ao co out) ∧ Hid (Ext W2 wr)) (fun _ i _ => l.length - (intOf i).toNat)
  case atStart => exact ⟨0, some ⟨g, 0, none⟩, 7, n7 e, rfl, rfl, Nat.zero_le _, lh (by simp), HOw, HX25⟩
  case round =>
   obtain ⟨k, Ao, co, out, rfl, rfl, hk, HOu, HO, HX⟩ := hrel
   generalize hwA : wr = wA at *
   clear hwA
   have hsz := HX.out.size
   have hol : out.length ≤ 2 * l.length + 7 := by
    have h1 := flat2_len (l.take k)
    have h2 := congrArg List.length HOu.out
    rw [List.length_append, List.length_take] at *
    have h3 : (n7 e).length = 7 := rfl
    omega
   have u0 := HU0.out.ext HX.out
   have q42 : wA.cell? ⟨B, 42, none⟩ = some (.slice A l.length c) := (u0.cell 42).trans ((ent_g42 e).trans (by rw [hv]))
   have hBw := u0.lt
   clear u0
   by_cases hlt : k < l.length
   ·obtain ⟨b, off, rfl, hb, hc⟩ := (HR.out.on HX.out) (by omega)
    have c0 : wA.cell? ⟨b, off + k * 2, none⟩ = some (.int .i64 l[k].1) := by simpa using hc k hlt 0 _ rfl
    have c1 : wA.cell? ⟨b, off + k * 2 + 1, none⟩ = some (.int .i64 l[k].2) := by simpa using hc k hlt 1 _ rfl
    have HN : Hid (n7 e ++ (l.take (k + 1)).flatMap (fun s => [s.1, s.2]) = out ++ [l[k].1, l[k].2]) := lh (by rw [HOu.out, List.take_succ_eq_append_getElem hlt, List.flatMap_append]; simp)
    generalize l[k].1 = x0 at *
    generalize l[k].2 = x1 at *
    clear hc
    go_upto_region 9 with (fail)
    refine wp_region_soft 14 (softsL [.eq (.slice Ao out.length co), .eq (.pointer (some ⟨B, 42, none⟩)), .eq (.slice (some ⟨b, off, none⟩) l.length c), .eq (.int .i64 k), .eq (.pointer (some ⟨b, off + k * 2, none⟩)), .eq (.pointer (some ⟨b, off + k * 2, none⟩)), .eq (.int .i64 x0), .eq (.pointer (some ⟨B, 42, none⟩)), .eq (.slice (some ⟨b, off, none⟩) l.length c), .eq (.int .i64 k), .eq (.pointer (some ⟨b, off + k * 2, none⟩)), .eq (.pointer (some ⟨b, off + k * 2 + 1, none⟩)), .eq (.int .i64 x1), readI ([x0, x1])]) (by kernel_rfl) (by kernel_rfl) (lt_cons ?_ (lt_cons ?_ (lt_cons ?_ (lt_cons ?_ (lt_cons ?_ (lt_cons ?_ (lt_cons ?_ (lt_cons ?_ (lt_cons ?_ (lt_cons ?_ (lt_cons ?_ (lt_cons ?_ (lt_cons ?_ (lt_cons ?_ (lt_none))))))))))))))) ?_
    any_goals (refine sop rfl fun xs W HW hsW HD Q' HQ => ?_; simp only [fillAt, dstOf, lc0, lcs, obs, Act.put, lsa, lsz, lss, nz, Nat.reduceAdd] at HQ ⊢)
    ·
     go_wp2
     exact HQ.out _ _ (eR _) rfl
    ·
     go_wp2
     exact HQ.out _ _ (eR _) rfl
    ·
     have hd1 : xs 1 = .pointer (some ⟨B, 42, none⟩) := (HD.out 1 (dk (by kernel_rfl)))
     generalize xs 1 = x1 at hd1 HQ ⊢; subst hd1
     have hc : W.cell? ⟨B, 42, none⟩ = some (.slice (some ⟨b, off, none⟩) l.length c) := (HW.out.cell (p := ⟨B, 42, none⟩) (by show B < _; omega)).trans q42
     go_wp2
     exact HQ.out _ _ (eR _) rfl
    ·
     go_wp2
     exact HQ.out _ _ (eR _) rfl
    ·
     have hd2 : xs 2 = .slice (some ⟨b, off, none⟩) l.length c := (HD.out 2 (dk (by kernel_rfl)))
     generalize xs 2 = x2 at hd2 HQ ⊢; subst hd2
     have hd3 : xs 3 = .int .i64 k := (HD.out 3 (dk (by kernel_rfl)))
     generalize xs 3 = x3 at hd3 HQ ⊢; subst hd3
     go_wp2
     exact HQ.out _ _ (eR _) rfl
    ·
     have hd4 : xs 4 = .pointer (some ⟨b, off + k * 2, none⟩) := (HD.out 4 (dk (by kernel_rfl)))
     generalize xs 4 = x4 at hd4 HQ ⊢; subst hd4
     go_wp2
     exact HQ.out _ _ (eR _) rfl
    ·
     have hd5 : xs 5 = .pointer (some ⟨b, off + k * 2, none⟩) := (HD.out 5 (dk (by kernel_rfl)))
     generalize xs 5 = x5 at hd5 HQ ⊢; subst hd5
     have hc : W.cell? ⟨b, off+k*2, none⟩ = some (.int .i64 x0) := (HW.out.cell (p := ⟨b, off+k*2, none⟩) (by show b < _; omega)).trans c0
     go_wp2
     exact HQ.out _ _ (eR _) rfl
    ·
     go_wp2
     exact HQ.out _ _ (eR _) rfl
    ·
     have hd7 : xs 7 = .pointer (some ⟨B, 42, none⟩) := (HD.out 7 (dk (by kernel_rfl)))
     generalize xs 7 = x7 at hd7 HQ ⊢; subst hd7
     have hc : W.cell? ⟨B, 42, none⟩ = some (.slice (some ⟨b, off, none⟩) l.length c) := (HW.out.cell (p := ⟨B, 42, none⟩) (by show B < _; omega)).trans q42
     go_wp2
     exact HQ.out _ _ (eR _) rfl
    ·
     go_wp2
     exact HQ.out _ _ (eR _) rfl
    ·
     have hd8 : xs 8 = .slice (some ⟨b, off, none⟩) l.length c := (HD.out 8 (dk (by kernel_rfl)))
     generalize xs 8 = x8 at hd8 HQ ⊢; subst hd8
     have hd9 : xs 9 = .int .i64 k := (HD.out 9 (dk (by kernel_rfl)))
     generalize xs 9 = x9 at hd9 HQ ⊢; subst hd9
     go_wp2
     exact HQ.out _ _ (eR _) rfl
    ·
     have hd10 : xs 10 = .pointer (some ⟨b, off + k * 2, none⟩) := (HD.out 10 (dk (by kernel_rfl)))
     generalize xs 10 = x10 at hd10 HQ ⊢; subst hd10
     go_wp2
     exact HQ.out _ _ (eR _) rfl
    ·
     have hd11 : xs 11 = .pointer (some ⟨b, off + k * 2 + 1, none⟩) := (HD.out 11 (dk (by kernel_rfl)))
     generalize xs 11 = x11 at hd11 HQ ⊢; subst hd11
     have hc : W.cell? ⟨b, off+k*2+1, none⟩ = some (.int .i64 x1) := (HW.out.cell (p := ⟨b, off+k*2+1, none⟩) (by show b < _; omega)).trans c1
     go_wp2
     exact HQ.out _ _ (eR _) rfl
    ·
     have hd6 : xs 6 = .int .i64 x0 := (HD.out 6 (dk (by kernel_rfl)))
     generalize xs 6 = x6 at hd6 HQ ⊢; subst hd6
     have hd12 : xs 12 = .int .i64 x1 := (HD.out 12 (dk (by kernel_rfl)))
     generalize xs 12 = x12 at hd12 HQ ⊢; subst hd12
     go_wp2
     exact HQ.out _ _ ((eR _).alloc _) ⟨_, _, rfl, reads_fresh zE ([x0, x1]) W _ _ rfl⟩
    intro xs W9 hW hS
    have h0 : xs 0 = .slice Ao out.length co := hS 0 (by omega)
    obtain ⟨A13, c13, h13, hr13⟩ : (readI ([x0, x1])).S (xs 13) W9 := hS 13 (by omega)
    simp only [fillAt, dstOf, lc0, lcs, obs, Act.put, lsa, lsz, lss, nz, Nat.reduceAdd, List.drop_succ_cons, List.drop_zero, List.drop_nil]
    generalize xs 0 = x0 at *; subst h0
    generalize xs 13 = x13 at *; subst h13
    have HW9 := lh (HX.out.trans hW)
    have HWW9 := lh hW
    clear hS hW q42 c0 c1
    have HO9' := lh (HO.out.ext HWW9.out)
    have HR13 := lh hr13
    have hs9 := HWW9.out.size
    clear hr13
    go_wp2_with (at_builtin; refine (show Hid _ from ?_).out)
    refine lh ?_
    refine app_reads nT zE rfl _ _ rfl W2.heap.size _ _ out rfl HO9'.out W9.heap.size _ _ [x0, x1] rfl HR13.out (fun h => by obtain ⟨b', o', e', _, _⟩ := HR13.out (by simp); rw [h] at e'; cases e') (by simp; omega) (by simp; omega) (by omega) ?_
    intro A9 c9 l9 w9 HL9 hO9 hB9 _ _ _
    have HO9 := lh hO9
    have HX9 : Hid (Ext W2 w9) := lh (Ext.grown (HX.out.trans HWW9.out) hB9 (Nat.le_refl _))
    have HN9 := lh (HL9.out.trans HN.out.symm)
    clear hO9 hB9 HL9 HN
    go_wp2
    go_roundw
    case rel => exact ⟨k + 1, A9, c9, l9, rfl, by go_num, by omega, HN9, HO9, lh (by (with_reducible repeat first|exact HX9.out|exact eR _|apply eD|apply eN|apply eA|apply eO|apply eS|apply eC);all_goals first|omega|simp <;> omega)⟩
    case measure => simp [intOf]; omega
   ·have HOe : Hid (out = packN e l) := lh (by rw [HOu.out, List.take_of_length_le (by omega)]; rfl)
    have hoi : ∀ x ∈ out, i64 x := by rw [HOe.out]; exact hi
    have HOi := lh hoi
    have u0 := HU0.out.ext HX.out
    have u1 := HU1.out.ext HX.out
    have HUs := lh u1
    have hB1 := u1.lt
    have d0 : wA.cell? ⟨B + 1, 0, none⟩ = some (.string e.st.addr) := (u1.cell 0).trans (stm_g0 _)
    have d1 : wA.cell? ⟨B + 1, 1, none⟩ = some (.string e.st.var) := (u1.cell 1).trans (stm_g1 _)
    have d20 : wA.cell? ⟨B + 1, 20, none⟩ = some (.string e.st.tags) := (u1.cell 20).trans (stm_g20 _)
    have d43 : wA.cell? ⟨B, 43, none⟩ = some (.string e.bytes) := (u0.cell 43).trans (ent_g43 _)
    have HXw := lh (HX2.out.trans HX.out)
    have hps : 0 < (encStrs (packT e)).length := encStrs_pos _
    have HRd := lh (HO.out.reads zE)
    have hol5 : out.length ≤ 100000 := by omega
    have hsx : (strOfNums (encStrs (packT e))).size ≤ 1000000000 := by rw [nums_size]; exact hz
    have hsy : (strOfNums (encInts out)).size ≤ 1000000000 := by rw [nums_size]; have := encInts_len out; omega
    clear u0 u1 hoi HO HX HX25 HOw
    go_upto_region 10 with (fail)
    refine wp_region_softE 17 (softsL [.eq (.pointer (some ⟨B + 1, 0, none⟩)), .eq (.string e.st.addr), .eq (.pointer (some ⟨B + 1, 1, none⟩)), .eq (.string e.st.var), .eq (.pointer (some ⟨B + 1, 4, none⟩)), .eq (.slice (some ⟨B + 1, 4, none⟩) 16 16), .eq (.string (strOfNums e.st.body)), .eq (.pointer (some ⟨B + 1, 20, none⟩)), .eq (.string e.st.tags), .eq (.pointer (some ⟨B + 1, 25, none⟩)), .eq (.slice (some ⟨B + 1, 25, none⟩) 16 16), .eq (.string (strOfNums e.st.seal_)), .eq (.pointer (some ⟨B, 43, none⟩)), .eq (.string e.bytes), readS (packT e), readBy (encStrs (packT e)), readBy (encStrs (packT e))]) (by kernel_rfl) (by kernel_rfl) (lt_cons ?_ (lt_cons ?_ (lt_cons ?_ (lt_cons ?_ (lt_cons ?_ (lt_cons ?_ (lt_cons ?_ (lt_cons ?_ (lt_cons ?_ (lt_cons ?_ (lt_cons ?_ (lt_cons ?_ (lt_cons ?_ (lt_cons ?_ (lt_cons ?_ (lt_cons ?_ (lt_cons ?_ (lt_none)))))))))))))))))) ?_
    any_goals (refine sop rfl fun xs W HW hsW HD Q' HQ => ?_; simp only [fillAt, dstOf, lc0, lcs, obs, Act.put, lsa, lsz, lss, nz, Nat.reduceAdd] at HQ ⊢)
    ·
     go_wp2
     exact HQ.out _ _ (eR _) rfl
    ·
     have hd0 : xs 0 = .pointer (some ⟨B + 1, 0, none⟩) := (HD.out 0 (dk (by kernel_rfl)))
     generalize xs 0 = x0 at hd0 HQ ⊢; subst hd0
     have hc : W.cell? ⟨B+1, 0, none⟩ = some (.string e.st.addr) := (HW.out.cell (p := ⟨B+1, 0, none⟩) (by show B+1 < _; omega)).trans d0
     go_wp2
     exact HQ.out _ _ (eR _) rfl
    ·
     go_wp2
     exact HQ.out _ _ (eR _) rfl
    ·
     have hd2 : xs 2 = .pointer (some ⟨B + 1, 1, none⟩) := (HD.out 2 (dk (by kernel_rfl)))
     generalize xs 2 = x2 at hd2 HQ ⊢; subst hd2
     have hc : W.cell? ⟨B+1, 1, none⟩ = some (.string e.st.var) := (HW.out.cell (p := ⟨B+1, 1, none⟩) (by show B+1 < _; omega)).trans d1
     go_wp2
     exact HQ.out _ _ (eR _) rfl
    ·
     go_wp2
     exact HQ.out _ _ (eR _) rfl
    ·
     have hd4 : xs 4 = .pointer (some ⟨B + 1, 4, none⟩) := (HD.out 4 (dk (by kernel_rfl)))
     generalize xs 4 = x4 at hd4 HQ ⊢; subst hd4
     go_wp2
     exact HQ.out _ _ (eR _) rfl
    ·
     have hd5 : xs 5 = .slice (some ⟨B + 1, 4, none⟩) 16 16 := (HD.out 5 (dk (by kernel_rfl)))
     generalize xs 5 = x5 at hd5 HQ ⊢; subst hd5
     have hcv := conv16 (body_reads (HUs.out.ext HW.out) hb) hb
     go_wp2
     exact HQ.out _ _ (eR _) rfl
    ·
     go_wp2
     exact HQ.out _ _ (eR _) rfl
    ·
     have hd7 : xs 7 = .pointer (some ⟨B + 1, 20, none⟩) := (HD.out 7 (dk (by kernel_rfl)))
     generalize xs 7 = x7 at hd7 HQ ⊢; subst hd7
     have hc : W.cell? ⟨B+1, 20, none⟩ = some (.string e.st.tags) := (HW.out.cell (p := ⟨B+1, 20, none⟩) (by show B+1 < _; omega)).trans d20
     go_wp2
     exact HQ.out _ _ (eR _) rfl
    ·
     go_wp2
     exact HQ.out _ _ (eR _) rfl
    ·
     have hd9 : xs 9 = .pointer (some ⟨B + 1, 25, none⟩) := (HD.out 9 (dk (by kernel_rfl)))
     generalize xs 9 = x9 at hd9 HQ ⊢; subst hd9
     go_wp2
     exact HQ.out _ _ (eR _) rfl
    ·
     have hd10 : xs 10 = .slice (some ⟨B + 1, 25, none⟩) 16 16 := (HD.out 10 (dk (by kernel_rfl)))
     generalize xs 10 = x10 at hd10 HQ ⊢; subst hd10
     have hcv := conv16 (seal_reads (HUs.out.ext HW.out) hs) hs
     go_wp2
     exact HQ.out _ _ (eR _) rfl
    ·
     go_wp2
     exact HQ.out _ _ (eR _) rfl
    ·
     have hd12 : xs 12 = .pointer (some ⟨B, 43, none⟩) := (HD.out 12 (dk (by kernel_rfl)))
     generalize xs 12 = x12 at hd12 HQ ⊢; subst hd12
     have hc : W.cell? ⟨B, 43, none⟩ = some (.string e.bytes) := (HW.out.cell (p := ⟨B, 43, none⟩) (by show B < _; omega)).trans d43
     go_wp2
     exact HQ.out _ _ (eR _) rfl
    ·
     have hd1 : xs 1 = .string e.st.addr := (HD.out 1 (dk (by kernel_rfl)))
     generalize xs 1 = x1 at hd1 HQ ⊢; subst hd1
     have hd3 : xs 3 = .string e.st.var := (HD.out 3 (dk (by kernel_rfl)))
     generalize xs 3 = x3 at hd3 HQ ⊢; subst hd3
     have hd6 : xs 6 = .string (strOfNums e.st.body) := (HD.out 6 (dk (by kernel_rfl)))
     generalize xs 6 = x6 at hd6 HQ ⊢; subst hd6
     have hd8 : xs 8 = .string e.st.tags := (HD.out 8 (dk (by kernel_rfl)))
     generalize xs 8 = x8 at hd8 HQ ⊢; subst hd8
     have hd11 : xs 11 = .string (strOfNums e.st.seal_) := (HD.out 11 (dk (by kernel_rfl)))
     generalize xs 11 = x11 at hd11 HQ ⊢; subst hd11
     have hd13 : xs 13 = .string e.bytes := (HD.out 13 (dk (by kernel_rfl)))
     generalize xs 13 = x13 at hd13 HQ ⊢; subst hd13
     go_wp2
     exact HQ.out _ _ ((eR _).alloc _) ⟨_, _, rfl, reads_fresh sE (packT e) W _ _ rfl, fun h => (by cases h)⟩
    ·
     obtain ⟨A14, c14, h14, hr14, hz14⟩ : (readS (packT e)).S (xs 14) W := (HD.out 14 (dk (by kernel_rfl)))
     generalize xs 14 = x14 at h14 HQ ⊢; subst h14
     go_wp2_with (go_at_call 86; refine (rstrs_ok A14 c14 (packT e) W (by show 6 ≤ 100000; decide) hz hr14).mono ?_; rintro e w1 ⟨A, c, rfl, ho, hx⟩)
     exact HQ.out _ _ hx ⟨A, c, rfl, ho.reads bE⟩
    ·
     obtain ⟨A15, c15, h15, hr15⟩ : (readBy (encStrs (packT e))).S (xs 15) W := (HD.out 15 (dk (by kernel_rfl)))
     generalize xs 15 = x15 at h15 HQ ⊢; subst h15
     go_wp2
     exact HQ.out _ _ (eR _) ⟨A15, c15, rfl, hr15⟩
    intro xs W9 hW hS
    have h16 : (readBy (encStrs (packT e))).S (xs 16) W9 := hS 16 (by omega)
    simp only [fillAt, dstOf, lc0, lcs, obs, Act.put, lsa, lsz, lss, nz, Nat.reduceAdd, List.drop_succ_cons, List.drop_zero, List.drop_nil]
    have HW9 := lh (HXw.out.trans hW)
    have HWW9 := lh hW
    clear hS hW d0 d1 d20 d43
    obtain ⟨A16, c16, h16, hr16⟩ := h16
    generalize xs 16 = xv16 at *
    subst h16
    have HR16 := lh hr16
    have HRd9 := lh (HRd.out.on HWW9.out)
    clear hr16 HRd HWW9
    go_upto_region 11 with (fail)
    refine wp_region_softE 7 (softsL [.eq (.slice A16 (encStrs (packT e)).length c16), .eq (.string (strOfNums (encStrs (packT e)))), .eq (.slice Ao out.length co), readBy (encInts out), .eq (.string (strOfNums (encInts out))), .eq (.string (strOfNums (encStrs (packT e)) ++ strOfNums (encInts out))), .eq (.string (strOfNums (encStrs (packT e)) ++ strOfNums (encInts out)))]) (by kernel_rfl) (by kernel_rfl) (lt_cons ?_ (lt_cons ?_ (lt_cons ?_ (lt_cons ?_ (lt_cons ?_ (lt_cons ?_ (lt_cons ?_ (lt_none)))))))) ?_
    any_goals (refine sop rfl fun xs W HW hsW HD Q' HQ => ?_; simp only [fillAt, dstOf, lc0, lcs, obs, Act.put, lsa, lsz, lss, nz, Nat.reduceAdd] at HQ ⊢)
    ·
     go_wp2
     exact HQ.out _ _ (eR _) rfl
    ·
     have hd0 : xs 0 = .slice A16 (encStrs (packT e)).length c16 := (HD.out 0 (dk (by kernel_rfl)))
     generalize xs 0 = x0 at hd0 HQ ⊢; subst hd0
     have hcv := conv_bytes c16 (HR16.out.on HW.out) hps
     go_wp2
     exact HQ.out _ _ (eR _) rfl
    ·
     go_wp2
     exact HQ.out _ _ (eR _) rfl
    ·
     have hd2 : xs 2 = .slice Ao out.length co := (HD.out 2 (dk (by kernel_rfl)))
     generalize xs 2 = x2 at hd2 HQ ⊢; subst hd2
     go_wp2_with (go_at_call 87; refine (rwints_ok Ao co out W hol5 (HRd9.out.on HW.out) HOi.out).mono ?_; rintro e w1 ⟨A, c, rfl, ho, hx⟩)
     exact HQ.out _ _ hx ⟨A, c, rfl, ho.reads bE⟩
    ·
     obtain ⟨A3, c3, h3, hr3⟩ : (readBy (encInts out)).S (xs 3) W := (HD.out 3 (dk (by kernel_rfl)))
     generalize xs 3 = x3 at h3 HQ ⊢; subst h3
     have hcv := conv_bytes c3 hr3 (encInts_pos out)
     go_wp2
     exact HQ.out _ _ (eR _) rfl
    ·
     have hd1 : xs 1 = .string (strOfNums (encStrs (packT e))) := (HD.out 1 (dk (by kernel_rfl)))
     generalize xs 1 = x1 at hd1 HQ ⊢; subst hd1
     have hd4 : xs 4 = .string (strOfNums (encInts out)) := (HD.out 4 (dk (by kernel_rfl)))
     generalize xs 4 = x4 at hd4 HQ ⊢; subst hd4
     go_wp2
     exact HQ.out _ _ (eR _) rfl
    ·
     have hd5 : xs 5 = .string (strOfNums (encStrs (packT e)) ++ strOfNums (encInts out)) := (HD.out 5 (dk (by kernel_rfl)))
     generalize xs 5 = x5 at hd5 HQ ⊢; subst hd5
     go_wp2
     exact HQ.out _ _ (eR _) rfl
    intro xs W11 hW hS
    have h6 : xs 6 = .string (strOfNums (encStrs (packT e)) ++ strOfNums (encInts out)) := hS 6 (by omega)
    simp only [fillAt, dstOf, lc0, lcs, obs, Act.put, lsa, lsz, lss, nz, Nat.reduceAdd, List.drop_succ_cons, List.drop_zero, List.drop_nil]
    generalize xs 6 = x6 at *; subst h6
    have HW11 := lh (HW9.out.trans hW)
    have HWW11 := lh hW
    clear hS hW 
    go_wp2
    go_ret
    exact ⟨by rw [HOe.out]; rfl, HW11.out⟩
 | true =>
  rw [hsf] at q41
  have hsi : (if e.soft = true then (1 : Int) else 0) = 1 := by rw [hsf]; rfl
  go_upto_region 6 with (fail)
  refine wp_world (fun W => Ext W2 W ∧ TRow W W2.heap.size (#[.int .i64 e.st.status, .int .i64 e.st.size, .int .i64 e.st.lo, .int .i64 e.st.hi, .int .i64 e.st.gate, .int .i64 e.st.serial, .int .i64 1]) 3) ⟨(by (with_reducible repeat first|exact eR _|apply eD|apply eN|apply eA|apply eO|apply eS|apply eC);all_goals first|omega|simp <;> omega), TRow.new _ _ _⟩ ?_
  obtain ⟨g, hg⟩ : ∃ g, W2.heap.size = g := ⟨_, rfl⟩
  rw [hg]
  rintro W5 ⟨x5, t5⟩
  have HX25 := lh x5
  have HOw : Hid (Owns 3 1 encZ W2.heap.size W5 (some ⟨g, 0, none⟩) 7 (n7 e)) := lh (owns_t zE (n7 e) (by omega) t5 (by unfold n7; rw [hsi]; rfl) rfl)
  clear x5 t5 c2 c3 c21 c22 c23 c24 q41
  go_wp2
  go_loopw [5, 6] (fun o i wr => ∃ (k : Nat) (Ao : Option Addr) (co : Nat) (out : List Int), o = .slice Ao out.length co ∧ i = .int .i64 k ∧ k ≤ l.length ∧ Hid (out = n7 e ++ (l.take k).flatMap (fun s => [s.1, s.2])) ∧ Hid (Owns 3 1 encZ W2.heap.size wr Ao co out) ∧ Hid (Ext W2 wr)) (fun _ i _ => l.length - (intOf i).toNat)
  case atStart => exact ⟨0, some ⟨g, 0, none⟩, 7, n7 e, rfl, rfl, Nat.zero_le _, lh (by simp), HOw, HX25⟩
  case round =>
   obtain ⟨k, Ao, co, out, rfl, rfl, hk, HOu, HO, HX⟩ := hrel
   generalize hwA : wr = wA at *
   clear hwA
   have hsz := HX.out.size
   have hol : out.length ≤ 2 * l.length + 7 := by
    have h1 := flat2_len (l.take k)
    have h2 := congrArg List.length HOu.out
    rw [List.length_append, List.length_take] at *
    have h3 : (n7 e).length = 7 := rfl
    omega
   have u0 := HU0.out.ext HX.out
   have q42 : wA.cell? ⟨B, 42, none⟩ = some (.slice A l.length c) := (u0.cell 42).trans ((ent_g42 e).trans (by rw [hv]))
   have hBw := u0.lt
   clear u0
   by_cases hlt : k < l.length
   ·obtain ⟨b, off, rfl, hb, hc⟩ := (HR.out.on HX.out) (by omega)
    have c0 : wA.cell? ⟨b, off + k * 2, none⟩ = some (.int .i64 l[k].1) := by simpa using hc k hlt 0 _ rfl
    have c1 : wA.cell? ⟨b, off + k * 2 + 1, none⟩ = some (.int .i64 l[k].2) := by simpa using hc k hlt 1 _ rfl
    have HN : Hid (n7 e ++ (l.take (k + 1)).flatMap (fun s => [s.1, s.2]) = out ++ [l[k].1, l[k].2]) := lh (by rw [HOu.out, List.take_succ_eq_append_getElem hlt, List.flatMap_append]; simp)
    generalize l[k].1 = x0 at *
    generalize l[k].2 = x1 at *
    clear hc
    go_upto_region 9 with (fail)
    refine wp_region_soft 14 (softsL [.eq (.slice Ao out.length co), .eq (.pointer (some ⟨B, 42, none⟩)), .eq (.slice (some ⟨b, off, none⟩) l.length c), .eq (.int .i64 k), .eq (.pointer (some ⟨b, off + k * 2, none⟩)), .eq (.pointer (some ⟨b, off + k * 2, none⟩)), .eq (.int .i64 x0), .eq (.pointer (some ⟨B, 42, none⟩)), .eq (.slice (some ⟨b, off, none⟩) l.length c), .eq (.int .i64 k), .eq (.pointer (some ⟨b, off + k * 2, none⟩)), .eq (.pointer (some ⟨b, off + k * 2 + 1, none⟩)), .eq (.int .i64 x1), readI ([x0, x1])]) (by kernel_rfl) (by kernel_rfl) (lt_cons ?_ (lt_cons ?_ (lt_cons ?_ (lt_cons ?_ (lt_cons ?_ (lt_cons ?_ (lt_cons ?_ (lt_cons ?_ (lt_cons ?_ (lt_cons ?_ (lt_cons ?_ (lt_cons ?_ (lt_cons ?_ (lt_cons ?_ (lt_none))))))))))))))) ?_
    any_goals (refine sop rfl fun xs W HW hsW HD Q' HQ => ?_; simp only [fillAt, dstOf, lc0, lcs, obs, Act.put, lsa, lsz, lss, nz, Nat.reduceAdd] at HQ ⊢)
    ·
     go_wp2
     exact HQ.out _ _ (eR _) rfl
    ·
     go_wp2
     exact HQ.out _ _ (eR _) rfl
    ·
     have hd1 : xs 1 = .pointer (some ⟨B, 42, none⟩) := (HD.out 1 (dk (by kernel_rfl)))
     generalize xs 1 = x1 at hd1 HQ ⊢; subst hd1
     have hc : W.cell? ⟨B, 42, none⟩ = some (.slice (some ⟨b, off, none⟩) l.length c) := (HW.out.cell (p := ⟨B, 42, none⟩) (by show B < _; omega)).trans q42
     go_wp2
     exact HQ.out _ _ (eR _) rfl
    ·
     go_wp2
     exact HQ.out _ _ (eR _) rfl
    ·
     have hd2 : xs 2 = .slice (some ⟨b, off, none⟩) l.length c := (HD.out 2 (dk (by kernel_rfl)))
     generalize xs 2 = x2 at hd2 HQ ⊢; subst hd2
     have hd3 : xs 3 = .int .i64 k := (HD.out 3 (dk (by kernel_rfl)))
     generalize xs 3 = x3 at hd3 HQ ⊢; subst hd3
     go_wp2
     exact HQ.out _ _ (eR _) rfl
    ·
     have hd4 : xs 4 = .pointer (some ⟨b, off + k * 2, none⟩) := (HD.out 4 (dk (by kernel_rfl)))
     generalize xs 4 = x4 at hd4 HQ ⊢; subst hd4
     go_wp2
     exact HQ.out _ _ (eR _) rfl
    ·
     have hd5 : xs 5 = .pointer (some ⟨b, off + k * 2, none⟩) := (HD.out 5 (dk (by kernel_rfl)))
     generalize xs 5 = x5 at hd5 HQ ⊢; subst hd5
     have hc : W.cell? ⟨b, off+k*2, none⟩ = some (.int .i64 x0) := (HW.out.cell (p := ⟨b, off+k*2, none⟩) (by show b < _; omega)).trans c0
     go_wp2
     exact HQ.out _ _ (eR _) rfl
    ·
     go_wp2
     exact HQ.out _ _ (eR _) rfl
    ·
     have hd7 : xs 7 = .pointer (some ⟨B, 42, none⟩) := (HD.out 7 (dk (by kernel_rfl)))
     generalize xs 7 = x7 at hd7 HQ ⊢; subst hd7
     have hc : W.cell? ⟨B, 42, none⟩ = some (.slice (some ⟨b, off, none⟩) l.length c) := (HW.out.cell (p := ⟨B, 42, none⟩) (by show B < _; omega)).trans q42
     go_wp2
     exact HQ.out _ _ (eR _) rfl
    ·
     go_wp2
     exact HQ.out _ _ (eR _) rfl
    ·
     have hd8 : xs 8 = .slice (some ⟨b, off, none⟩) l.length c := (HD.out 8 (dk (by kernel_rfl)))
     generalize xs 8 = x8 at hd8 HQ ⊢; subst hd8
     have hd9 : xs 9 = .int .i64 k := (HD.out 9 (dk (by kernel_rfl)))
     generalize xs 9 = x9 at hd9 HQ ⊢; subst hd9
     go_wp2
     exact HQ.out _ _ (eR _) rfl
    ·
     have hd10 : xs 10 = .pointer (some ⟨b, off + k * 2, none⟩) := (HD.out 10 (dk (by kernel_rfl)))
     generalize xs 10 = x10 at hd10 HQ ⊢; subst hd10
     go_wp2
     exact HQ.out _ _ (eR _) rfl
    ·
     have hd11 : xs 11 = .pointer (some ⟨b, off + k * 2 + 1, none⟩) := (HD.out 11 (dk (by kernel_rfl)))
     generalize xs 11 = x11 at hd11 HQ ⊢; subst hd11
     have hc : W.cell? ⟨b, off+k*2+1, none⟩ = some (.int .i64 x1) := (HW.out.cell (p := ⟨b, off+k*2+1, none⟩) (by show b < _; omega)).trans c1
     go_wp2
     exact HQ.out _ _ (eR _) rfl
    ·
     have hd6 : xs 6 = .int .i64 x0 := (HD.out 6 (dk (by kernel_rfl)))
     generalize xs 6 = x6 at hd6 HQ ⊢; subst hd6
     have hd12 : xs 12 = .int .i64 x1 := (HD.out 12 (dk (by kernel_rfl)))
     generalize xs 12 = x12 at hd12 HQ ⊢; subst hd12
     go_wp2
     exact HQ.out _ _ ((eR _).alloc _) ⟨_, _, rfl, reads_fresh zE ([x0, x1]) W _ _ rfl⟩
    intro xs W9 hW hS
    have h0 : xs 0 = .slice Ao out.length co := hS 0 (by omega)
    obtain ⟨A13, c13, h13, hr13⟩ : (readI ([x0, x1])).S (xs 13) W9 := hS 13 (by omega)
    simp only [fillAt, dstOf, lc0, lcs, obs, Act.put, lsa, lsz, lss, nz, Nat.reduceAdd, List.drop_succ_cons, List.drop_zero, List.drop_nil]
    generalize xs 0 = x0 at *; subst h0
    generalize xs 13 = x13 at *; subst h13
    have HW9 := lh (HX.out.trans hW)
    have HWW9 := lh hW
    clear hS hW q42 c0 c1
    have HO9' := lh (HO.out.ext HWW9.out)
    have HR13 := lh hr13
    have hs9 := HWW9.out.size
    clear hr13
    go_wp2_with (at_builtin; refine (show Hid _ from ?_).out)
    refine lh ?_
    refine app_reads nT zE rfl _ _ rfl W2.heap.size _ _ out rfl HO9'.out W9.heap.size _ _ [x0, x1] rfl HR13.out (fun h => by obtain ⟨b', o', e', _, _⟩ := HR13.out (by simp); rw [h] at e'; cases e') (by simp; omega) (by simp; omega) (by omega) ?_
    intro A9 c9 l9 w9 HL9 hO9 hB9 _ _ _
    have HO9 := lh hO9
    have HX9 : Hid (Ext W2 w9) := lh (Ext.grown (HX.out.trans HWW9.out) hB9 (Nat.le_refl _))
    have HN9 := lh (HL9.out.trans HN.out.symm)
    clear hO9 hB9 HL9 HN
    go_wp2
    go_roundw
    case rel => exact ⟨k + 1, A9, c9, l9, rfl, by go_num, by omega, HN9, HO9, lh (by (with_reducible repeat first|exact HX9.out|exact eR _|apply eD|apply eN|apply eA|apply eO|apply eS|apply eC);all_goals first|omega|simp <;> omega)⟩
    case measure => simp [intOf]; omega
   ·have HOe : Hid (out = packN e l) := lh (by rw [HOu.out, List.take_of_length_le (by omega)]; rfl)
    have hoi : ∀ x ∈ out, i64 x := by rw [HOe.out]; exact hi
    have HOi := lh hoi
    have u0 := HU0.out.ext HX.out
    have u1 := HU1.out.ext HX.out
    have HUs := lh u1
    have hB1 := u1.lt
    have d0 : wA.cell? ⟨B + 1, 0, none⟩ = some (.string e.st.addr) := (u1.cell 0).trans (stm_g0 _)
    have d1 : wA.cell? ⟨B + 1, 1, none⟩ = some (.string e.st.var) := (u1.cell 1).trans (stm_g1 _)
    have d20 : wA.cell? ⟨B + 1, 20, none⟩ = some (.string e.st.tags) := (u1.cell 20).trans (stm_g20 _)
    have d43 : wA.cell? ⟨B, 43, none⟩ = some (.string e.bytes) := (u0.cell 43).trans (ent_g43 _)
    have HXw := lh (HX2.out.trans HX.out)
    have hps : 0 < (encStrs (packT e)).length := encStrs_pos _
    have HRd := lh (HO.out.reads zE)
    have hol5 : out.length ≤ 100000 := by omega
    have hsx : (strOfNums (encStrs (packT e))).size ≤ 1000000000 := by rw [nums_size]; exact hz
    have hsy : (strOfNums (encInts out)).size ≤ 1000000000 := by rw [nums_size]; have := encInts_len out; omega
    clear u0 u1 hoi HO HX HX25 HOw
    go_upto_region 10 with (fail)
    refine wp_region_softE 17 (softsL [.eq (.pointer (some ⟨B + 1, 0, none⟩)), .eq (.string e.st.addr), .eq (.pointer (some ⟨B + 1, 1, none⟩)), .eq (.string e.st.var), .eq (.pointer (some ⟨B + 1, 4, none⟩)), .eq (.slice (some ⟨B + 1, 4, none⟩) 16 16), .eq (.string (strOfNums e.st.body)), .eq (.pointer (some ⟨B + 1, 20, none⟩)), .eq (.string e.st.tags), .eq (.pointer (some ⟨B + 1, 25, none⟩)), .eq (.slice (some ⟨B + 1, 25, none⟩) 16 16), .eq (.string (strOfNums e.st.seal_)), .eq (.pointer (some ⟨B, 43, none⟩)), .eq (.string e.bytes), readS (packT e), readBy (encStrs (packT e)), readBy (encStrs (packT e))]) (by kernel_rfl) (by kernel_rfl) (lt_cons ?_ (lt_cons ?_ (lt_cons ?_ (lt_cons ?_ (lt_cons ?_ (lt_cons ?_ (lt_cons ?_ (lt_cons ?_ (lt_cons ?_ (lt_cons ?_ (lt_cons ?_ (lt_cons ?_ (lt_cons ?_ (lt_cons ?_ (lt_cons ?_ (lt_cons ?_ (lt_cons ?_ (lt_none)))))))))))))))))) ?_
    any_goals (refine sop rfl fun xs W HW hsW HD Q' HQ => ?_; simp only [fillAt, dstOf, lc0, lcs, obs, Act.put, lsa, lsz, lss, nz, Nat.reduceAdd] at HQ ⊢)
    ·
     go_wp2
     exact HQ.out _ _ (eR _) rfl
    ·
     have hd0 : xs 0 = .pointer (some ⟨B + 1, 0, none⟩) := (HD.out 0 (dk (by kernel_rfl)))
     generalize xs 0 = x0 at hd0 HQ ⊢; subst hd0
     have hc : W.cell? ⟨B+1, 0, none⟩ = some (.string e.st.addr) := (HW.out.cell (p := ⟨B+1, 0, none⟩) (by show B+1 < _; omega)).trans d0
     go_wp2
     exact HQ.out _ _ (eR _) rfl
    ·
     go_wp2
     exact HQ.out _ _ (eR _) rfl
    ·
     have hd2 : xs 2 = .pointer (some ⟨B + 1, 1, none⟩) := (HD.out 2 (dk (by kernel_rfl)))
     generalize xs 2 = x2 at hd2 HQ ⊢; subst hd2
     have hc : W.cell? ⟨B+1, 1, none⟩ = some (.string e.st.var) := (HW.out.cell (p := ⟨B+1, 1, none⟩) (by show B+1 < _; omega)).trans d1
     go_wp2
     exact HQ.out _ _ (eR _) rfl
    ·
     go_wp2
     exact HQ.out _ _ (eR _) rfl
    ·
     have hd4 : xs 4 = .pointer (some ⟨B + 1, 4, none⟩) := (HD.out 4 (dk (by kernel_rfl)))
     generalize xs 4 = x4 at hd4 HQ ⊢; subst hd4
     go_wp2
     exact HQ.out _ _ (eR _) rfl
    ·
     have hd5 : xs 5 = .slice (some ⟨B + 1, 4, none⟩) 16 16 := (HD.out 5 (dk (by kernel_rfl)))
     generalize xs 5 = x5 at hd5 HQ ⊢; subst hd5
     have hcv := conv16 (body_reads (HUs.out.ext HW.out) hb) hb
     go_wp2
     exact HQ.out _ _ (eR _) rfl
    ·
     go_wp2
     exact HQ.out _ _ (eR _) rfl
    ·
     have hd7 : xs 7 = .pointer (some ⟨B + 1, 20, none⟩) := (HD.out 7 (dk (by kernel_rfl)))
     generalize xs 7 = x7 at hd7 HQ ⊢; subst hd7
     have hc : W.cell? ⟨B+1, 20, none⟩ = some (.string e.st.tags) := (HW.out.cell (p := ⟨B+1, 20, none⟩) (by show B+1 < _; omega)).trans d20
     go_wp2
     exact HQ.out _ _ (eR _) rfl
    ·
     go_wp2
     exact HQ.out _ _ (eR _) rfl
    ·
     have hd9 : xs 9 = .pointer (some ⟨B + 1, 25, none⟩) := (HD.out 9 (dk (by kernel_rfl)))
     generalize xs 9 = x9 at hd9 HQ ⊢; subst hd9
     go_wp2
     exact HQ.out _ _ (eR _) rfl
    ·
     have hd10 : xs 10 = .slice (some ⟨B + 1, 25, none⟩) 16 16 := (HD.out 10 (dk (by kernel_rfl)))
     generalize xs 10 = x10 at hd10 HQ ⊢; subst hd10
     have hcv := conv16 (seal_reads (HUs.out.ext HW.out) hs) hs
     go_wp2
     exact HQ.out _ _ (eR _) rfl
    ·
     go_wp2
     exact HQ.out _ _ (eR _) rfl
    ·
     have hd12 : xs 12 = .pointer (some ⟨B, 43, none⟩) := (HD.out 12 (dk (by kernel_rfl)))
     generalize xs 12 = x12 at hd12 HQ ⊢; subst hd12
     have hc : W.cell? ⟨B, 43, none⟩ = some (.string e.bytes) := (HW.out.cell (p := ⟨B, 43, none⟩) (by show B < _; omega)).trans d43
     go_wp2
     exact HQ.out _ _ (eR _) rfl
    ·
     have hd1 : xs 1 = .string e.st.addr := (HD.out 1 (dk (by kernel_rfl)))
     generalize xs 1 = x1 at hd1 HQ ⊢; subst hd1
     have hd3 : xs 3 = .string e.st.var := (HD.out 3 (dk (by kernel_rfl)))
     generalize xs 3 = x3 at hd3 HQ ⊢; subst hd3
     have hd6 : xs 6 = .string (strOfNums e.st.body) := (HD.out 6 (dk (by kernel_rfl)))
     generalize xs 6 = x6 at hd6 HQ ⊢; subst hd6
     have hd8 : xs 8 = .string e.st.tags := (HD.out 8 (dk (by kernel_rfl)))
     generalize xs 8 = x8 at hd8 HQ ⊢; subst hd8
     have hd11 : xs 11 = .string (strOfNums e.st.seal_) := (HD.out 11 (dk (by kernel_rfl)))
     generalize xs 11 = x11 at hd11 HQ ⊢; subst hd11
     have hd13 : xs 13 = .string e.bytes := (HD.out 13 (dk (by kernel_rfl)))
     generalize xs 13 = x13 at hd13 HQ ⊢; subst hd13
     go_wp2
     exact HQ.out _ _ ((eR _).alloc _) ⟨_, _, rfl, reads_fresh sE (packT e) W _ _ rfl, fun h => (by cases h)⟩
    ·
     obtain ⟨A14, c14, h14, hr14, hz14⟩ : (readS (packT e)).S (xs 14) W := (HD.out 14 (dk (by kernel_rfl)))
     generalize xs 14 = x14 at h14 HQ ⊢; subst h14
     go_wp2_with (go_at_call 86; refine (rstrs_ok A14 c14 (packT e) W (by show 6 ≤ 100000; decide) hz hr14).mono ?_; rintro e w1 ⟨A, c, rfl, ho, hx⟩)
     exact HQ.out _ _ hx ⟨A, c, rfl, ho.reads bE⟩
    ·
     obtain ⟨A15, c15, h15, hr15⟩ : (readBy (encStrs (packT e))).S (xs 15) W := (HD.out 15 (dk (by kernel_rfl)))
     generalize xs 15 = x15 at h15 HQ ⊢; subst h15
     go_wp2
     exact HQ.out _ _ (eR _) ⟨A15, c15, rfl, hr15⟩
    intro xs W9 hW hS
    have h16 : (readBy (encStrs (packT e))).S (xs 16) W9 := hS 16 (by omega)
    simp only [fillAt, dstOf, lc0, lcs, obs, Act.put, lsa, lsz, lss, nz, Nat.reduceAdd, List.drop_succ_cons, List.drop_zero, List.drop_nil]
    have HW9 := lh (HXw.out.trans hW)
    have HWW9 := lh hW
    clear hS hW d0 d1 d20 d43
    obtain ⟨A16, c16, h16, hr16⟩ := h16
    generalize xs 16 = xv16 at *
    subst h16
    have HR16 := lh hr16
    have HRd9 := lh (HRd.out.on HWW9.out)
    clear hr16 HRd HWW9
    go_upto_region 11 with (fail)
    refine wp_region_softE 7 (softsL [.eq (.slice A16 (encStrs (packT e)).length c16), .eq (.string (strOfNums (encStrs (packT e)))), .eq (.slice Ao out.length co), readBy (encInts out), .eq (.string (strOfNums (encInts out))), .eq (.string (strOfNums (encStrs (packT e)) ++ strOfNums (encInts out))), .eq (.string (strOfNums (encStrs (packT e)) ++ strOfNums (encInts out)))]) (by kernel_rfl) (by kernel_rfl) (lt_cons ?_ (lt_cons ?_ (lt_cons ?_ (lt_cons ?_ (lt_cons ?_ (lt_cons ?_ (lt_cons ?_ (lt_none)))))))) ?_
    any_goals (refine sop rfl fun xs W HW hsW HD Q' HQ => ?_; simp only [fillAt, dstOf, lc0, lcs, obs, Act.put, lsa, lsz, lss, nz, Nat.reduceAdd] at HQ ⊢)
    ·
     go_wp2
     exact HQ.out _ _ (eR _) rfl
    ·
     have hd0 : xs 0 = .slice A16 (encStrs (packT e)).length c16 := (HD.out 0 (dk (by kernel_rfl)))
     generalize xs 0 = x0 at hd0 HQ ⊢; subst hd0
     have hcv := conv_bytes c16 (HR16.out.on HW.out) hps
     go_wp2
     exact HQ.out _ _ (eR _) rfl
    ·
     go_wp2
     exact HQ.out _ _ (eR _) rfl
    ·
     have hd2 : xs 2 = .slice Ao out.length co := (HD.out 2 (dk (by kernel_rfl)))
     generalize xs 2 = x2 at hd2 HQ ⊢; subst hd2
     go_wp2_with (go_at_call 87; refine (rwints_ok Ao co out W hol5 (HRd9.out.on HW.out) HOi.out).mono ?_; rintro e w1 ⟨A, c, rfl, ho, hx⟩)
     exact HQ.out _ _ hx ⟨A, c, rfl, ho.reads bE⟩
    ·
     obtain ⟨A3, c3, h3, hr3⟩ : (readBy (encInts out)).S (xs 3) W := (HD.out 3 (dk (by kernel_rfl)))
     generalize xs 3 = x3 at h3 HQ ⊢; subst h3
     have hcv := conv_bytes c3 hr3 (encInts_pos out)
     go_wp2
     exact HQ.out _ _ (eR _) rfl
    ·
     have hd1 : xs 1 = .string (strOfNums (encStrs (packT e))) := (HD.out 1 (dk (by kernel_rfl)))
     generalize xs 1 = x1 at hd1 HQ ⊢; subst hd1
     have hd4 : xs 4 = .string (strOfNums (encInts out)) := (HD.out 4 (dk (by kernel_rfl)))
     generalize xs 4 = x4 at hd4 HQ ⊢; subst hd4
     go_wp2
     exact HQ.out _ _ (eR _) rfl
    ·
     have hd5 : xs 5 = .string (strOfNums (encStrs (packT e)) ++ strOfNums (encInts out)) := (HD.out 5 (dk (by kernel_rfl)))
     generalize xs 5 = x5 at hd5 HQ ⊢; subst hd5
     go_wp2
     exact HQ.out _ _ (eR _) rfl
    intro xs W11 hW hS
    have h6 : xs 6 = .string (strOfNums (encStrs (packT e)) ++ strOfNums (encInts out)) := hS 6 (by omega)
    simp only [fillAt, dstOf, lc0, lcs, obs, Act.put, lsa, lsz, lss, nz, Nat.reduceAdd, List.drop_succ_cons, List.drop_zero, List.drop_nil]
    generalize xs 6 = x6 at *; subst h6
    have HW11 := lh (HW9.out.trans hW)
    have HWW11 := lh hW
    clear hS hW 
    go_wp2
    go_ret
    exact ⟨by rw [HOe.out]; rfl, HW11.out⟩
end Go.Proofs.YtmgekdggahoboaaGreatDoor

namespace Go.Proofs.YtmgekdggahoboaaGreatDoor
open Go.RowKit Go.Shelf
open Go.Proofs
open Go.Proofs.Sp (Sp)
theorem encS_le (s : ByteArray) (n : Nat) (h : s.size ≤ n) : (Wire.encS (bts s)).length ≤ n + 10 := by
 rw [encS_eq, List.length_append, bts_length]
 have := Wire.enc_length (s.size : Int)
 omega
theorem encN_le : ∀ l : List Int, (l.flatMap Wire.enc).length ≤ 10 * l.length
 | [] => by simp
 | x :: t => by
  have h1 := encN_le t
  have h2 := Wire.enc_length x
  rw [List.flatMap_cons, List.length_append, List.length_cons]
  omega
theorem pack_size {e : En} {l : List Sp} (h : fineB e l = true) (hb : e.st.body.length = 16) (hs : e.st.seal_.length = 16) : (packB e l).size ≤ 10000 := by
 simp only [fineB, lightB, Bool.and_eq_true, decide_eq_true_eq] at h
 have a1 := encS_le e.st.addr 500 (by omega)
 have a2 := encS_le e.st.var 500 (by omega)
 have a3 := encS_le (strOfNums e.st.body) 16 (by rw [nums_size]; omega)
 have a4 := encS_le e.st.tags 500 (by omega)
 have a5 := encS_le (strOfNums e.st.seal_) 16 (by rw [nums_size]; omega)
 have a6 := encS_le e.bytes 2000 (by omega)
 have a7 := Wire.enc_length ((packT e).length : Int)
 have a8 := Wire.enc_length ((packN e l).length : Int)
 have a9 := encN_le (packN e l)
 have a10 := packN_len e l
 have e1 : (packB e l).size = (encStrs (packT e)).length + (encInts (packN e l)).length := by
  unfold packB
  rw [ByteArray.size_append, nums_size, nums_size]
 rw [e1]
 unfold encStrs encInts
 unfold packT at *
 simp only [List.length_append, List.flatMap_cons, List.flatMap_nil, List.length_nil]
 omega
theorem ba_eq {a b : ByteArray} (h : a = b) : (a.toList == b.toList) = true := by rw [h]; simp
structure UnIn (s : ByteArray) (e : En) (A : Option Addr) (c : Nat) (l : List Sp) (w : World) : Prop where
 hv : e.hv = .slice A l.length c
 hl : l.length ≤ 10000
 h1 : e.st.addr.size ≤ 10000
 h2 : e.st.var.size ≤ 10000
 h3 : e.st.tags.size ≤ 10000
 h4 : e.bytes.size ≤ 10000
 hb : e.st.body.length = 16
 hby : Byt e.st.body
 hs : e.st.seal_.length = 16
 val : Val e l
 pk : packB e l = s
 hr : ReadsSp w w.heap.size A l
theorem unIn_of {s : ByteArray} {A : Option Addr} {c : Nat} {w : World} (hs : s.size ≤ 10000) (h : unpOk s) (hr : ReadsSp w w.heap.size A (unpL s)) : UnIn s (unpE s (.slice A (unpL s).length c)) A c (unpL s) w := by
 have hz := fun k => unp_sizes s k
 obtain ⟨⟨_, _, t2, t4⟩, _, hv, hp⟩ := h
 refine ⟨rfl, by have := unpL_len s; omega, by have := hz 0; show (strOfNums _).size ≤ _; omega, by have := hz 1; show (strOfNums _).size ≤ _; omega, by have := hz 3; show (strOfNums _).size ≤ _; omega, by have := hz 5; show (strOfNums _).size ≤ _; omega, ?_, ?_, ?_, val_iff.1 hv, hp, hr⟩
 ·show (bts (strOfNums _)).length = 16
  rw [bts_length, nums_size]; exact t2
 ·exact bts_bytU _
 ·show (bts (strOfNums _)).length = 16
  rw [bts_length, nums_size]; exact t4
section
attribute [local go_sem ↓] enB0_x
attribute [local go_sem] enB0_run
theorem packs_ok (e : En) (A : Option Addr) (c : Nat) (l : List Sp) (text : ByteArray) (w : World) (ha : EntIn e A c l w) (hb4 : Byt e.st.seal_) (ht : text.size ≤ 9223372036854775807) (hk : Konst 4 w) (hrk : RKonst w) :
  Calls Tryz.prog 7 #[.agg (entC e), .string text] w fun e' w' => e' = .returned (.bool true) ∧ Ext w w' := by
 have HK := lh hk
 have HRK := lh hrk
 have HA := lh ha
 have HB4 := lh hb4
 have hfa : fitsRow 45 (entC e) = true := ent_fits_of ha.hv
 obtain ⟨fa, ha'⟩ : ∃ v, fineB e l = v := ⟨_, rfl⟩
 have HFa := lh (fun W (hx : Ext w W) => fine_any e A c l W ha.hv ha.hl ha.h1 ha.h2 ha.h3 ha.h4 ha.hb ha.hby (RowAt.ext hrk hx) (ha.hr.on hx))
 have HSan := lh (fun W (hx : Ext w W) => sanity_ok W (RowAt.ext hk hx) (RowAt.ext hrk hx))
 rw [ha'] at HFa
 have HF1 := lh ha'
 clear ha hk hrk ha' hb4
 by_cases hlong : 5000 < text.size
 ·have d1 : decide ((5000 : Int) < (text.size : Int)) = true := decide_eq_true (by omega)
  go_enter Tryz.func7, Tryz.ntmps7
  go_wp2_with (go_at_call 31; refine (HSan.out _ (by (with_reducible repeat first|exact eR _|apply eD|apply eN|apply eA|apply eO|apply eS|apply eC);all_goals first|omega|simp <;> omega)).mono ?_; rintro e w' ⟨rfl, hxl⟩; obtain ⟨xl, rfl⟩ := hxl.asLater; clear hxl)
  go_ret
  exact ⟨rfl, (by (with_reducible repeat first|exact eR _|apply eD|apply eN|apply eA|apply eO|apply eS|apply eC);all_goals first|omega|simp <;> omega)⟩
 ·have d1 : decide ((5000 : Int) < (text.size : Int)) = false := decide_eq_false (by omega)
  have HU := lh (fun W (hx : Ext w W) => eunpack_any text W (by omega) (RowAt.ext HK.out hx))
  go_enter Tryz.func7, Tryz.ntmps7
  go_upto_region 3 with (fail)
  refine wp_world (fun W => Ext w W ∧ RowAt W w.heap.size (entC e)) ⟨(by (with_reducible repeat first|exact eR _|apply eD|apply eN|apply eA|apply eO|apply eS|apply eC);all_goals first|omega|simp <;> omega), RowAt.new _ _ _⟩ ?_
  obtain ⟨B, hB⟩ : ∃ B, w.heap.size = B := ⟨_, rfl⟩
  rw [hB]
  rintro W0 ⟨x0, r0⟩
  have HX0 := lh x0
  have HR0 := lh r0
  have hl0 := r0.lt
  clear x0 r0
  go_wp2_with (go_at_call 32; refine (show Hid _ from ?_).out)
  refine lh ?_
  refine (HU.out _ HX0.out).mono ?_
  rintro r w1 ⟨hx1, hr⟩
  have HX1 := lh (HX0.out.trans hx1)
  have HR1 := lh (HR0.out.ext hx1)
  clear hx1 HU HX0 HR0
  rcases hr with ⟨hok, A1, cc1, rfl, hz1, ho1⟩ | ⟨hno, rfl⟩
  ·have HIn := lh (unIn_of (c := cc1) (s := text) (w := w1) (by omega) hok (ho1.reads spE))
   generalize unpE text (.slice A1 (unpL text).length cc1) = x at *
   generalize unpL text = lx at *
   have hfx : fitsRow 45 (entC x) = true := ent_fits_of HIn.out.hv
   have hlx := HIn.out.hl
   have HZ1 := lh hz1
   clear hok hz1 ho1
   go_upto_region 4 with (fail)
   refine wp_world (fun W => Ext w1 W ∧ RowAt W w1.heap.size (entC x)) ⟨(by (with_reducible repeat first|exact eR _|apply eD|apply eN|apply eA|apply eO|apply eS|apply eC);all_goals first|omega|simp <;> omega), RowAt.store (RowAt.new _ _ _) rfl⟩ ?_
   obtain ⟨B5, hB5⟩ : ∃ B5, w1.heap.size = B5 := ⟨_, rfl⟩
   rw [hB5]
   rintro W2 ⟨x2, r2⟩
   have HX2 := lh (HX1.out.trans x2)
   have HR2 := lh (HR1.out.ext x2)
   have HRx := lh (HIn.out.hr.on x2)
   have hl2 := r2.lt
   have row5 : rowOf W2 B5 0 45 = some (entC x) := r2.all (ent_size _).symm (by omega)
   have HV := lh (fun W (hx : Ext W2 W) => rvalidE_any x A1 cc1 lx W HIn.out.hv (by omega) (by have := HIn.out.h1; omega) (by have := HIn.out.h2; omega) (by have := HIn.out.h3; omega) (by have := HIn.out.h4; omega) HIn.out.hb HIn.out.hby (RowAt.ext HRK.out (HX2.out.trans hx)) (HRx.out.on hx))
   rw [val_iff.2 HIn.out.val] at HV
   have HP := lh (fun W (hx : Ext W2 W) => pack_any x A1 cc1 lx W HIn.out.hv hlx (HRx.out.on hx) HIn.out.hb HIn.out.hs (val_i64 HIn.out.val) (val_strs HIn.out.val HIn.out.hb HIn.out.hs))
   obtain ⟨pk, hpk⟩ : ∃ pk, packB x lx = pk := ⟨_, rfl⟩
   rw [hpk] at HP
   have hpe : (pk.toList == text.toList) = true := ba_eq (by rw [← hpk]; exact HIn.out.pk)
   clear x2 hpk HR1
   go_upto_region 6 with (first | (go_at_call 34; refine (HV.out _ (by (with_reducible repeat first|exact eR _|apply eD|apply eN|apply eA|apply eO|apply eS|apply eC);all_goals first|omega|simp <;> omega)).mono ?_; rintro e w' ⟨rfl, hxl⟩; obtain ⟨xl, rfl⟩ := hxl.asLater; clear hxl) | (go_at_call 35; refine (HP.out _ (by (with_reducible repeat first|exact eR _|apply eD|apply eN|apply eA|apply eO|apply eS|apply eC);all_goals first|omega|simp <;> omega)).mono ?_; rintro e w' ⟨rfl, hxl⟩; obtain ⟨xl, rfl⟩ := hxl.asLater; clear hxl))
   refine wp_world (fun W => Ext w W ∧ RowAt W B (entC e)) ⟨(by (with_reducible repeat first|exact HX2.out|exact eR _|apply eD|apply eN|apply eA|apply eO|apply eS|apply eC);all_goals first|omega|simp <;> omega), HR2.out.later _⟩ ?_
   rintro W6 ⟨x6, r6⟩
   clear HV HP hpe row5 r2 HRx HX2 HR2 HIn hB5 HX1 HZ1
   have HX6 := lh x6
   have HR6 := lh r6
   have hl6 := r6.lt
   have rowe : rowOf W6 B 0 45 = some (entC e) := r6.all (ent_size _).symm (by omega)
   clear x6 r6
   cases fa with
   | false =>
    go_wp2_with (first | (go_at_call 36; refine (HFa.out _ (by (with_reducible repeat first|exact HX6.out|exact eR _|apply eD|apply eN|apply eA|apply eO|apply eS|apply eC);all_goals first|omega|simp <;> omega)).mono ?_; rintro e w' ⟨rfl, hxl⟩; obtain ⟨xl, rfl⟩ := hxl.asLater; clear hxl) | (go_at_call 31; refine (HSan.out _ (by (with_reducible repeat first|exact HX6.out|exact eR _|apply eD|apply eN|apply eA|apply eO|apply eS|apply eC);all_goals first|omega|simp <;> omega)).mono ?_; rintro e w' ⟨rfl, hxl⟩; obtain ⟨xl, rfl⟩ := hxl.asLater; clear hxl))
    go_ret
    exact ⟨rfl, (by (with_reducible repeat first|exact HX6.out|exact eR _|apply eD|apply eN|apply eA|apply eO|apply eS|apply eC);all_goals first|omega|simp <;> omega)⟩
   | true =>
    have hval := fine_val HF1.out
    have hszp := pack_size HF1.out HA.out.hb HA.out.hs
    have hfl := HF1.out
    simp only [fineB, lightB, Bool.and_eq_true, decide_eq_true_eq] at hfl
    have hup := unp_pack e l hval HA.out.hb HA.out.hs HA.out.hby HB4.out (by omega) (by omega) (by omega) (by omega) (by omega) (val_i64 hval)
    have HP := lh (fun W (hx : Ext w W) => pack_any e A c l W HA.out.hv (by omega) (HA.out.hr.on hx) HA.out.hb HA.out.hs (val_i64 hval) (val_strs hval HA.out.hb HA.out.hs))
    have HRP := lh (fun W (hx : Ext w W) => rpack_any e A c l W HA.out.hv (by omega) (HA.out.hr.on hx) HA.out.hb HA.out.hs (val_i64 hval) (val_strs hval HA.out.hb HA.out.hs))
    have hll : l.length ≤ 40 := by omega
    generalize packB e l = pk at *
    have HUp := lh hup
    have HU2 := lh (fun W (hx : Ext w W) => eunpack_any pk W hszp (RowAt.ext HK.out hx))
    clear hval hfl hup
    go_upto_region 10 with (first | (go_at_call 36; refine (HFa.out _ (by (with_reducible repeat first|exact HX6.out|exact eR _|apply eD|apply eN|apply eA|apply eO|apply eS|apply eC);all_goals first|omega|simp <;> omega)).mono ?_; rintro e w' ⟨rfl, hxl⟩; obtain ⟨xl, rfl⟩ := hxl.asLater; clear hxl) | (go_at_call 35; refine (HP.out _ (by (with_reducible repeat first|exact HX6.out|exact eR _|apply eD|apply eN|apply eA|apply eO|apply eS|apply eC);all_goals first|omega|simp <;> omega)).mono ?_; rintro e w' ⟨rfl, hxl⟩; obtain ⟨xl, rfl⟩ := hxl.asLater; clear hxl))
    go_wp2_with (go_at_call 32; refine (show Hid _ from ?_).out)
    refine lh ?_
    refine (HU2.out _ (by (with_reducible repeat first|exact HX6.out|exact eR _|apply eD|apply eN|apply eA|apply eO|apply eS|apply eC);all_goals first|omega|simp <;> omega)).mono ?_
    rintro r w7 ⟨hx7, hr7⟩
    have HX7 := lh ((show Ext w _ from (by (with_reducible repeat first|exact HX6.out|exact eR _|apply eD|apply eN|apply eA|apply eO|apply eS|apply eC);all_goals first|omega|simp <;> omega)).trans hx7)
    have HR7 := lh ((HR6.out.later _).ext hx7)
    rcases hr7 with ⟨_, A2, cc2, rfl, hz2, ho2⟩ | ⟨hno2, _⟩
    case inr => exact absurd HUp.out.1 hno2
    rw [HUp.out.2.1] at ho2
    rw [HUp.out.2.1, HUp.out.2.2 (.slice A2 l.length cc2)]
    have HO2 := lh ho2
    obtain ⟨y, hy⟩ : ∃ y, ({ e with hv := .slice A2 l.length cc2 } : En) = y := ⟨_, rfl⟩
    have hvy : y.hv = .slice A2 l.length cc2 := by rw [← hy]
    have hye : ({ y with hv := .slice A l.length c } : En) = e := by rw [← hy, ← HA.out.hv]
    have hfy : fitsRow 45 (entC y) = true := ent_fits_of hvy
    rw [hy]
    have HSm := lh (fun W (hx : Ext w7 W) => same_any y A2 A cc2 c l W hvy (by omega) ((HO2.out.reads spE).on hx) (HA.out.hr.on (HX7.out.trans hx)))
    rw [hye] at HSm
    clear hy hye hvy hx7 hz2 ho2 HUp HU2 hB rowe
    go_upto_region 11 with (fail)
    refine wp_world (fun W => Ext w7 W ∧ RowAt W B (entC e) ∧ RowAt W w7.heap.size (entC y)) ⟨(by (with_reducible repeat first|exact eR _|apply eD|apply eN|apply eA|apply eO|apply eS|apply eC);all_goals first|omega|simp <;> omega), RowAt.others (HR7.out.alloc _) (by have := HR7.out.lt; omega) _ _, RowAt.store (RowAt.new _ _ _) rfl⟩ ?_
    obtain ⟨B9, hB9⟩ : ∃ B9, w7.heap.size = B9 := ⟨_, rfl⟩
    rw [hB9]
    rintro W8 ⟨x8, r8, r9⟩
    have HX8 := lh x8
    have HX08 := lh (HX7.out.trans x8)
    have hl8 := r8.lt
    have hl9 := r9.lt
    have rowe : rowOf W8 B 0 45 = some (entC e) := r8.all (ent_size _).symm (by omega)
    have rowy : rowOf W8 B9 0 45 = some (entC y) := r9.all (ent_size _).symm (by omega)
    have hpp : (pk.toList == pk.toList) = true := ba_eq rfl
    clear x8 r8 r9 hB9
    go_wp2_with (first | (go_at_call 31; refine (HSan.out _ (by (with_reducible repeat first|exact HX08.out|exact eR _|apply eD|apply eN|apply eA|apply eO|apply eS|apply eC);all_goals first|omega|simp <;> omega)).mono ?_; rintro e w' ⟨rfl, hxl⟩; obtain ⟨xl, rfl⟩ := hxl.asLater; clear hxl) | (go_at_call 37; refine (HRP.out _ (by (with_reducible repeat first|exact HX08.out|exact eR _|apply eD|apply eN|apply eA|apply eO|apply eS|apply eC);all_goals first|omega|simp <;> omega)).mono ?_; rintro e w' ⟨rfl, hxl⟩; obtain ⟨xl, rfl⟩ := hxl.asLater; clear hxl) | (go_at_call 33; refine (HSm.out _ (by (with_reducible repeat first|exact HX8.out|exact eR _|apply eD|apply eN|apply eA|apply eO|apply eS|apply eC);all_goals first|omega|simp <;> omega)).mono ?_; rintro e w' ⟨rfl, hxl⟩; obtain ⟨xl, rfl⟩ := hxl.asLater; clear hxl))
    go_ret
    exact ⟨rfl, (by (with_reducible repeat first|exact HX08.out|exact eR _|apply eD|apply eN|apply eA|apply eO|apply eS|apply eC);all_goals first|omega|simp <;> omega)⟩
  ·clear hno
   have hn2 : fitsRow 45 (entC noEn) = true := by kernel_rfl
   go_upto_region 4 with (fail)
   refine wp_world (fun W => Ext w1 W ∧ RowAt W w1.heap.size (entC noEn)) ⟨(by (with_reducible repeat first|exact eR _|apply eD|apply eN|apply eA|apply eO|apply eS|apply eC);all_goals first|omega|simp <;> omega), RowAt.store (RowAt.new _ _ _) rfl⟩ ?_
   obtain ⟨B5, hB5⟩ : ∃ B5, w1.heap.size = B5 := ⟨_, rfl⟩
   rw [hB5]
   rintro W2 ⟨x2, r2⟩
   have HX2 := lh (HX1.out.trans x2)
   have HR2 := lh (HR1.out.ext x2)
   have hl2 := r2.lt
   have row5 : rowOf W2 B5 0 45 = some (entC noEn) := r2.all (ent_size _).symm (by omega)
   have HS := lh (fun W => same_any noEn none none 0 0 [] W rfl (by decide) (Reads.nil _ _ _ _ _) (Reads.nil _ _ _ _ _))
   rw [show ({ noEn with hv := .slice none ([] : List Sp).length 0 } : En) = noEn from rfl] at HS
   clear x2 HR1
   go_upto_region 6 with (go_at_call 33; refine (HS.out _).mono ?_; rintro e w' ⟨rfl, hxl⟩; obtain ⟨xl, rfl⟩ := hxl.asLater; clear hxl)
   refine wp_world (fun W => Ext w W ∧ RowAt W B (entC e)) ⟨(by (with_reducible repeat first|exact HX2.out|exact eR _|apply eD|apply eN|apply eA|apply eO|apply eS|apply eC);all_goals first|omega|simp <;> omega), HR2.out.later _⟩ ?_
   rintro W6 ⟨x6, r6⟩
   clear HS row5 r2 HX2 HR2 hB5 HX1
   have HX6 := lh x6
   have HR6 := lh r6
   have hl6 := r6.lt
   have rowe : rowOf W6 B 0 45 = some (entC e) := r6.all (ent_size _).symm (by omega)
   clear x6 r6
   cases fa with
   | false =>
    go_wp2_with (first | (go_at_call 36; refine (HFa.out _ (by (with_reducible repeat first|exact HX6.out|exact eR _|apply eD|apply eN|apply eA|apply eO|apply eS|apply eC);all_goals first|omega|simp <;> omega)).mono ?_; rintro e w' ⟨rfl, hxl⟩; obtain ⟨xl, rfl⟩ := hxl.asLater; clear hxl) | (go_at_call 31; refine (HSan.out _ (by (with_reducible repeat first|exact HX6.out|exact eR _|apply eD|apply eN|apply eA|apply eO|apply eS|apply eC);all_goals first|omega|simp <;> omega)).mono ?_; rintro e w' ⟨rfl, hxl⟩; obtain ⟨xl, rfl⟩ := hxl.asLater; clear hxl))
    go_ret
    exact ⟨rfl, (by (with_reducible repeat first|exact HX6.out|exact eR _|apply eD|apply eN|apply eA|apply eO|apply eS|apply eC);all_goals first|omega|simp <;> omega)⟩
   | true =>
    have hval := fine_val HF1.out
    have hszp := pack_size HF1.out HA.out.hb HA.out.hs
    have hfl := HF1.out
    simp only [fineB, lightB, Bool.and_eq_true, decide_eq_true_eq] at hfl
    have hup := unp_pack e l hval HA.out.hb HA.out.hs HA.out.hby HB4.out (by omega) (by omega) (by omega) (by omega) (by omega) (val_i64 hval)
    have HP := lh (fun W (hx : Ext w W) => pack_any e A c l W HA.out.hv (by omega) (HA.out.hr.on hx) HA.out.hb HA.out.hs (val_i64 hval) (val_strs hval HA.out.hb HA.out.hs))
    have HRP := lh (fun W (hx : Ext w W) => rpack_any e A c l W HA.out.hv (by omega) (HA.out.hr.on hx) HA.out.hb HA.out.hs (val_i64 hval) (val_strs hval HA.out.hb HA.out.hs))
    have hll : l.length ≤ 40 := by omega
    generalize packB e l = pk at *
    have HUp := lh hup
    have HU2 := lh (fun W (hx : Ext w W) => eunpack_any pk W hszp (RowAt.ext HK.out hx))
    clear hval hfl hup
    go_upto_region 10 with (first | (go_at_call 36; refine (HFa.out _ (by (with_reducible repeat first|exact HX6.out|exact eR _|apply eD|apply eN|apply eA|apply eO|apply eS|apply eC);all_goals first|omega|simp <;> omega)).mono ?_; rintro e w' ⟨rfl, hxl⟩; obtain ⟨xl, rfl⟩ := hxl.asLater; clear hxl) | (go_at_call 35; refine (HP.out _ (by (with_reducible repeat first|exact HX6.out|exact eR _|apply eD|apply eN|apply eA|apply eO|apply eS|apply eC);all_goals first|omega|simp <;> omega)).mono ?_; rintro e w' ⟨rfl, hxl⟩; obtain ⟨xl, rfl⟩ := hxl.asLater; clear hxl))
    go_wp2_with (go_at_call 32; refine (show Hid _ from ?_).out)
    refine lh ?_
    refine (HU2.out _ (by (with_reducible repeat first|exact HX6.out|exact eR _|apply eD|apply eN|apply eA|apply eO|apply eS|apply eC);all_goals first|omega|simp <;> omega)).mono ?_
    rintro r w7 ⟨hx7, hr7⟩
    have HX7 := lh ((show Ext w _ from (by (with_reducible repeat first|exact HX6.out|exact eR _|apply eD|apply eN|apply eA|apply eO|apply eS|apply eC);all_goals first|omega|simp <;> omega)).trans hx7)
    have HR7 := lh ((HR6.out.later _).ext hx7)
    rcases hr7 with ⟨_, A2, cc2, rfl, hz2, ho2⟩ | ⟨hno2, _⟩
    case inr => exact absurd HUp.out.1 hno2
    rw [HUp.out.2.1] at ho2
    rw [HUp.out.2.1, HUp.out.2.2 (.slice A2 l.length cc2)]
    have HO2 := lh ho2
    obtain ⟨y, hy⟩ : ∃ y, ({ e with hv := .slice A2 l.length cc2 } : En) = y := ⟨_, rfl⟩
    have hvy : y.hv = .slice A2 l.length cc2 := by rw [← hy]
    have hye : ({ y with hv := .slice A l.length c } : En) = e := by rw [← hy, ← HA.out.hv]
    have hfy : fitsRow 45 (entC y) = true := ent_fits_of hvy
    rw [hy]
    have HSm := lh (fun W (hx : Ext w7 W) => same_any y A2 A cc2 c l W hvy (by omega) ((HO2.out.reads spE).on hx) (HA.out.hr.on (HX7.out.trans hx)))
    rw [hye] at HSm
    clear hy hye hvy hx7 hz2 ho2 HUp HU2 hB rowe
    go_upto_region 11 with (fail)
    refine wp_world (fun W => Ext w7 W ∧ RowAt W B (entC e) ∧ RowAt W w7.heap.size (entC y)) ⟨(by (with_reducible repeat first|exact eR _|apply eD|apply eN|apply eA|apply eO|apply eS|apply eC);all_goals first|omega|simp <;> omega), RowAt.others (HR7.out.alloc _) (by have := HR7.out.lt; omega) _ _, RowAt.store (RowAt.new _ _ _) rfl⟩ ?_
    obtain ⟨B9, hB9⟩ : ∃ B9, w7.heap.size = B9 := ⟨_, rfl⟩
    rw [hB9]
    rintro W8 ⟨x8, r8, r9⟩
    have HX8 := lh x8
    have HX08 := lh (HX7.out.trans x8)
    have hl8 := r8.lt
    have hl9 := r9.lt
    have rowe : rowOf W8 B 0 45 = some (entC e) := r8.all (ent_size _).symm (by omega)
    have rowy : rowOf W8 B9 0 45 = some (entC y) := r9.all (ent_size _).symm (by omega)
    have hpp : (pk.toList == pk.toList) = true := ba_eq rfl
    clear x8 r8 r9 hB9
    go_wp2_with (first | (go_at_call 31; refine (HSan.out _ (by (with_reducible repeat first|exact HX08.out|exact eR _|apply eD|apply eN|apply eA|apply eO|apply eS|apply eC);all_goals first|omega|simp <;> omega)).mono ?_; rintro e w' ⟨rfl, hxl⟩; obtain ⟨xl, rfl⟩ := hxl.asLater; clear hxl) | (go_at_call 37; refine (HRP.out _ (by (with_reducible repeat first|exact HX08.out|exact eR _|apply eD|apply eN|apply eA|apply eO|apply eS|apply eC);all_goals first|omega|simp <;> omega)).mono ?_; rintro e w' ⟨rfl, hxl⟩; obtain ⟨xl, rfl⟩ := hxl.asLater; clear hxl) | (go_at_call 33; refine (HSm.out _ (by (with_reducible repeat first|exact HX8.out|exact eR _|apply eD|apply eN|apply eA|apply eO|apply eS|apply eC);all_goals first|omega|simp <;> omega)).mono ?_; rintro e w' ⟨rfl, hxl⟩; obtain ⟨xl, rfl⟩ := hxl.asLater; clear hxl))
    go_ret
    exact ⟨rfl, (by (with_reducible repeat first|exact HX08.out|exact eR _|apply eD|apply eN|apply eA|apply eO|apply eS|apply eC);all_goals first|omega|simp <;> omega)⟩
end
end Go.Proofs.YtmgekdggahoboaaGreatDoor

namespace Go.Proofs.YtmgekdggahoboaaGreatDoor
open Go.ChangeShapes Go.WideShapes Go.ChangeAt Go.ChangeMaps Go.RowKit
open Go.Proofs
theorem laidPb {W : World} (h : laidMetH Tryz.prog Rows.entryPacksBackRow.laid W) : Konst 4 W ∧ RKonst W := by
 rw [MakeChecks.laidMetH_plain _ _ _ (by kernel_rfl)] at h
 obtain ⟨ps, ⟨ga, ta, csa, fa, pa, qa, hga, hta, hva, hda, ⟨g0, t0, cs0, f0, p0, q0, hg0, ht0, hv0, hd0, ⟨g1, t1, cs1, f1, p1, q1, hg1, ht1, hv1, hd1, _, rfl⟩, rfl⟩, rfl⟩, _, hf⟩ := h
 obtain rfl := Option.some.inj ((show Tryz.prog.globalNamed "weirgate/weirgateref02.constants" = some 1 by kernel_rfl).symm.trans hg0)
 obtain rfl := Option.some.inj ((show Tryz.prog.globalNamed "weirgate/hash.constants" = some 4 by kernel_rfl).symm.trans hg1)
 obtain rfl := Option.some.inj ((show (Tryz.prog.globals[(1 : Nat)]?).map (·.type) = some 329 by kernel_rfl).symm.trans ht0)
 obtain rfl := Option.some.inj ((show (Tryz.prog.globals[(4 : Nat)]?).map (·.type) = some 329 by kernel_rfl).symm.trans ht1)
 rw [laidRK] at hd0
 rw [laidK] at hd1
 exact ⟨table_at hg1 hv1 hd1 (fun x hx => by simp [hx]) hf, table_at hg0 hv0 hd0 (fun x hx => by simp [hx]) hf⟩
theorem entryPacksBack_lifted (os : Os) (started : os.Started) (H : Type) (enc : TypeId × Value → H) :
  ReturnsInHanded {} Tryz.checked os 7 .any (fun w args => (Rows.entryPacksBackSpec.pre enc Tryz.prog Tryz.f7 Rows.entryPacksBackRow.domain false w args ∧ laidMetH Tryz.prog Rows.entryPacksBackRow.laid w) ∧ sizedMet enc Tryz.prog Tryz.f7 (OpenSpec.ofChange Rows.entryPacksBackSpec) false w args)
   (Rows.entryPacksBackSpec.post enc Tryz.prog Tryz.f7 false true false false) := by
 refine returnsInHanded_of_change_and (C := Tryz.checked) (X := fun w _ => laidMetH Tryz.prog Rows.entryPacksBackRow.laid w) (fun _ _ _ hh h => h.of_heap hh) Tryz.own started (by kernel_rfl) Tryz.func7
  (ChangeSpec.witness_shaped (enc := enc) (C := Tryz.checked) (os := os) (X := fun w _ => laidMetH Tryz.prog Rows.entryPacksBackRow.laid w) false (World.laidAll Tryz.prog os Rows.entryPacksBackRow.laid) #[.agg (entC noEn), .string ByteArray.empty] 8 (World.laidAll_os _ _ _)
   (World.shaped_of_ZipB (by kernel_rfl) (by kernel_rfl)) (by kernel_rfl) (by kernel_rfl) (by kernel_rfl)
   (by rw [MakeChecks.laidMetH_plain _ _ _ (by kernel_rfl)]; exact laidMet_laidAll _ (by kernel_rfl) (by kernel_rfl))) ?_
 intro W base args ds gs before hval0 hW hcnd hSz hL _
 have hval : ∀ (j : Nat) t v, Tryz.f7.params[j]? = some t → args[j]? = some v → Value.okWide Tryz.prog W .any base t v := hval0
 have hW' := hW
 obtain ⟨p, q, hA0, hV, rfl, hfz, hnd⟩ := hW
 have hA : DataW.TrodAll enc Tryz.prog W 0 (fun _ => true) true Tryz.f7.params.toList args.toList ds p := hA0
 rw [Tryz.params7] at hA hval
 obtain ⟨rfl, rfl⟩ := trodVars_none hV
 clear hA0 hval0 hcnd
 obtain ⟨v0, vs0, d0, ds0, p0, q0, ea0, rfl, rfl, h0, hA⟩ := trodAll_cons hA
 obtain ⟨v1, vs1, d1, ds1, p1, q1, rfl, rfl, rfl, h1, hA⟩ := trodAll_cons hA
 obtain ⟨rfl, rfl, rfl⟩ := trodAll_nil hA
 obtain rfl : args = #[v0, v1] := by cases args; simp_all
 obtain ⟨hk, hrk⟩ := laidPb hL
 obtain ⟨e, A, c, l, rfl, hin, hb4⟩ := open_entry2 (hval 0 96 v0 rfl rfl) h0
 obtain ⟨s, rfl, _, _, hs⟩ := open_string Tryz.underlying9 (hval 1 9 v1 rfl rfl) h1
 have main := packs_ok e A c l s W hin hb4 (by unfold maxLen at hs; omega) hk hrk
 refine main.mono fun e' W' ⟨he, hx⟩ => ?_
 subst he
 exact ⟨_, rfl, law_post Tryz.laidOut (by kernel_rfl) rfl hW' hx 4 (by kernel_rfl) Tryz.underlying4 rfl rfl rfl⟩
end Go.Proofs.YtmgekdggahoboaaGreatDoor