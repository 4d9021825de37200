/- Chains of epochs that came in, opened. -/
import Derived.WalkKit
import Derived.WalkSpells
import Derived.WalkLawsBesides
import Derived.Deep.QuietTactic
import Derived.BigQuiet
import Derived.Test.YtpojnhikgjcgmaaGreatDoorINw
set_option maxRecDepth 100000
set_option maxHeartbeats 64000000
set_option linter.unusedVariables false
set_option linter.unusedSimpArgs false
namespace Go.Proofs.YtpojnhikgjcgmaaGreatDoor
open Go.RowKit Go.Shelf
open Go.Proofs
theorem flat_snoc {α β : Type} (f : α → List β) (l : List α) (k : Nat) (h : k < l.length) : (l.take (k + 1)).flatMap f = (l.take k).flatMap f ++ f l[k] := by
 rw [List.take_succ_eq_append_getElem h, List.flatMap_append]
 simp
theorem map_snoc {α β : Type} (f : α → β) (l : List α) (k : Nat) (h : k < l.length) : (l.take (k + 1)).map f = (l.take k).map f ++ [f l[k]] := by
 rw [List.take_succ_eq_append_getElem h, List.map_append]
 rfl
theorem owns_fresh {α : Type} {e : TypeId} {size : Nat} {enc : α → List Value} (E : EncTy enc size) (l : List α) (W : World) (cs : Array Value) (b base : Nat) (hb : b = W.heap.size) (hbase : base ≤ W.heap.size) (h : cs.toList = l.flatMap enc) (hl : l.length ≤ 1000000) : Owns e size enc base (W.alloc (.cells cs e)) (some ⟨b, 0, none⟩) l.length l := by
 subst hb
 refine Owns.mk E hbase (heap_alloc_new W _) (Nat.le_refl _) (by unfold maxLen; omega) ?_ ?_
 ·have := congrArg List.length h
  rw [E.flat_len] at this
  simpa using this
 ·rw [h, List.take_of_length_le]
  rw [E.flat_len]
  exact Nat.le_refl _
def EPOut (e : Ep) (base : Nat) (r : Ending) (w' : World) : Prop := ∃ A c l', r = .returned (.slice A l'.length c) ∧ Hid (l' = epParts e) ∧ OwnsStr base w' A c l'
theorem eparts_any (e : Ep) (w : World) (hok : EpOk e) (hs : EpShort e) (ha : EpAt w e) :
  Calls Tryz.prog 60 #[.agg (epC e)] w fun r w' => EPOut e w.heap.size r w' ∧ Ext w w' := by
 have HI0 := lh (fun (A : Option Addr) (c : Nat) (W : World) (hr : ReadsInt W W.heap.size A [e.num, e.lo, e.hi, e.serial, (e.pu.length : Int)]) => sints_ok A c [e.num, e.lo, e.hi, e.serial, (e.pu.length : Int)] W (by show 5 ≤ 100000; decide) hr (fun x hx => by
  have h1 := hok.ints x
  have h2 := hs.pu
  simp only [List.mem_cons, List.not_mem_nil, or_false] at hx h1
  rcases hx with rfl | rfl | rfl | rfl | rfl
  ·exact h1 (.inl rfl)
  ·exact h1 (.inr (.inl rfl))
  ·exact h1 (.inr (.inr (.inl rfl)))
  ·exact h1 (.inr (.inr (.inr rfl)))
  ·unfold i64; omega))
 have HIp := lh (fun (k : Nat) (h : k < e.pu.length) (A : Option Addr) (c : Nat) (W : World) (hr : ReadsInt W W.heap.size A [e.pu[k].kind, oneB e.pu[k].soft]) => sints_ok A c [e.pu[k].kind, oneB e.pu[k].soft] W (by show 2 ≤ 100000; decide) hr (fun x hx => by
  have h1 := (hok.pu _ (List.getElem_mem h)).1
  simp only [List.mem_cons, List.not_mem_nil, or_false] at hx
  rcases hx with rfl | rfl
  ·exact h1
  ·unfold i64 oneB; split <;> omega))
 have H16 := lh hok.prev.len
 have HRv := lh (fun (k : Nat) (h : k < e.rv.length) => (hok.rv _ (List.getElem_mem h)).len)
 have HAp := lh ha.pu
 have HAr := lh ha.rv
 have hpl := hs.pu
 have hrl := hs.rv
 have HE : Hid (epParts e = [strOfNums (encInts [e.num, e.lo, e.hi, e.serial, (e.pu.length : Int)]), strOfNums e.prev] ++ e.pu.flatMap puParts ++ e.rv.map strOfNums) := lh rfl
 have hft := ep_fits e
 clear hok hs ha
 go_enter Tryz.func60, Tryz.ntmps60
 go_wp2
 refine wp_world (fun W => Ext w W ∧ RowAt W w.heap.size (epC e) ∧ W.heap.size = w.heap.size + 1) ⟨(by (with_reducible repeat first|exact eR _|apply eD|apply eN|apply eA|apply eO|apply eS|apply eC);all_goals first|omega|simp <;> omega), RowAt.new _ _ _, by simp⟩ ?_
 obtain ⟨B, hB⟩ : ∃ B, w.heap.size = B := ⟨_, rfl⟩
 rw [hB]
 rintro W1 ⟨x1, uB, hs1⟩
 have HX1 := lh x1
 have hlu := uB.lt
 have qB_0 : W1.cell? ⟨B, 0, none⟩ = some (.int .i64 e.num) := (uB.cell 0).trans (ep_g0 e)
 have qB_17 : W1.cell? ⟨B, 17, none⟩ = some (.int .i64 e.lo) := (uB.cell 17).trans (ep_g17 e)
 have qB_18 : W1.cell? ⟨B, 18, none⟩ = some (.int .i64 e.hi) := (uB.cell 18).trans (ep_g18 e)
 have qB_21 : W1.cell? ⟨B, 21, none⟩ = some (.int .i64 e.serial) := (uB.cell 21).trans (ep_g21 e)
 have qB_19 : W1.cell? ⟨B, 19, none⟩ = some (.slice e.PA e.pu.length e.pc) := (uB.cell 19).trans (ep_g19 e)
 have HQ20 : Hid (W1.cell? ⟨B, 20, none⟩ = some (.slice e.RA e.rv.length e.rc)) := lh ((uB.cell 20).trans (ep_g20 e))
 have HQ19 := lh qB_19
 have rdB_1 := lh (arr_reads ((uB.row 1 16).trans (by rw [if_neg (by omega), ep_s1_16])) H16.out hlu)
 clear x1 uB
 generalize e.PA = PA at *
 generalize e.RA = RA at *
 refine wp_region_soft 18 (softsL [.eq (.pointer (some ⟨B, 0, none⟩)), .eq (.int .i64 e.num), .eq (.pointer (some ⟨B, 17, none⟩)), .eq (.pointer (some ⟨B, 17, none⟩)), .eq (.int .i64 e.lo), .eq (.pointer (some ⟨B, 17, none⟩)), .eq (.pointer (some ⟨B, 18, none⟩)), .eq (.int .i64 e.hi), .eq (.pointer (some ⟨B, 21, none⟩)), .eq (.int .i64 e.serial), .eq (.pointer (some ⟨B, 19, none⟩)), .eq (.slice PA e.pu.length e.pc), .eq (.int .i64 e.pu.length), readI ([e.num, e.lo, e.hi, e.serial, (e.pu.length : Int)]), .eq (.string (strOfNums (encInts [e.num, e.lo, e.hi, e.serial, (e.pu.length : Int)]))), .eq (.pointer (some ⟨B, 1, none⟩)), .eq (.slice (some ⟨B, 1, none⟩) 16 16), .eq (.string (strOfNums e.prev))]) (by kernel_rfl) (by kernel_rfl) (lt_cons ?_ (lt_cons ?_ (lt_cons ?_ (lt_cons ?_ (lt_cons ?_ (lt_cons ?_ (lt_cons ?_ (lt_cons ?_ (lt_cons ?_ (lt_cons ?_ (lt_cons ?_ (lt_cons ?_ (lt_cons ?_ (lt_cons ?_ (lt_cons ?_ (lt_cons ?_ (lt_cons ?_ (lt_cons ?_ (lt_none))))))))))))))))))) ?_
 any_goals (refine sop rfl fun xs W HW hsW HD Q' HQ => ?_; simp only [fillAt, dstOf, lc0, lcs, obs, Act.put, lsa, lsz, lss, nz, Nat.reduceAdd] at HQ ⊢)
 ·
  go_wp2
  exact HQ.out _ _ (eR _) rfl
 ·
  have hd0 : xs 0 = .pointer (some ⟨B, 0, none⟩) := (HD.out 0 (dk (by kernel_rfl)))
  generalize xs 0 = x0 at hd0 HQ ⊢; subst hd0
  have hc : W.cell? ⟨B, 0, none⟩ = some (.int .i64 e.num) := (HW.out.cell (p := ⟨B, 0, none⟩) (by show B < _; omega)).trans qB_0
  go_wp2
  exact HQ.out _ _ (eR _) rfl
 ·
  go_wp2
  exact HQ.out _ _ (eR _) rfl
 ·
  have hd2 : xs 2 = .pointer (some ⟨B, 17, none⟩) := (HD.out 2 (dk (by kernel_rfl)))
  generalize xs 2 = x2 at hd2 HQ ⊢; subst hd2
  go_wp2
  exact HQ.out _ _ (eR _) rfl
 ·
  have hd3 : xs 3 = .pointer (some ⟨B, 17, none⟩) := (HD.out 3 (dk (by kernel_rfl)))
  generalize xs 3 = x3 at hd3 HQ ⊢; subst hd3
  have hc : W.cell? ⟨B, 17, none⟩ = some (.int .i64 e.lo) := (HW.out.cell (p := ⟨B, 17, none⟩) (by show B < _; omega)).trans qB_17
  go_wp2
  exact HQ.out _ _ (eR _) rfl
 ·
  go_wp2
  exact HQ.out _ _ (eR _) rfl
 ·
  have hd5 : xs 5 = .pointer (some ⟨B, 17, none⟩) := (HD.out 5 (dk (by kernel_rfl)))
  generalize xs 5 = x5 at hd5 HQ ⊢; subst hd5
  go_wp2
  exact HQ.out _ _ (eR _) rfl
 ·
  have hd6 : xs 6 = .pointer (some ⟨B, 18, none⟩) := (HD.out 6 (dk (by kernel_rfl)))
  generalize xs 6 = x6 at hd6 HQ ⊢; subst hd6
  have hc : W.cell? ⟨B, 18, none⟩ = some (.int .i64 e.hi) := (HW.out.cell (p := ⟨B, 18, none⟩) (by show B < _; omega)).trans qB_18
  go_wp2
  exact HQ.out _ _ (eR _) rfl
 ·
  go_wp2
  exact HQ.out _ _ (eR _) rfl
 ·
  have hd8 : xs 8 = .pointer (some ⟨B, 21, none⟩) := (HD.out 8 (dk (by kernel_rfl)))
  generalize xs 8 = x8 at hd8 HQ ⊢; subst hd8
  have hc : W.cell? ⟨B, 21, none⟩ = some (.int .i64 e.serial) := (HW.out.cell (p := ⟨B, 21, none⟩) (by show B < _; omega)).trans qB_21
  go_wp2
  exact HQ.out _ _ (eR _) rfl
 ·
  go_wp2
  exact HQ.out _ _ (eR _) rfl
 ·
  have hd10 : xs 10 = .pointer (some ⟨B, 19, none⟩) := (HD.out 10 (dk (by kernel_rfl)))
  generalize xs 10 = x10 at hd10 HQ ⊢; subst hd10
  have hc : W.cell? ⟨B, 19, none⟩ = some (.slice PA e.pu.length e.pc) := (HW.out.cell (p := ⟨B, 19, none⟩) (by show B < _; omega)).trans qB_19
  go_wp2
  exact HQ.out _ _ (eR _) rfl
 ·
  have hd11 : xs 11 = .slice PA e.pu.length e.pc := (HD.out 11 (dk (by kernel_rfl)))
  generalize xs 11 = x11 at hd11 HQ ⊢; subst hd11
  go_wp2
  exact HQ.out _ _ (eR _) rfl
 ·
  have hd1 : xs 1 = .int .i64 e.num := (HD.out 1 (dk (by kernel_rfl)))
  generalize xs 1 = x1 at hd1 HQ ⊢; subst hd1
  have hd4 : xs 4 = .int .i64 e.lo := (HD.out 4 (dk (by kernel_rfl)))
  generalize xs 4 = x4 at hd4 HQ ⊢; subst hd4
  have hd7 : xs 7 = .int .i64 e.hi := (HD.out 7 (dk (by kernel_rfl)))
  generalize xs 7 = x7 at hd7 HQ ⊢; subst hd7
  have hd9 : xs 9 = .int .i64 e.serial := (HD.out 9 (dk (by kernel_rfl)))
  generalize xs 9 = x9 at hd9 HQ ⊢; subst hd9
  have hd12 : xs 12 = .int .i64 e.pu.length := (HD.out 12 (dk (by kernel_rfl)))
  generalize xs 12 = x12 at hd12 HQ ⊢; subst hd12
  go_wp2
  exact HQ.out _ _ ((eR _).alloc _) ⟨_, _, rfl, reads_fresh zE ([e.num, e.lo, e.hi, e.serial, (e.pu.length : Int)]) W _ _ rfl⟩
 ·
  obtain ⟨A13, c13, h13, hr13⟩ : (readI ([e.num, e.lo, e.hi, e.serial, (e.pu.length : Int)])).S (xs 13) W := (HD.out 13 (dk (by kernel_rfl)))
  generalize xs 13 = x13 at h13 HQ ⊢; subst h13
  go_wp2_with (go_at_call 115; refine (HI0.out A13 c13 _ hr13).mono ?_; rintro e w1 ⟨rfl, hx⟩)
  exact HQ.out _ _ hx rfl
 ·
  go_wp2
  exact HQ.out _ _ (eR _) rfl
 ·
  have hd15 : xs 15 = .pointer (some ⟨B, 1, none⟩) := (HD.out 15 (dk (by kernel_rfl)))
  generalize xs 15 = x15 at hd15 HQ ⊢; subst hd15
  go_wp2
  exact HQ.out _ _ (eR _) rfl
 ·
  have hd16 : xs 16 = .slice (some ⟨B, 1, none⟩) 16 16 := (HD.out 16 (dk (by kernel_rfl)))
  generalize xs 16 = x16 at hd16 HQ ⊢; subst hd16
  have hcv := conv_bytes 16 (rdB_1.out.on HW.out) (by rw [H16.out]; omega)
  rw [H16.out] at hcv
  go_wp2
  exact HQ.out _ _ (eR _) rfl
 intro xs W3 hW hS
 have h14 : xs 14 = .string (strOfNums (encInts [e.num, e.lo, e.hi, e.serial, (e.pu.length : Int)])) := hS 14 (by omega)
 have h17 : xs 17 = .string (strOfNums e.prev) := hS 17 (by omega)
 simp only [fillAt, dstOf, lc0, lcs, obs, Act.put, lsa, lsz, lss, nz, Nat.reduceAdd, List.drop_succ_cons, List.drop_zero, List.drop_nil]
 generalize xs 14 = x14 at *; subst h14
 generalize xs 17 = x17 at *; subst h17
 have HW3 := lh (HX1.out.trans hW)
 have HWW3 := lh hW
 clear hS hW qB_0 qB_17 qB_18 qB_21 qB_19
 have hls3 := HWW3.out.size
 generalize strOfNums (encInts [e.num, e.lo, e.hi, e.serial, (e.pu.length : Int)]) = T0 at *
 generalize strOfNums e.prev = T1 at *
 go_upto_region 2 with (fail)
 refine wp_world (fun W => Ext W1 W ∧ OwnsStr W1.heap.size W (some ⟨W3.heap.size, 0, none⟩) 2 [T0, T1]) ⟨HWW3.out.alloc _, owns_fresh (e := 9) sE [T0, T1] W3 _ _ _ rfl hls3 rfl (by simp)⟩ ?_
 generalize W3.heap.size = g3
 rintro W4 ⟨x4, o4⟩
 have HX4 := lh x4
 have HO4 := lh o4
 have hs4 := x4.size
 have qB_19 : W4.cell? ⟨B, 19, none⟩ = some (.slice PA e.pu.length e.pc) := (x4.cell (p := ⟨B, 19, none⟩) hlu).trans HQ19.out
 clear x4 o4 HI0 rdB_1 HW3 HWW3
 go_wp2
 go_loopw [3, 31] (fun o i wr => ∃ (A2 : Option Addr) (c2 : Nat) (out : List ByteArray) (k : Nat), o = .slice A2 out.length c2 ∧ i = .int .i64 k ∧ k ≤ e.pu.length ∧ out.length ≤ 2 + 2 * k ∧ Hid (out = [T0, T1] ++ (e.pu.take k).flatMap puParts) ∧ Hid (OwnsStr W1.heap.size wr A2 c2 out) ∧ Hid (Ext W1 wr)) (fun _ i _ => e.pu.length - (intOf i).toNat)
 case atStart => exact ⟨_, 2, [T0, T1], 0, rfl, rfl, Nat.zero_le _, Nat.le_refl _, lh (by simp), HO4, HX4⟩
 case round =>
  obtain ⟨A2, c2, out, k, rfl, rfl, hk, hol, HOu, HOw, HX⟩ := hrel
  have hsz := HX.out.size
  by_cases hlt : k < e.pu.length
  ·obtain ⟨b, off, rfl, hb, hrow⟩ := reads_row puE (HAp.out.ext (HX1.out.trans HX.out) (Nat.le_refl _)) k hlt
   have hb2 : b < wr.heap.size := by omega
   have HI1 := lh (HIp.out k hlt)
   have HN := lh (flat_snoc puParts e.pu k hlt)
   have hft2 := pu_fits e.pu[k]
   change rowOf wr b (off + k * 3) 3 = some (puC e.pu[k]) at hrow
   clear HIp
   generalize e.pu[k] = p at *
   cases hsf : p.soft with
   | true =>
    have e1 : oneB p.soft = 1 := by rw [hsf]; rfl
    have HPP : Hid (puParts p = [strOfNums (encInts [p.kind, 1]), p.what]) := lh (by rw [puParts, e1])
    rw [e1] at HI1
    clear e1
    go_upto_region 8 with (fail)
    refine wp_world (fun W => Ext wr W ∧ RowAt W wr.heap.size (puC p)) ⟨(by (with_reducible repeat first|exact eR _|apply eD|apply eN|apply eA|apply eO|apply eS|apply eC);all_goals first|omega|simp <;> omega), (RowAt.newAt (by simp)).store rfl⟩ ?_
    generalize hg : wr.heap.size = g
    rintro W5 ⟨x5, ug⟩
    have HX5 := lh x5
    have hl5 := ug.lt
    have hs5 := x5.size
    have qg_0 : W5.cell? ⟨g, 0, none⟩ = some (.int .i64 p.kind) := (ug.cell 0).trans (pu_g0 p)
    have qg_1 : W5.cell? ⟨g, 1, none⟩ = some (.string p.what) := (ug.cell 1).trans (pu_g1 p)
    clear ug x5 hrow
    refine wp_region_soft 9 (softsL [.eq (.slice A2 out.length c2), .eq (.pointer (some ⟨g, 0, none⟩)), .eq (.int .i64 p.kind), .eq (.int .i64 1), readI ([p.kind, 1]), .eq (.string (strOfNums (encInts [p.kind, 1]))), .eq (.pointer (some ⟨g, 1, none⟩)), .eq (.string p.what), readS ([strOfNums (encInts [p.kind, 1]), p.what])]) (by kernel_rfl) (by kernel_rfl) (lt_cons ?_ (lt_cons ?_ (lt_cons ?_ (lt_cons ?_ (lt_cons ?_ (lt_cons ?_ (lt_cons ?_ (lt_cons ?_ (lt_cons ?_ (lt_none)))))))))) ?_
    any_goals (refine sop rfl fun xs W HW hsW HD Q' HQ => ?_; simp only [fillAt, dstOf, lc0, lcs, obs, Act.put, lsa, lsz, lss, nz, Nat.reduceAdd] at HQ ⊢)
    ·
     go_wp2
     exact HQ.out _ _ (eR _) rfl
    ·
     go_wp2
     exact HQ.out _ _ (eR _) rfl
    ·
     have hd1 : xs 1 = .pointer (some ⟨g, 0, none⟩) := (HD.out 1 (dk (by kernel_rfl)))
     generalize xs 1 = x1 at hd1 HQ ⊢; subst hd1
     have hc : W.cell? ⟨g, 0, none⟩ = some (.int .i64 p.kind) := (HW.out.cell (p := ⟨g, 0, none⟩) (by show g < _; omega)).trans qg_0
     go_wp2
     exact HQ.out _ _ (eR _) rfl
    ·
     go_wp2
     exact HQ.out _ _ (eR _) rfl
    ·
     have hd2 : xs 2 = .int .i64 p.kind := (HD.out 2 (dk (by kernel_rfl)))
     generalize xs 2 = x2 at hd2 HQ ⊢; subst hd2
     have hd3 : xs 3 = .int .i64 1 := (HD.out 3 (dk (by kernel_rfl)))
     generalize xs 3 = x3 at hd3 HQ ⊢; subst hd3
     go_wp2
     exact HQ.out _ _ ((eR _).alloc _) ⟨_, _, rfl, reads_fresh zE ([p.kind, 1]) W _ _ rfl⟩
    ·
     obtain ⟨A4, c4, h4, hr4⟩ : (readI ([p.kind, 1])).S (xs 4) W := (HD.out 4 (dk (by kernel_rfl)))
     generalize xs 4 = x4 at h4 HQ ⊢; subst h4
     go_wp2_with (go_at_call 115; refine (HI1.out A4 c4 _ hr4).mono ?_; rintro e w1 ⟨rfl, hx⟩)
     exact HQ.out _ _ hx rfl
    ·
     go_wp2
     exact HQ.out _ _ (eR _) rfl
    ·
     have hd6 : xs 6 = .pointer (some ⟨g, 1, none⟩) := (HD.out 6 (dk (by kernel_rfl)))
     generalize xs 6 = x6 at hd6 HQ ⊢; subst hd6
     have hc : W.cell? ⟨g, 1, none⟩ = some (.string p.what) := (HW.out.cell (p := ⟨g, 1, none⟩) (by show g < _; omega)).trans qg_1
     go_wp2
     exact HQ.out _ _ (eR _) rfl
    ·
     have hd5 : xs 5 = .string (strOfNums (encInts [p.kind, 1])) := (HD.out 5 (dk (by kernel_rfl)))
     generalize xs 5 = x5 at hd5 HQ ⊢; subst hd5
     have hd7 : xs 7 = .string p.what := (HD.out 7 (dk (by kernel_rfl)))
     generalize xs 7 = x7 at hd7 HQ ⊢; subst hd7
     go_wp2
     exact HQ.out _ _ ((eR _).alloc _) ⟨_, _, rfl, reads_fresh sE ([strOfNums (encInts [p.kind, 1]), p.what]) W _ _ rfl, fun h => (by cases h)⟩
    intro xs W6 hW hS
    have h0 : xs 0 = .slice A2 out.length c2 := hS 0 (by omega)
    obtain ⟨A8, c8, h8, hr8, hz8⟩ : (readS ([strOfNums (encInts [p.kind, 1]), p.what])).S (xs 8) W6 := hS 8 (by omega)
    simp only [fillAt, dstOf, lc0, lcs, obs, Act.put, lsa, lsz, lss, nz, Nat.reduceAdd, List.drop_succ_cons, List.drop_zero, List.drop_nil]
    generalize xs 0 = x0 at *; subst h0
    generalize xs 8 = x8 at *; subst h8
    have HW6 := lh (HX5.out.trans hW)
    have HWW6 := lh hW
    clear hS hW qg_0 qg_1
    generalize strOfNums (encInts [p.kind, 1]) = T2 at *
    generalize p.what = T3 at *
    have hs6 := HWW6.out.size
    go_wp2_with (at_builtin; refine app_reads strT sE rfl _ _ rfl W1.heap.size _ _ out rfl (HOw.out.ext (by (with_reducible repeat first|exact HW6.out|exact eR _|apply eD|apply eN|apply eA|apply eO|apply eS|apply eC);all_goals first|omega|simp <;> omega)) W6.heap.size _ _ [T2, T3] rfl hr8 hz8 (by first | omega | (simp; omega)) (by first | omega | (simp; omega)) (by first | omega | (simp; omega)) ?_; intro A7 c7 l7 w7 HL HO5 hB hl1 hl2 _; have HO5' := lh HO5; have HB5 := lh hB; clear HO5 hB)
    go_roundw
    case rel => exact ⟨A7, c7, l7, k + 1, rfl, by go_num, by omega, by (try simp at hl1 hl2); omega, lh (by rw [HL.out, HN.out, HOu.out, HPP.out, List.append_assoc]), HO5', lh ((HX.out.trans HW6.out).grown HB5.out (Nat.le_refl _))⟩
    case measure => simp [intOf]; omega
   | false =>
    have e1 : oneB p.soft = 0 := by rw [hsf]; rfl
    have HPP : Hid (puParts p = [strOfNums (encInts [p.kind, 0]), p.what]) := lh (by rw [puParts, e1])
    rw [e1] at HI1
    clear e1
    go_upto_region 8 with (fail)
    refine wp_world (fun W => Ext wr W ∧ RowAt W wr.heap.size (puC p)) ⟨(by (with_reducible repeat first|exact eR _|apply eD|apply eN|apply eA|apply eO|apply eS|apply eC);all_goals first|omega|simp <;> omega), (RowAt.newAt (by simp)).store rfl⟩ ?_
    generalize hg : wr.heap.size = g
    rintro W5 ⟨x5, ug⟩
    have HX5 := lh x5
    have hl5 := ug.lt
    have hs5 := x5.size
    have qg_0 : W5.cell? ⟨g, 0, none⟩ = some (.int .i64 p.kind) := (ug.cell 0).trans (pu_g0 p)
    have qg_1 : W5.cell? ⟨g, 1, none⟩ = some (.string p.what) := (ug.cell 1).trans (pu_g1 p)
    clear ug x5 hrow
    refine wp_region_soft 9 (softsL [.eq (.slice A2 out.length c2), .eq (.pointer (some ⟨g, 0, none⟩)), .eq (.int .i64 p.kind), .eq (.int .i64 0), readI ([p.kind, 0]), .eq (.string (strOfNums (encInts [p.kind, 0]))), .eq (.pointer (some ⟨g, 1, none⟩)), .eq (.string p.what), readS ([strOfNums (encInts [p.kind, 0]), p.what])]) (by kernel_rfl) (by kernel_rfl) (lt_cons ?_ (lt_cons ?_ (lt_cons ?_ (lt_cons ?_ (lt_cons ?_ (lt_cons ?_ (lt_cons ?_ (lt_cons ?_ (lt_cons ?_ (lt_none)))))))))) ?_
    any_goals (refine sop rfl fun xs W HW hsW HD Q' HQ => ?_; simp only [fillAt, dstOf, lc0, lcs, obs, Act.put, lsa, lsz, lss, nz, Nat.reduceAdd] at HQ ⊢)
    ·
     go_wp2
     exact HQ.out _ _ (eR _) rfl
    ·
     go_wp2
     exact HQ.out _ _ (eR _) rfl
    ·
     have hd1 : xs 1 = .pointer (some ⟨g, 0, none⟩) := (HD.out 1 (dk (by kernel_rfl)))
     generalize xs 1 = x1 at hd1 HQ ⊢; subst hd1
     have hc : W.cell? ⟨g, 0, none⟩ = some (.int .i64 p.kind) := (HW.out.cell (p := ⟨g, 0, none⟩) (by show g < _; omega)).trans qg_0
     go_wp2
     exact HQ.out _ _ (eR _) rfl
    ·
     go_wp2
     exact HQ.out _ _ (eR _) rfl
    ·
     have hd2 : xs 2 = .int .i64 p.kind := (HD.out 2 (dk (by kernel_rfl)))
     generalize xs 2 = x2 at hd2 HQ ⊢; subst hd2
     have hd3 : xs 3 = .int .i64 0 := (HD.out 3 (dk (by kernel_rfl)))
     generalize xs 3 = x3 at hd3 HQ ⊢; subst hd3
     go_wp2
     exact HQ.out _ _ ((eR _).alloc _) ⟨_, _, rfl, reads_fresh zE ([p.kind, 0]) W _ _ rfl⟩
    ·
     obtain ⟨A4, c4, h4, hr4⟩ : (readI ([p.kind, 0])).S (xs 4) W := (HD.out 4 (dk (by kernel_rfl)))
     generalize xs 4 = x4 at h4 HQ ⊢; subst h4
     go_wp2_with (go_at_call 115; refine (HI1.out A4 c4 _ hr4).mono ?_; rintro e w1 ⟨rfl, hx⟩)
     exact HQ.out _ _ hx rfl
    ·
     go_wp2
     exact HQ.out _ _ (eR _) rfl
    ·
     have hd6 : xs 6 = .pointer (some ⟨g, 1, none⟩) := (HD.out 6 (dk (by kernel_rfl)))
     generalize xs 6 = x6 at hd6 HQ ⊢; subst hd6
     have hc : W.cell? ⟨g, 1, none⟩ = some (.string p.what) := (HW.out.cell (p := ⟨g, 1, none⟩) (by show g < _; omega)).trans qg_1
     go_wp2
     exact HQ.out _ _ (eR _) rfl
    ·
     have hd5 : xs 5 = .string (strOfNums (encInts [p.kind, 0])) := (HD.out 5 (dk (by kernel_rfl)))
     generalize xs 5 = x5 at hd5 HQ ⊢; subst hd5
     have hd7 : xs 7 = .string p.what := (HD.out 7 (dk (by kernel_rfl)))
     generalize xs 7 = x7 at hd7 HQ ⊢; subst hd7
     go_wp2
     exact HQ.out _ _ ((eR _).alloc _) ⟨_, _, rfl, reads_fresh sE ([strOfNums (encInts [p.kind, 0]), p.what]) W _ _ rfl, fun h => (by cases h)⟩
    intro xs W6 hW hS
    have h0 : xs 0 = .slice A2 out.length c2 := hS 0 (by omega)
    obtain ⟨A8, c8, h8, hr8, hz8⟩ : (readS ([strOfNums (encInts [p.kind, 0]), p.what])).S (xs 8) W6 := hS 8 (by omega)
    simp only [fillAt, dstOf, lc0, lcs, obs, Act.put, lsa, lsz, lss, nz, Nat.reduceAdd, List.drop_succ_cons, List.drop_zero, List.drop_nil]
    generalize xs 0 = x0 at *; subst h0
    generalize xs 8 = x8 at *; subst h8
    have HW6 := lh (HX5.out.trans hW)
    have HWW6 := lh hW
    clear hS hW qg_0 qg_1
    generalize strOfNums (encInts [p.kind, 0]) = T2 at *
    generalize p.what = T3 at *
    have hs6 := HWW6.out.size
    go_wp2_with (at_builtin; refine app_reads strT sE rfl _ _ rfl W1.heap.size _ _ out rfl (HOw.out.ext (by (with_reducible repeat first|exact HW6.out|exact eR _|apply eD|apply eN|apply eA|apply eO|apply eS|apply eC);all_goals first|omega|simp <;> omega)) W6.heap.size _ _ [T2, T3] rfl hr8 hz8 (by first | omega | (simp; omega)) (by first | omega | (simp; omega)) (by first | omega | (simp; omega)) ?_; intro A7 c7 l7 w7 HL HO5 hB hl1 hl2 _; have HO5' := lh HO5; have HB5 := lh hB; clear HO5 hB)
    go_roundw
    case rel => exact ⟨A7, c7, l7, k + 1, rfl, by go_num, by omega, by (try simp at hl1 hl2); omega, lh (by rw [HL.out, HN.out, HOu.out, HPP.out, List.append_assoc]), HO5', lh ((HX.out.trans HW6.out).grown HB5.out (Nat.le_refl _))⟩
    case measure => simp [intOf]; omega
  ·have e1 : k = e.pu.length := by omega
   subst e1
   have HOu' : Hid (out = [T0, T1] ++ e.pu.flatMap puParts) := lh (by rw [HOu.out, List.take_of_length_le (Nat.le_refl _)])
   have q20 : wr.cell? ⟨B, 20, none⟩ = some (.slice RA e.rv.length e.rc) := (HX.out.cell (p := ⟨B, 20, none⟩) hlu).trans HQ20.out
   have hlw : B < wr.heap.size := by omega
   clear HIp HQ19 HOu HQ20 qB_19 hs4
   go_wp2
   generalize hPre : [T0, T1] ++ e.pu.flatMap puParts = pre at *
   have hol2 : out.length ≤ 22 := by omega
   clear hPre hol HO4
   go_loopw [3, 51] (fun o i wr => ∃ (A3 : Option Addr) (c3 : Nat) (ou : List ByteArray) (k : Nat), o = .slice A3 ou.length c3 ∧ i = .int .i64 k ∧ k ≤ e.rv.length ∧ ou.length ≤ 22 + k ∧ Hid (ou = pre ++ (e.rv.take k).map strOfNums) ∧ Hid (OwnsStr W1.heap.size wr A3 c3 ou) ∧ Hid (Ext W1 wr)) (fun _ i _ => e.rv.length - (intOf i).toNat)
   case atStart => exact ⟨A2, c2, out, 0, rfl, rfl, Nat.zero_le _, by omega, lh (by rw [HOu'.out]; simp), HOw, HX⟩
   case round =>
    clear HOu' HOw HX hol2 q20 hlw hsz
    obtain ⟨A3, c3, ou, k, rfl, rfl, hk, hol, HOu, HOw, HX⟩ := hrel
    have hsz := HX.out.size
    by_cases hlt : k < e.rv.length
    ·obtain ⟨b, off, rfl, hb, hrow⟩ := reads_row dgE (HAr.out.ext (HX1.out.trans HX.out) (Nat.le_refl _)) k hlt
     have hb2 : b < wr.heap.size := by omega
     have HN := lh (map_snoc strOfNums e.rv k hlt)
     have H16d := lh (HRv.out k hlt)
     change rowOf wr b (off + k * 16) 16 = some (dgC e.rv[k]) at hrow
     generalize e.rv[k] = d at *
     have hfd : fitsRow 16 (dgC d) = true := by simp [fitsRow, dgC, Value.oneCell']
     go_upto_region 13 with (fail)
     refine wp_world (fun W => Ext wr W ∧ RowAt W wr.heap.size (dgC d)) ⟨(by (with_reducible repeat first|exact eR _|apply eD|apply eN|apply eA|apply eO|apply eS|apply eC);all_goals first|omega|simp <;> omega), (RowAt.newAt (by simp)).store rfl⟩ ?_
     generalize hg : wr.heap.size = g
     rintro W5 ⟨x5, u5⟩
     have HX5 := lh x5
     have hl5 := u5.lt
     have hs5 := x5.size
     have hcv := conv_bytes 16 (arr_reads (u5.all (n := 16) rfl (by omega)) H16d.out hl5) (by rw [H16d.out]; omega)
     rw [H16d.out] at hcv
     clear u5 x5 hrow
     go_wp2_with (at_builtin; refine app_from strT sE rfl _ _ rfl W1.heap.size _ _ ou rfl (HOw.out.ext (by (with_reducible repeat first|exact HX5.out|exact eR _|apply eD|apply eN|apply eA|apply eO|apply eS|apply eC);all_goals first|omega|simp <;> omega)) _ 1 _ [strOfNums d] rfl rfl (new_cellsAt rfl _ _) (by omega) (by omega) (by first | omega | (simp; omega)) ?_; intro A4 c4 l4 w4 HL HO5 hB hl1 hl2 _; have HO5' := lh HO5; have HB5 := lh hB; clear HO5 hB)
     go_roundw
     case rel => exact ⟨A4, c4, l4, k + 1, rfl, by go_num, by omega, by omega, lh (by rw [HL.out, HN.out, HOu.out, List.append_assoc]), HO5', lh ((HX.out.trans (HX5.out.alloc _)).grown HB5.out (Nat.le_refl _))⟩
     case measure => simp [intOf]; omega
    ·have e1 : k = e.rv.length := by omega
     subst e1
     have HOf : Hid (ou = epParts e) := lh (by rw [HOu.out, List.take_of_length_le (Nat.le_refl _), HE.out])
     go_wp2
     go_ret
     exact ⟨⟨A3, c3, ou, rfl, HOf, HOw.out.lower (by omega)⟩, HX1.out.trans HX.out⟩
theorem rone_any (b : Bool) (w : World) : Calls Tryz.prog 120 #[.bool b] w fun e w' => e = .returned (.int .i64 (oneB b)) ∧ Ext w w' := by
 cases b
 all_goals
  go_enter Tryz.func120, Tryz.ntmps120
  go_wp2
  go_ret
  exact ⟨rfl, (by (with_reducible repeat first|exact eR _|apply eD|apply eN|apply eA|apply eO|apply eS|apply eC);all_goals first|omega|simp <;> omega)⟩
theorem reparts_any (e : Ep) (w : World) (hok : EpOk e) (hs : EpShort e) (ha : EpAt w e) :
  Calls Tryz.prog 62 #[.agg (epC e)] w fun r w' => EPOut e w.heap.size r w' ∧ Ext w w' := by
 have HI0 := lh (fun (A : Option Addr) (c : Nat) (W : World) (hr : ReadsInt W W.heap.size A [e.num, e.lo, e.hi, e.serial, (e.pu.length : Int)]) => rsints_ok A c [e.num, e.lo, e.hi, e.serial, (e.pu.length : Int)] W (by show 5 ≤ 100000; decide) hr (fun x hx => by
  have h1 := hok.ints x
  have h2 := hs.pu
  simp only [List.mem_cons, List.not_mem_nil, or_false] at hx h1
  rcases hx with rfl | rfl | rfl | rfl | rfl
  ·exact h1 (.inl rfl)
  ·exact h1 (.inr (.inl rfl))
  ·exact h1 (.inr (.inr (.inl rfl)))
  ·exact h1 (.inr (.inr (.inr rfl)))
  ·unfold i64; omega))
 have HIp := lh (fun (k : Nat) (h : k < e.pu.length) (A : Option Addr) (c : Nat) (W : World) (hr : ReadsInt W W.heap.size A [e.pu[k].kind, oneB e.pu[k].soft]) => rsints_ok A c [e.pu[k].kind, oneB e.pu[k].soft] W (by show 2 ≤ 100000; decide) hr (fun x hx => by
  have h1 := (hok.pu _ (List.getElem_mem h)).1
  simp only [List.mem_cons, List.not_mem_nil, or_false] at hx
  rcases hx with rfl | rfl
  ·exact h1
  ·unfold i64 oneB; split <;> omega))
 have HDp := lh (fun W => rdigest4_any e.prev W hok.prev.len)
 have HDr := lh (fun (k : Nat) (h : k < e.rv.length) (W : World) => rdigest4_any e.rv[k] W (hok.rv _ (List.getElem_mem h)).len)
 have HOne := lh rone_any
 have HAp := lh ha.pu
 have HAr := lh ha.rv
 have hpl := hs.pu
 have hrl := hs.rv
 have HE : Hid (epParts e = [strOfNums (encInts [e.num, e.lo, e.hi, e.serial, (e.pu.length : Int)]), strOfNums e.prev] ++ e.pu.flatMap puParts ++ e.rv.map strOfNums) := lh rfl
 have hft := ep_fits e
 have hfp : fitsRow 16 (dgC e.prev) = true := by simp [fitsRow, dgC, Value.oneCell']
 clear hok hs ha
 go_enter Tryz.func62, Tryz.ntmps62
 go_wp2
 refine wp_world (fun W => Ext w W ∧ RowAt W w.heap.size (epC e) ∧ W.heap.size = w.heap.size + 1) ⟨(by (with_reducible repeat first|exact eR _|apply eD|apply eN|apply eA|apply eO|apply eS|apply eC);all_goals first|omega|simp <;> omega), RowAt.new _ _ _, by simp⟩ ?_
 obtain ⟨B, hB⟩ : ∃ B, w.heap.size = B := ⟨_, rfl⟩
 rw [hB]
 rintro W1 ⟨x1, uB, hs1⟩
 have HX1 := lh x1
 have hlu := uB.lt
 have qB_0 : W1.cell? ⟨B, 0, none⟩ = some (.int .i64 e.num) := (uB.cell 0).trans (ep_g0 e)
 have qB_17 : W1.cell? ⟨B, 17, none⟩ = some (.int .i64 e.lo) := (uB.cell 17).trans (ep_g17 e)
 have qB_18 : W1.cell? ⟨B, 18, none⟩ = some (.int .i64 e.hi) := (uB.cell 18).trans (ep_g18 e)
 have qB_21 : W1.cell? ⟨B, 21, none⟩ = some (.int .i64 e.serial) := (uB.cell 21).trans (ep_g21 e)
 have qB_19 : W1.cell? ⟨B, 19, none⟩ = some (.slice e.PA e.pu.length e.pc) := (uB.cell 19).trans (ep_g19 e)
 have kB_1_16 : rowOf W1 B 1 16 = some (dgC e.prev) := by rw [uB.row, if_neg (by omega), ep_s1_16]
 have HQ20 : Hid (W1.cell? ⟨B, 20, none⟩ = some (.slice e.RA e.rv.length e.rc)) := lh ((uB.cell 20).trans (ep_g20 e))
 have HQ19 := lh qB_19
 clear x1 uB
 generalize e.PA = PA at *
 generalize e.RA = RA at *
 refine wp_region_soft 18 (softsL [.eq (.pointer (some ⟨B, 0, none⟩)), .eq (.int .i64 e.num), .eq (.pointer (some ⟨B, 17, none⟩)), .eq (.pointer (some ⟨B, 17, none⟩)), .eq (.int .i64 e.lo), .eq (.pointer (some ⟨B, 17, none⟩)), .eq (.pointer (some ⟨B, 18, none⟩)), .eq (.int .i64 e.hi), .eq (.pointer (some ⟨B, 21, none⟩)), .eq (.int .i64 e.serial), .eq (.pointer (some ⟨B, 19, none⟩)), .eq (.slice PA e.pu.length e.pc), .eq (.int .i64 e.pu.length), readI ([e.num, e.lo, e.hi, e.serial, (e.pu.length : Int)]), .eq (.string (strOfNums (encInts [e.num, e.lo, e.hi, e.serial, (e.pu.length : Int)]))), .eq (.pointer (some ⟨B, 1, none⟩)), .eq (.agg (dgC e.prev)), .eq (.string (strOfNums e.prev))]) (by kernel_rfl) (by kernel_rfl) (lt_cons ?_ (lt_cons ?_ (lt_cons ?_ (lt_cons ?_ (lt_cons ?_ (lt_cons ?_ (lt_cons ?_ (lt_cons ?_ (lt_cons ?_ (lt_cons ?_ (lt_cons ?_ (lt_cons ?_ (lt_cons ?_ (lt_cons ?_ (lt_cons ?_ (lt_cons ?_ (lt_cons ?_ (lt_cons ?_ (lt_none))))))))))))))))))) ?_
 any_goals (refine sop rfl fun xs W HW hsW HD Q' HQ => ?_; simp only [fillAt, dstOf, lc0, lcs, obs, Act.put, lsa, lsz, lss, nz, Nat.reduceAdd] at HQ ⊢)
 ·
  go_wp2
  exact HQ.out _ _ (eR _) rfl
 ·
  have hd0 : xs 0 = .pointer (some ⟨B, 0, none⟩) := (HD.out 0 (dk (by kernel_rfl)))
  generalize xs 0 = x0 at hd0 HQ ⊢; subst hd0
  have hc : W.cell? ⟨B, 0, none⟩ = some (.int .i64 e.num) := (HW.out.cell (p := ⟨B, 0, none⟩) (by show B < _; omega)).trans qB_0
  go_wp2
  exact HQ.out _ _ (eR _) rfl
 ·
  go_wp2
  exact HQ.out _ _ (eR _) rfl
 ·
  have hd2 : xs 2 = .pointer (some ⟨B, 17, none⟩) := (HD.out 2 (dk (by kernel_rfl)))
  generalize xs 2 = x2 at hd2 HQ ⊢; subst hd2
  go_wp2
  exact HQ.out _ _ (eR _) rfl
 ·
  have hd3 : xs 3 = .pointer (some ⟨B, 17, none⟩) := (HD.out 3 (dk (by kernel_rfl)))
  generalize xs 3 = x3 at hd3 HQ ⊢; subst hd3
  have hc : W.cell? ⟨B, 17, none⟩ = some (.int .i64 e.lo) := (HW.out.cell (p := ⟨B, 17, none⟩) (by show B < _; omega)).trans qB_17
  go_wp2
  exact HQ.out _ _ (eR _) rfl
 ·
  go_wp2
  exact HQ.out _ _ (eR _) rfl
 ·
  have hd5 : xs 5 = .pointer (some ⟨B, 17, none⟩) := (HD.out 5 (dk (by kernel_rfl)))
  generalize xs 5 = x5 at hd5 HQ ⊢; subst hd5
  go_wp2
  exact HQ.out _ _ (eR _) rfl
 ·
  have hd6 : xs 6 = .pointer (some ⟨B, 18, none⟩) := (HD.out 6 (dk (by kernel_rfl)))
  generalize xs 6 = x6 at hd6 HQ ⊢; subst hd6
  have hc : W.cell? ⟨B, 18, none⟩ = some (.int .i64 e.hi) := (HW.out.cell (p := ⟨B, 18, none⟩) (by show B < _; omega)).trans qB_18
  go_wp2
  exact HQ.out _ _ (eR _) rfl
 ·
  go_wp2
  exact HQ.out _ _ (eR _) rfl
 ·
  have hd8 : xs 8 = .pointer (some ⟨B, 21, none⟩) := (HD.out 8 (dk (by kernel_rfl)))
  generalize xs 8 = x8 at hd8 HQ ⊢; subst hd8
  have hc : W.cell? ⟨B, 21, none⟩ = some (.int .i64 e.serial) := (HW.out.cell (p := ⟨B, 21, none⟩) (by show B < _; omega)).trans qB_21
  go_wp2
  exact HQ.out _ _ (eR _) rfl
 ·
  go_wp2
  exact HQ.out _ _ (eR _) rfl
 ·
  have hd10 : xs 10 = .pointer (some ⟨B, 19, none⟩) := (HD.out 10 (dk (by kernel_rfl)))
  generalize xs 10 = x10 at hd10 HQ ⊢; subst hd10
  have hc : W.cell? ⟨B, 19, none⟩ = some (.slice PA e.pu.length e.pc) := (HW.out.cell (p := ⟨B, 19, none⟩) (by show B < _; omega)).trans qB_19
  go_wp2
  exact HQ.out _ _ (eR _) rfl
 ·
  have hd11 : xs 11 = .slice PA e.pu.length e.pc := (HD.out 11 (dk (by kernel_rfl)))
  generalize xs 11 = x11 at hd11 HQ ⊢; subst hd11
  go_wp2
  exact HQ.out _ _ (eR _) rfl
 ·
  have hd1 : xs 1 = .int .i64 e.num := (HD.out 1 (dk (by kernel_rfl)))
  generalize xs 1 = x1 at hd1 HQ ⊢; subst hd1
  have hd4 : xs 4 = .int .i64 e.lo := (HD.out 4 (dk (by kernel_rfl)))
  generalize xs 4 = x4 at hd4 HQ ⊢; subst hd4
  have hd7 : xs 7 = .int .i64 e.hi := (HD.out 7 (dk (by kernel_rfl)))
  generalize xs 7 = x7 at hd7 HQ ⊢; subst hd7
  have hd9 : xs 9 = .int .i64 e.serial := (HD.out 9 (dk (by kernel_rfl)))
  generalize xs 9 = x9 at hd9 HQ ⊢; subst hd9
  have hd12 : xs 12 = .int .i64 e.pu.length := (HD.out 12 (dk (by kernel_rfl)))
  generalize xs 12 = x12 at hd12 HQ ⊢; subst hd12
  go_wp2
  exact HQ.out _ _ ((eR _).alloc _) ⟨_, _, rfl, reads_fresh zE ([e.num, e.lo, e.hi, e.serial, (e.pu.length : Int)]) W _ _ rfl⟩
 ·
  obtain ⟨A13, c13, h13, hr13⟩ : (readI ([e.num, e.lo, e.hi, e.serial, (e.pu.length : Int)])).S (xs 13) W := (HD.out 13 (dk (by kernel_rfl)))
  generalize xs 13 = x13 at h13 HQ ⊢; subst h13
  go_wp2_with (go_at_call 118; refine (HI0.out A13 c13 _ hr13).mono ?_; rintro e w1 ⟨rfl, hx⟩)
  exact HQ.out _ _ hx rfl
 ·
  go_wp2
  exact HQ.out _ _ (eR _) rfl
 ·
  have hd15 : xs 15 = .pointer (some ⟨B, 1, none⟩) := (HD.out 15 (dk (by kernel_rfl)))
  generalize xs 15 = x15 at hd15 HQ ⊢; subst hd15
  have hc := (row_extW HW.out (b := B) (by omega) 1 16).trans kB_1_16
  go_wp2
  exact HQ.out _ _ (eR _) rfl
 ·
  have hd16 : xs 16 = .agg (dgC e.prev) := (HD.out 16 (dk (by kernel_rfl)))
  generalize xs 16 = x16 at hd16 HQ ⊢; subst hd16
  go_wp2_with (go_at_call 119; refine (HDp.out _).mono ?_; rintro e w1 ⟨rfl, hx⟩)
  exact HQ.out _ _ hx rfl
 intro xs W3 hW hS
 have h14 : xs 14 = .string (strOfNums (encInts [e.num, e.lo, e.hi, e.serial, (e.pu.length : Int)])) := hS 14 (by omega)
 have h17 : xs 17 = .string (strOfNums e.prev) := hS 17 (by omega)
 simp only [fillAt, dstOf, lc0, lcs, obs, Act.put, lsa, lsz, lss, nz, Nat.reduceAdd, List.drop_succ_cons, List.drop_zero, List.drop_nil]
 generalize xs 14 = x14 at *; subst h14
 generalize xs 17 = x17 at *; subst h17
 have HW3 := lh (HX1.out.trans hW)
 have HWW3 := lh hW
 clear hS hW qB_0 qB_17 qB_18 qB_21 qB_19 kB_1_16
 have hls3 := HWW3.out.size
 generalize strOfNums (encInts [e.num, e.lo, e.hi, e.serial, (e.pu.length : Int)]) = T0 at *
 generalize strOfNums e.prev = T1 at *
 go_upto_region 2 with (fail)
 refine wp_world (fun W => Ext W1 W ∧ OwnsStr W1.heap.size W (some ⟨W3.heap.size, 0, none⟩) 2 [T0, T1]) ⟨HWW3.out.alloc _, owns_fresh (e := 9) sE [T0, T1] W3 _ _ _ rfl hls3 rfl (by simp)⟩ ?_
 generalize W3.heap.size = g3
 rintro W4 ⟨x4, o4⟩
 have HX4 := lh x4
 have HO4 := lh o4
 have hs4 := x4.size
 clear x4 o4 HI0 HDp HW3 HWW3
 go_wp2
 go_loopw [3, 4] (fun o i wr => ∃ (A2 : Option Addr) (c2 : Nat) (out : List ByteArray) (k : Nat), o = .slice A2 out.length c2 ∧ i = .int .i64 k ∧ k ≤ e.pu.length ∧ out.length ≤ 2 + 2 * k ∧ Hid (out = [T0, T1] ++ (e.pu.take k).flatMap puParts) ∧ Hid (OwnsStr W1.heap.size wr A2 c2 out) ∧ Hid (Ext W1 wr)) (fun _ i _ => e.pu.length - (intOf i).toNat)
 case atStart => exact ⟨_, 2, [T0, T1], 0, rfl, rfl, Nat.zero_le _, Nat.le_refl _, lh (by simp), HO4, HX4⟩
 case round =>
  obtain ⟨A2, c2, out, k, rfl, rfl, hk, hol, HOu, HOw, HX⟩ := hrel
  have hsz := HX.out.size
  have qB_19 : wr.cell? ⟨B, 19, none⟩ = some (.slice PA e.pu.length e.pc) := (HX.out.cell (p := ⟨B, 19, none⟩) hlu).trans HQ19.out
  have hlw : B < wr.heap.size := by omega
  by_cases hlt : k < e.pu.length
  ·obtain ⟨b, off, rfl, hb, hrow⟩ := reads_row puE (HAp.out.ext (HX1.out.trans HX.out) (Nat.le_refl _)) k hlt
   have hb2 : b < wr.heap.size := by omega
   have HI1 := lh (HIp.out k hlt)
   have HN := lh (flat_snoc puParts e.pu k hlt)
   have q0 : wr.cell? ⟨b, off+k*3, none⟩ = some (.int .i64 e.pu[k].kind) := (rowOf_cell hrow (i := 0) (by omega)).trans (pu_g0 _)
   have q1 : wr.cell? ⟨b, off+k*3+1, none⟩ = some (.string e.pu[k].what) := (rowOf_cell hrow (i := 1) (by omega)).trans (pu_g1 _)
   have q2 : wr.cell? ⟨b, off+k*3+2, none⟩ = some (.bool e.pu[k].soft) := (rowOf_cell hrow (i := 2) (by omega)).trans (pu_g2 _)
   clear HIp hrow
   have HPP : Hid (puParts e.pu[k] = [strOfNums (encInts [e.pu[k].kind, oneB e.pu[k].soft]), e.pu[k].what]) := lh rfl
   generalize e.pu[k] = p at *
   go_upto_region 5 with (fail)
   refine wp_region_soft 23 (softsL [.eq (.slice A2 out.length c2), .eq (.pointer (some ⟨B, 19, none⟩)), .eq (.slice (some ⟨b, off, none⟩) e.pu.length e.pc), .eq (.int .i64 k), .eq (.pointer (some ⟨b, off+k*3, none⟩)), .eq (.pointer (some ⟨b, off+k*3, none⟩)), .eq (.int .i64 p.kind), .eq (.pointer (some ⟨B, 19, none⟩)), .eq (.slice (some ⟨b, off, none⟩) e.pu.length e.pc), .eq (.int .i64 k), .eq (.pointer (some ⟨b, off+k*3, none⟩)), .eq (.pointer (some ⟨b, off+k*3+2, none⟩)), .eq (.bool p.soft), .eq (.int .i64 (oneB p.soft)), readI ([p.kind, oneB p.soft]), .eq (.string (strOfNums (encInts [p.kind, oneB p.soft]))), .eq (.pointer (some ⟨B, 19, none⟩)), .eq (.slice (some ⟨b, off, none⟩) e.pu.length e.pc), .eq (.int .i64 k), .eq (.pointer (some ⟨b, off+k*3, none⟩)), .eq (.pointer (some ⟨b, off+k*3+1, none⟩)), .eq (.string p.what), readS ([strOfNums (encInts [p.kind, oneB p.soft]), p.what])]) (by kernel_rfl) (by kernel_rfl) (lt_cons ?_ (lt_cons ?_ (lt_cons ?_ (lt_cons ?_ (lt_cons ?_ (lt_cons ?_ (lt_cons ?_ (lt_cons ?_ (lt_cons ?_ (lt_cons ?_ (lt_cons ?_ (lt_cons ?_ (lt_cons ?_ (lt_cons ?_ (lt_cons ?_ (lt_cons ?_ (lt_cons ?_ (lt_cons ?_ (lt_cons ?_ (lt_cons ?_ (lt_cons ?_ (lt_cons ?_ (lt_cons ?_ (lt_none)))))))))))))))))))))))) ?_
   any_goals (refine sop rfl fun xs W HW hsW HD Q' HQ => ?_; simp only [fillAt, dstOf, lc0, lcs, obs, Act.put, lsa, lsz, lss, nz, Nat.reduceAdd] at HQ ⊢)
   ·
    go_wp2
    exact HQ.out _ _ (eR _) rfl
   ·
    go_wp2
    exact HQ.out _ _ (eR _) rfl
   ·
    have hd1 : xs 1 = .pointer (some ⟨B, 19, none⟩) := (HD.out 1 (dk (by kernel_rfl)))
    generalize xs 1 = x1 at hd1 HQ ⊢; subst hd1
    have hc : W.cell? ⟨B, 19, none⟩ = some (.slice (some ⟨b, off, none⟩) e.pu.length e.pc) := (HW.out.cell (p := ⟨B, 19, none⟩) (by show B < _; omega)).trans qB_19
    go_wp2
    exact HQ.out _ _ (eR _) rfl
   ·
    go_wp2
    exact HQ.out _ _ (eR _) rfl
   ·
    have hd2 : xs 2 = .slice (some ⟨b, off, none⟩) e.pu.length e.pc := (HD.out 2 (dk (by kernel_rfl)))
    generalize xs 2 = x2 at hd2 HQ ⊢; subst hd2
    have hd3 : xs 3 = .int .i64 k := (HD.out 3 (dk (by kernel_rfl)))
    generalize xs 3 = x3 at hd3 HQ ⊢; subst hd3
    go_wp2
    exact HQ.out _ _ (eR _) rfl
   ·
    have hd4 : xs 4 = .pointer (some ⟨b, off+k*3, none⟩) := (HD.out 4 (dk (by kernel_rfl)))
    generalize xs 4 = x4 at hd4 HQ ⊢; subst hd4
    go_wp2
    exact HQ.out _ _ (eR _) rfl
   ·
    have hd5 : xs 5 = .pointer (some ⟨b, off+k*3, none⟩) := (HD.out 5 (dk (by kernel_rfl)))
    generalize xs 5 = x5 at hd5 HQ ⊢; subst hd5
    have hc : W.cell? ⟨b, off+k*3, none⟩ = some (.int .i64 p.kind) := (HW.out.cell (p := ⟨b, off+k*3, none⟩) (by show b < _; omega)).trans q0
    go_wp2
    exact HQ.out _ _ (eR _) rfl
   ·
    go_wp2
    exact HQ.out _ _ (eR _) rfl
   ·
    have hd7 : xs 7 = .pointer (some ⟨B, 19, none⟩) := (HD.out 7 (dk (by kernel_rfl)))
    generalize xs 7 = x7 at hd7 HQ ⊢; subst hd7
    have hc : W.cell? ⟨B, 19, none⟩ = some (.slice (some ⟨b, off, none⟩) e.pu.length e.pc) := (HW.out.cell (p := ⟨B, 19, none⟩) (by show B < _; omega)).trans qB_19
    go_wp2
    exact HQ.out _ _ (eR _) rfl
   ·
    go_wp2
    exact HQ.out _ _ (eR _) rfl
   ·
    have hd8 : xs 8 = .slice (some ⟨b, off, none⟩) e.pu.length e.pc := (HD.out 8 (dk (by kernel_rfl)))
    generalize xs 8 = x8 at hd8 HQ ⊢; subst hd8
    have hd9 : xs 9 = .int .i64 k := (HD.out 9 (dk (by kernel_rfl)))
    generalize xs 9 = x9 at hd9 HQ ⊢; subst hd9
    go_wp2
    exact HQ.out _ _ (eR _) rfl
   ·
    have hd10 : xs 10 = .pointer (some ⟨b, off+k*3, none⟩) := (HD.out 10 (dk (by kernel_rfl)))
    generalize xs 10 = x10 at hd10 HQ ⊢; subst hd10
    go_wp2
    exact HQ.out _ _ (eR _) rfl
   ·
    have hd11 : xs 11 = .pointer (some ⟨b, off+k*3+2, none⟩) := (HD.out 11 (dk (by kernel_rfl)))
    generalize xs 11 = x11 at hd11 HQ ⊢; subst hd11
    have hc : W.cell? ⟨b, off+k*3+2, none⟩ = some (.bool p.soft) := (HW.out.cell (p := ⟨b, off+k*3+2, none⟩) (by show b < _; omega)).trans q2
    go_wp2
    exact HQ.out _ _ (eR _) rfl
   ·
    have hd12 : xs 12 = .bool p.soft := (HD.out 12 (dk (by kernel_rfl)))
    generalize xs 12 = x12 at hd12 HQ ⊢; subst hd12
    go_wp2_with (go_at_call 120; refine (HOne.out _ _).mono ?_; rintro e w1 ⟨rfl, hx⟩)
    exact HQ.out _ _ hx rfl
   ·
    have hd6 : xs 6 = .int .i64 p.kind := (HD.out 6 (dk (by kernel_rfl)))
    generalize xs 6 = x6 at hd6 HQ ⊢; subst hd6
    have hd13 : xs 13 = .int .i64 (oneB p.soft) := (HD.out 13 (dk (by kernel_rfl)))
    generalize xs 13 = x13 at hd13 HQ ⊢; subst hd13
    go_wp2
    exact HQ.out _ _ ((eR _).alloc _) ⟨_, _, rfl, reads_fresh zE ([p.kind, oneB p.soft]) W _ _ rfl⟩
   ·
    obtain ⟨A14, c14, h14, hr14⟩ : (readI ([p.kind, oneB p.soft])).S (xs 14) W := (HD.out 14 (dk (by kernel_rfl)))
    generalize xs 14 = x14 at h14 HQ ⊢; subst h14
    go_wp2_with (go_at_call 118; refine (HI1.out A14 c14 _ hr14).mono ?_; rintro e w1 ⟨rfl, hx⟩)
    exact HQ.out _ _ hx rfl
   ·
    go_wp2
    exact HQ.out _ _ (eR _) rfl
   ·
    have hd16 : xs 16 = .pointer (some ⟨B, 19, none⟩) := (HD.out 16 (dk (by kernel_rfl)))
    generalize xs 16 = x16 at hd16 HQ ⊢; subst hd16
    have hc : W.cell? ⟨B, 19, none⟩ = some (.slice (some ⟨b, off, none⟩) e.pu.length e.pc) := (HW.out.cell (p := ⟨B, 19, none⟩) (by show B < _; omega)).trans qB_19
    go_wp2
    exact HQ.out _ _ (eR _) rfl
   ·
    go_wp2
    exact HQ.out _ _ (eR _) rfl
   ·
    have hd17 : xs 17 = .slice (some ⟨b, off, none⟩) e.pu.length e.pc := (HD.out 17 (dk (by kernel_rfl)))
    generalize xs 17 = x17 at hd17 HQ ⊢; subst hd17
    have hd18 : xs 18 = .int .i64 k := (HD.out 18 (dk (by kernel_rfl)))
    generalize xs 18 = x18 at hd18 HQ ⊢; subst hd18
    go_wp2
    exact HQ.out _ _ (eR _) rfl
   ·
    have hd19 : xs 19 = .pointer (some ⟨b, off+k*3, none⟩) := (HD.out 19 (dk (by kernel_rfl)))
    generalize xs 19 = x19 at hd19 HQ ⊢; subst hd19
    go_wp2
    exact HQ.out _ _ (eR _) rfl
   ·
    have hd20 : xs 20 = .pointer (some ⟨b, off+k*3+1, none⟩) := (HD.out 20 (dk (by kernel_rfl)))
    generalize xs 20 = x20 at hd20 HQ ⊢; subst hd20
    have hc : W.cell? ⟨b, off+k*3+1, none⟩ = some (.string p.what) := (HW.out.cell (p := ⟨b, off+k*3+1, none⟩) (by show b < _; omega)).trans q1
    go_wp2
    exact HQ.out _ _ (eR _) rfl
   ·
    have hd15 : xs 15 = .string (strOfNums (encInts [p.kind, oneB p.soft])) := (HD.out 15 (dk (by kernel_rfl)))
    generalize xs 15 = x15 at hd15 HQ ⊢; subst hd15
    have hd21 : xs 21 = .string p.what := (HD.out 21 (dk (by kernel_rfl)))
    generalize xs 21 = x21 at hd21 HQ ⊢; subst hd21
    go_wp2
    exact HQ.out _ _ ((eR _).alloc _) ⟨_, _, rfl, reads_fresh sE ([strOfNums (encInts [p.kind, oneB p.soft]), p.what]) W _ _ rfl, fun h => (by cases h)⟩
   intro xs W6 hW hS
   have h0 : xs 0 = .slice A2 out.length c2 := hS 0 (by omega)
   obtain ⟨A22, c22, h22, hr22, hz22⟩ : (readS ([strOfNums (encInts [p.kind, oneB p.soft]), p.what])).S (xs 22) W6 := hS 22 (by omega)
   simp only [fillAt, dstOf, lc0, lcs, obs, Act.put, lsa, lsz, lss, nz, Nat.reduceAdd, List.drop_succ_cons, List.drop_zero, List.drop_nil]
   generalize xs 0 = x0 at *; subst h0
   generalize xs 22 = x22 at *; subst h22
   have HW6 := lh (HX.out.trans hW)
   have HWW6 := lh hW
   clear hS hW q0 q1 q2 qB_19
   generalize strOfNums (encInts [p.kind, oneB p.soft]) = T2 at *
   generalize p.what = T3 at *
   have hs6 := HWW6.out.size
   go_wp2_with (at_builtin; refine app_reads strT sE rfl _ _ rfl W1.heap.size _ _ out rfl (HOw.out.ext (by (with_reducible repeat first|exact HWW6.out|exact eR _|apply eD|apply eN|apply eA|apply eO|apply eS|apply eC);all_goals first|omega|simp <;> omega)) W6.heap.size _ _ [T2, T3] rfl hr22 hz22 (by first | omega | (simp; omega)) (by first | omega | (simp; omega)) (by first | omega | (simp; omega)) ?_; intro A7 c7 l7 w7 HL HO5 hB hl1 hl2 _; have HO5' := lh HO5; have HB5 := lh hB; clear HO5 hB)
   go_roundw
   case rel => exact ⟨A7, c7, l7, k + 1, rfl, by go_num, by omega, by (try simp at hl1 hl2); omega, lh (by rw [HL.out, HN.out, HOu.out, HPP.out, List.append_assoc]), HO5', lh (HW6.out.grown HB5.out (Nat.le_refl _))⟩
   case measure => simp [intOf]; omega
  ·have e1 : k = e.pu.length := by omega
   subst e1
   have HOu' : Hid (out = [T0, T1] ++ e.pu.flatMap puParts) := lh (by rw [HOu.out, List.take_of_length_le (Nat.le_refl _)])
   clear HIp HQ19 HOu hs4
   go_wp2
   generalize hPre : [T0, T1] ++ e.pu.flatMap puParts = pre at *
   have hol2 : out.length ≤ 22 := by omega
   clear hPre hol HO4
   go_loopw [3, 5] (fun o i wv => ∃ (A3 : Option Addr) (c3 : Nat) (ou : List ByteArray) (k : Nat), o = .slice A3 ou.length c3 ∧ i = .int .i64 k ∧ k ≤ e.rv.length ∧ ou.length ≤ 22 + k ∧ Hid (ou = pre ++ (e.rv.take k).map strOfNums) ∧ Hid (OwnsStr W1.heap.size wv A3 c3 ou) ∧ Hid (Ext W1 wv)) (fun _ i _ => e.rv.length - (intOf i).toNat)
   case atStart => exact ⟨A2, c2, out, 0, rfl, rfl, Nat.zero_le _, by omega, lh (by rw [HOu'.out]; simp), HOw, HX⟩
   case round =>
    clear HOu' HOw HX hol2 hlw hsz qB_19
    obtain ⟨A3, c3, ou, k, rfl, rfl, hk, hol, HOu, HOw, HX⟩ := hrel
    have hsz := HX.out.size
    have qB_20 : wr.cell? ⟨B, 20, none⟩ = some (.slice RA e.rv.length e.rc) := (HX.out.cell (p := ⟨B, 20, none⟩) hlu).trans HQ20.out
    have hlw : B < wr.heap.size := by omega
    by_cases hlt : k < e.rv.length
    ·obtain ⟨b, off, rfl, hb, hrow⟩ := reads_row dgE (HAr.out.ext (HX1.out.trans HX.out) (Nat.le_refl _)) k hlt
     have hb2 : b < wr.heap.size := by omega
     have HN := lh (map_snoc strOfNums e.rv k hlt)
     have HD1 := lh (HDr.out k hlt)
     change rowOf wr b (off + k * 16) 16 = some (dgC e.rv[k]) at hrow
     clear HDr
     generalize e.rv[k] = d at *
     have hfd : fitsRow 16 (dgC d) = true := by simp [fitsRow, dgC, Value.oneCell']
     go_wp2_with (first
      | (go_at_call 119; refine (HD1.out _).mono ?_; rintro e w' ⟨rfl, hxl⟩; obtain ⟨xl, rfl⟩ := hxl.asLater; clear hxl)
      | (at_builtin; refine app_from strT sE rfl _ _ rfl W1.heap.size _ _ ou rfl (HOw.out.ext (by (with_reducible repeat first|exact eR _|apply eD|apply eN|apply eA|apply eO|apply eS|apply eC);all_goals first|omega|simp <;> omega)) _ 1 _ [strOfNums d] rfl rfl (new_cellsAt (by simp [later_size]) _ _) (by omega) (by omega) (by simp [later_size]; omega) ?_; intro A4 c4 l4 w4 HL HO5 hB hl1 hl2 _; have HO5' := lh HO5; have HB5 := lh hB; clear HO5 hB))
     go_roundw
     case rel => exact ⟨A4, c4, l4, k + 1, rfl, by go_num, by omega, by omega, lh (by rw [HL.out, HN.out, HOu.out, List.append_assoc]), HO5', lh (Ext.grown (by (with_reducible repeat first|exact HX.out|exact eR _|apply eD|apply eN|apply eA|apply eO|apply eS|apply eC);all_goals first|omega|simp <;> omega) HB5.out (Nat.le_refl _))⟩
     case measure => simp [intOf]; omega
    ·have e1 : k = e.rv.length := by omega
     subst e1
     have HOf : Hid (ou = epParts e) := lh (by rw [HOu.out, List.take_of_length_le (Nat.le_refl _), HE.out])
     go_wp2
     go_ret
     exact ⟨⟨A3, c3, ou, rfl, HOf, HOw.out.lower (by omega)⟩, HX1.out.trans HX.out⟩
def ownS (base : Nat) (ls : List ByteArray) : Soft := ⟨fun v w => ∃ A c, v = .slice A ls.length c ∧ OwnsStr base w A c ls, fun v w w' ⟨A, c, h1, h2⟩ hx => ⟨A, c, h1, h2.ext hx⟩⟩
theorem ename_any (e : Ep) (w : World) (hok : EpOk e) (hs : EpShort e) (ha : EpAt w e) (hk : KonstP w) :
  Calls Tryz.prog 15 #[.agg (epC e)] w fun r w' => r = .returned (.agg (dgC (epName e))) ∧ Ext w w' := by
 have hln := epName_lens hok hs
 have h16 := epName_len e
 have HD0 : Hid (epName e = Wire.digest 31 ((epParts e ++ [strOfNums e.sl]).map bts)) := lh rfl
 have HP0 := fun (W : World) (hx : Ext w W) => eparts_any e W hok hs (ha.on hx)
 unfold EPOut at HP0
 generalize epName e = D at *
 generalize epParts e = L at *
 have hLl : L.length ≤ 20000 := by
  have := lens_length (L ++ [strOfNums e.sl])
  rw [List.length_append] at this
  omega
 have HP : Hid (∀ W, Ext w W → Calls Tryz.prog 60 #[.agg (epC e)] W fun r w' => ∃ A c, r = .returned (.slice A L.length c) ∧ OwnsStr W.heap.size w' A c L ∧ Ext W w') := lh (fun W hx => (HP0 W hx).mono (fun r w' h => by
  obtain ⟨⟨A, c, l', h1, h2, h3⟩, h4⟩ := h
  obtain rfl := h2.out
  exact ⟨A, c, h1, h3, h4⟩))
 have HOf : Hid (∀ (A : Option Addr) (c : Nat) (l : List ByteArray) (W : World), l = L ++ [strOfNums e.sl] → KonstP W → ReadsStr W W.heap.size A l → Calls Tryz.prog 59 #[.int .i64 31, .slice A l.length c] W fun r w' => r = .returned (.agg (dgC D)) ∧ Ext W w') := lh (fun A c l W he h1 h2 => by
  subst he
  have h := of_ok 31 A c _ W h1 h2 (by omega)
  rw [← HD0.out, ← dgC_cells h16] at h
  exact h)
 have H16 := lh hok.sl.len
 have HK := lh hk
 have hft := ep_fits e
 have hfd : fitsRow 16 (dgC D) = true := by simp [fitsRow, dgC, Value.oneCell']
 have hfs : fitsRow 16 (dgC e.sl) = true := by simp [fitsRow, dgC, Value.oneCell']
 clear HP0 hok hs ha hk HD0 hln h16
 go_enter Tryz.func15, Tryz.ntmps15
 go_upto_region 1 with (fail)
 refine wp_world (fun W => Ext w W ∧ W.heap.size = w.heap.size + 2 ∧ RowAt W w.heap.size (epC e) ∧ RowAt W (w.heap.size + 1) (cells8 (zeros32 16))) ⟨(by (with_reducible repeat first|exact eR _|apply eD|apply eN|apply eA|apply eO|apply eS|apply eC);all_goals first|omega|simp <;> omega), by simp, (RowAt.new _ _ _).alloc _, RowAt.newAt (by simp)⟩ ?_
 obtain ⟨B, hB⟩ : ∃ B, w.heap.size = B := ⟨_, rfl⟩
 rw [hB]
 rintro W1 ⟨x1, hs1, uB, u2⟩
 have HX1 := lh x1
 have HRs := lh u2
 have hlu := uB.lt
 have kB_0_38 : rowOf W1 B 0 38 = some (epC e) := uB.all rfl (by omega)
 have kB_22_16 : rowOf W1 B 22 16 = some (dgC e.sl) := by rw [uB.row, if_neg (by omega), ep_s22_16]
 have rdB_22 := lh (arr_reads kB_22_16 H16.out hlu)
 clear x1 uB u2
 refine wp_region_soft 6 (softsL [.eq (.agg (epC e)), ownS W1.heap.size L, .eq (.pointer (some ⟨B, 22, none⟩)), .eq (.slice (some ⟨B, 22, none⟩) 16 16), .eq (.string (strOfNums e.sl)), readS ([strOfNums e.sl])]) (by kernel_rfl) (by kernel_rfl) (lt_cons ?_ (lt_cons ?_ (lt_cons ?_ (lt_cons ?_ (lt_cons ?_ (lt_cons ?_ (lt_none))))))) ?_
 any_goals (refine sop rfl fun xs W HW hsW HD Q' HQ => ?_; simp only [fillAt, dstOf, lc0, lcs, obs, Act.put, lsa, lsz, lss, nz, Nat.reduceAdd] at HQ ⊢)
 ·
  have hc := (row_extW HW.out (b := B) (by omega) 0 38).trans kB_0_38
  go_wp2
  exact HQ.out _ _ (eR _) rfl
 ·
  have hd0 : xs 0 = .agg (epC e) := (HD.out 0 (dk (by kernel_rfl)))
  generalize xs 0 = x0 at hd0 HQ ⊢; subst hd0
  go_wp2_with (go_at_call 60; refine (HP.out _ (HX1.out.trans HW.out)).mono ?_; rintro e w1 ⟨A, c, rfl, ho, hx⟩)
  exact HQ.out _ _ hx ⟨A, c, rfl, ho.lower hsW⟩
 ·
  go_wp2
  exact HQ.out _ _ (eR _) rfl
 ·
  have hd2 : xs 2 = .pointer (some ⟨B, 22, none⟩) := (HD.out 2 (dk (by kernel_rfl)))
  generalize xs 2 = x2 at hd2 HQ ⊢; subst hd2
  go_wp2
  exact HQ.out _ _ (eR _) rfl
 ·
  have hd3 : xs 3 = .slice (some ⟨B, 22, none⟩) 16 16 := (HD.out 3 (dk (by kernel_rfl)))
  generalize xs 3 = x3 at hd3 HQ ⊢; subst hd3
  have hcv := conv_bytes 16 (rdB_22.out.on HW.out) (by rw [H16.out]; omega)
  rw [H16.out] at hcv
  go_wp2
  exact HQ.out _ _ (eR _) rfl
 ·
  have hd4 : xs 4 = .string (strOfNums e.sl) := (HD.out 4 (dk (by kernel_rfl)))
  generalize xs 4 = x4 at hd4 HQ ⊢; subst hd4
  go_wp2
  exact HQ.out _ _ ((eR _).alloc _) ⟨_, _, rfl, reads_fresh sE ([strOfNums e.sl]) W _ _ rfl, fun h => (by cases h)⟩
 intro xs W3 hW hS
 have h1 : (ownS W1.heap.size L).S (xs 1) W3 := hS 1 (by omega)
 obtain ⟨A5, c5, h5, hr5, hz5⟩ : (readS ([strOfNums e.sl])).S (xs 5) W3 := hS 5 (by omega)
 simp only [fillAt, dstOf, lc0, lcs, obs, Act.put, lsa, lsz, lss, nz, Nat.reduceAdd, List.drop_succ_cons, List.drop_zero, List.drop_nil]
 generalize xs 5 = x5 at *; subst h5
 have HW3 := lh (HX1.out.trans hW)
 have HWW3 := lh hW
 clear hS hW kB_0_38 kB_22_16
 obtain ⟨A1, c1, hx1, ho1⟩ := h1
 generalize xs 1 = x1 at *
 subst hx1
 have HOn := lh ho1
 have hs3 := HWW3.out.size
 have HRs3 := lh (HRs.out.ext HWW3.out)
 clear ho1 HRs HP
 go_wp2_with (at_builtin; refine (show Hid _ from ?_).out)
 refine lh ?_
 refine app_reads strT sE rfl _ _ rfl W1.heap.size _ _ L rfl HOn.out W3.heap.size _ _ [strOfNums e.sl] rfl hr5 hz5 (by simp; omega) (by simp; omega) hs3 ?_
 intro A2 c2 l2 w2 HL2 hO9 hB9 hl1 hl2 _
 have HO2 := lh hO9
 have HX2 : Hid (Ext w w2) := lh (HW3.out.grown hB9 (by omega))
 have HRs2 : Hid (RowAt w2 (B + 1) (cells8 (zeros32 16))) := lh (HRs3.out.below hB9 (by omega))
 have hm2 : roomOf w2 (B + 1) 0 16 = true := by rw [HRs2.out.room]; rfl
 have hlr := HRs2.out.lt
 clear hO9 hB9 hl1 hl2
 go_wp2_with (go_at_call 59; refine (HOf.out _ _ l2 _ HL2.out (RowAt.ext HK.out HX2.out) (HO2.out.reads sE)).mono ?_; rintro e w' ⟨rfl, hxl⟩; obtain ⟨xo, rfl⟩ := hxl.asLater; clear hxl)
 exact post_row dig_ty Tryz.results15 rfl rfl (RowAt.stored (n := 16) (ds := dgC D) (HRs2.out.later _) (by rw [cells8_size]; rfl) rfl (by omega)) ⟨rfl, (by (with_reducible repeat first|exact HX2.out|exact eR _|apply eD|apply eN|apply eA|apply eO|apply eS|apply eC);all_goals first|omega|simp <;> omega)⟩
theorem rename_any (e : Ep) (w : World) (hok : EpOk e) (hs : EpShort e) (ha : EpAt w e) (hk : RKonst w) :
  Calls Tryz.prog 16 #[.agg (epC e)] w fun r w' => r = .returned (.agg (dgC (epName e))) ∧ Ext w w' := by
 have hln := epName_lens hok hs
 have h16 := epName_len e
 have HD0 : Hid (epName e = Wire.digest 31 ((epParts e ++ [strOfNums e.sl]).map bts)) := lh rfl
 have HP0 := fun (W : World) (hx : Ext w W) => reparts_any e W hok hs (ha.on hx)
 unfold EPOut at HP0
 generalize epName e = D at *
 generalize epParts e = L at *
 have hLl : L.length ≤ 20000 := by
  have := lens_length (L ++ [strOfNums e.sl])
  rw [List.length_append] at this
  omega
 have HP : Hid (∀ W, Ext w W → Calls Tryz.prog 62 #[.agg (epC e)] W fun r w' => ∃ A c, r = .returned (.slice A L.length c) ∧ OwnsStr W.heap.size w' A c L ∧ Ext W w') := lh (fun W hx => (HP0 W hx).mono (fun r w' h => by
  obtain ⟨⟨A, c, l', h1, h2, h3⟩, h4⟩ := h
  obtain rfl := h2.out
  exact ⟨A, c, h1, h3, h4⟩))
 have HOf : Hid (∀ (A : Option Addr) (c : Nat) (l : List ByteArray) (W : World), l = L ++ [strOfNums e.sl] → RKonst W → ReadsStr W W.heap.size A l → Calls Tryz.prog 61 #[.int .i64 31, .slice A l.length c] W fun r w' => r = .returned (.agg (dgC D)) ∧ Ext W w') := lh (fun A c l W he h1 h2 => by
  subst he
  have h := rof_ok 31 A c _ W h1 h2 (by omega)
  rw [← HD0.out, ← dgC_cells h16] at h
  exact h)
 have H16 := lh hok.sl.len
 have HK := lh hk
 have hft := ep_fits e
 have hfd : fitsRow 16 (dgC D) = true := by simp [fitsRow, dgC, Value.oneCell']
 have hfs : fitsRow 16 (dgC e.sl) = true := by simp [fitsRow, dgC, Value.oneCell']
 clear HP0 hok hs ha hk HD0 hln h16
 go_enter Tryz.func16, Tryz.ntmps16
 go_upto_region 1 with (fail)
 refine wp_world (fun W => Ext w W ∧ W.heap.size = w.heap.size + 2 ∧ RowAt W w.heap.size (epC e) ∧ RowAt W (w.heap.size + 1) (cells8 (zeros32 16))) ⟨(by (with_reducible repeat first|exact eR _|apply eD|apply eN|apply eA|apply eO|apply eS|apply eC);all_goals first|omega|simp <;> omega), by simp, (RowAt.new _ _ _).alloc _, RowAt.newAt (by simp)⟩ ?_
 obtain ⟨B, hB⟩ : ∃ B, w.heap.size = B := ⟨_, rfl⟩
 rw [hB]
 rintro W1 ⟨x1, hs1, uB, u2⟩
 have HX1 := lh x1
 have HRs := lh u2
 have hlu := uB.lt
 have kB_0_38 : rowOf W1 B 0 38 = some (epC e) := uB.all rfl (by omega)
 have kB_22_16 : rowOf W1 B 22 16 = some (dgC e.sl) := by rw [uB.row, if_neg (by omega), ep_s22_16]
 have rdB_22 := lh (arr_reads kB_22_16 H16.out hlu)
 clear x1 uB u2
 have HTx := lh (fun W => rtext16_any e.sl W H16.out)
 refine wp_region_soft 6 (softsL [.eq (.agg (epC e)), ownS W1.heap.size L, .eq (.pointer (some ⟨B, 22, none⟩)), .eq (.agg (dgC e.sl)), .eq (.string (strOfNums e.sl)), readS ([strOfNums e.sl])]) (by kernel_rfl) (by kernel_rfl) (lt_cons ?_ (lt_cons ?_ (lt_cons ?_ (lt_cons ?_ (lt_cons ?_ (lt_cons ?_ (lt_none))))))) ?_
 any_goals (refine sop rfl fun xs W HW hsW HD Q' HQ => ?_; simp only [fillAt, dstOf, lc0, lcs, obs, Act.put, lsa, lsz, lss, nz, Nat.reduceAdd] at HQ ⊢)
 ·
  have hc := (row_extW HW.out (b := B) (by omega) 0 38).trans kB_0_38
  go_wp2
  exact HQ.out _ _ (eR _) rfl
 ·
  have hd0 : xs 0 = .agg (epC e) := (HD.out 0 (dk (by kernel_rfl)))
  generalize xs 0 = x0 at hd0 HQ ⊢; subst hd0
  go_wp2_with (go_at_call 62; refine (HP.out _ (HX1.out.trans HW.out)).mono ?_; rintro e w1 ⟨A, c, rfl, ho, hx⟩)
  exact HQ.out _ _ hx ⟨A, c, rfl, ho.lower hsW⟩
 ·
  go_wp2
  exact HQ.out _ _ (eR _) rfl
 ·
  have hd2 : xs 2 = .pointer (some ⟨B, 22, none⟩) := (HD.out 2 (dk (by kernel_rfl)))
  generalize xs 2 = x2 at hd2 HQ ⊢; subst hd2
  have hc := (row_extW HW.out (b := B) (by omega) 22 16).trans kB_22_16
  go_wp2
  exact HQ.out _ _ (eR _) rfl
 ·
  have hd3 : xs 3 = .agg (dgC e.sl) := (HD.out 3 (dk (by kernel_rfl)))
  generalize xs 3 = x3 at hd3 HQ ⊢; subst hd3
  go_wp2_with (go_at_call 63; refine (HTx.out _).mono ?_; rintro e w1 ⟨rfl, hx⟩)
  exact HQ.out _ _ hx rfl
 ·
  have hd4 : xs 4 = .string (strOfNums e.sl) := (HD.out 4 (dk (by kernel_rfl)))
  generalize xs 4 = x4 at hd4 HQ ⊢; subst hd4
  go_wp2
  exact HQ.out _ _ ((eR _).alloc _) ⟨_, _, rfl, reads_fresh sE ([strOfNums e.sl]) W _ _ rfl, fun h => (by cases h)⟩
 intro xs W3 hW hS
 have h1 : (ownS W1.heap.size L).S (xs 1) W3 := hS 1 (by omega)
 obtain ⟨A5, c5, h5, hr5, hz5⟩ : (readS ([strOfNums e.sl])).S (xs 5) W3 := hS 5 (by omega)
 simp only [fillAt, dstOf, lc0, lcs, obs, Act.put, lsa, lsz, lss, nz, Nat.reduceAdd, List.drop_succ_cons, List.drop_zero, List.drop_nil]
 generalize xs 5 = x5 at *; subst h5
 have HW3 := lh (HX1.out.trans hW)
 have HWW3 := lh hW
 clear hS hW kB_0_38 kB_22_16
 obtain ⟨A1, c1, hx1, ho1⟩ := h1
 generalize xs 1 = x1 at *
 subst hx1
 have HOn := lh ho1
 have hs3 := HWW3.out.size
 have HRs3 := lh (HRs.out.ext HWW3.out)
 clear ho1 HRs HP
 go_wp2_with (at_builtin; refine (show Hid _ from ?_).out)
 refine lh ?_
 refine app_reads strT sE rfl _ _ rfl W1.heap.size _ _ L rfl HOn.out W3.heap.size _ _ [strOfNums e.sl] rfl hr5 hz5 (by simp; omega) (by simp; omega) hs3 ?_
 intro A2 c2 l2 w2 HL2 hO9 hB9 hl1 hl2 _
 have HO2 := lh hO9
 have HX2 : Hid (Ext w w2) := lh (HW3.out.grown hB9 (by omega))
 have HRs2 : Hid (RowAt w2 (B + 1) (cells8 (zeros32 16))) := lh (HRs3.out.below hB9 (by omega))
 have hm2 : roomOf w2 (B + 1) 0 16 = true := by rw [HRs2.out.room]; rfl
 have hlr := HRs2.out.lt
 clear hO9 hB9 hl1 hl2
 go_wp2_with (go_at_call 61; refine (HOf.out _ _ l2 _ HL2.out (RowAt.ext HK.out HX2.out) (HO2.out.reads sE)).mono ?_; rintro e w' ⟨rfl, hxl⟩; obtain ⟨xo, rfl⟩ := hxl.asLater; clear hxl)
 exact post_row dig_ty Tryz.results16 rfl rfl (RowAt.stored (n := 16) (ds := dgC D) (HRs2.out.later _) (by rw [cells8_size]; rfl) rfl (by omega)) ⟨rfl, (by (with_reducible repeat first|exact HX2.out|exact eR _|apply eD|apply eN|apply eA|apply eO|apply eS|apply eC);all_goals first|omega|simp <;> omega)⟩
end Go.Proofs.YtpojnhikgjcgmaaGreatDoor

namespace Go.Proofs.YtpojnhikgjcgmaaGreatDoor
open Go.RowKit Go.Shelf Go.Maps
open Go.Proofs
structure ChAt (w : World) (A : Option Addr) (l : List Ep) : Prop where
 rd : Reads 38 epL w w.heap.size A l
 ok : ∀ e ∈ l, EpOk e ∧ EpShort e ∧ EpAt w e
theorem ChAt.on {w w' : World} {A : Option Addr} {l : List Ep} (h : ChAt w A l) (hx : Ext w w') : ChAt w' A l := ⟨h.rd.on hx, fun e he => ⟨(h.ok e he).1, (h.ok e he).2.1, (h.ok e he).2.2.on hx⟩⟩
theorem key_pu {e : Ep} (hok : EpOk e) (hs : EpShort e) : KeyPu e := fun p hp => ⟨wf_i64 (hok.pu p hp).1, by have := hs.what p hp; show p.what.size ≤ maxLen; unfold maxLen; omega⟩
theorem dk_of {d : List Int} (h : DgOk d) : dkOk d := ⟨h.len, fun x hx => by
 have := h.byt x hx
 simp [Lit.wf, IntKind.min, IntKind.max, IntKind.signed, IntKind.bits]
 omega⟩
theorem epr_at {w : World} {A : Option Addr} {l : List Ep} (h : Reads 38 epL w w.heap.size A l) (k : Nat) (hk : k < l.length) : ∃ b off, A = some ⟨b, off, none⟩ ∧ b < w.heap.size ∧ rowOf w b (off + k * 38) 38 = some (epC l[k]) := by
 obtain ⟨b, off, h1, h2, h3⟩ := reads_row epE h k hk
 exact ⟨b, off, h1, h2, h3⟩
theorem TabAt.sets {w : World} {l : List Ep} {v : Value} (h : TabAt w l v) {b : Nat} {ds : Array Value} (hb : RowAt w b ds) (vs : List Value) : TabAt (w.setCells b 0 vs) l v := by
 obtain ⟨T, hT⟩ := hb
 have key : ∀ {k : TypeId} {R : Value → Option (DataW Unit × List MemPlace)} {g n : Nat} {D : DataW Unit}, w.ownsMap Tryz.prog k R g n D → (w.setCells b 0 vs).ownsMap Tryz.prog k R g n D := by
  intro k R g n D ho
  refine ownsMap_block ho (heap_sets_other vs w b 0 g ?_)
  rintro rfl
  obtain ⟨es, cl, he, _⟩ := ho
  rw [hT] at he
  cases he
 rcases h with h | ⟨bu, nu, br, nr, Du, Dr, h1, h2, h3, h4, h5⟩
 ·exact .inl h
 ·exact .inr ⟨bu, nu, br, nr, Du, Dr, h1, h2, key h3, key h4, h5⟩
theorem TabAt.shape {w : World} {l : List Ep} {cs : Array Value} (h : TabAt w l (.agg cs)) : ∃ mu mr n, cs = tabC mu mr n := by
 obtain ⟨mu, mr, h1, _⟩ := tab_parts h
 exact ⟨mu, mr, _, h1⟩
theorem fold_any (A : Option Addr) (c : Nat) (l : List Ep) (w : World) (hl : l.length ≤ 100) (hc : ChAt w A l) :
  Calls Tryz.prog 25 #[.slice A l.length c] w fun r w' => (∃ cs, r = .returned (.agg cs) ∧ TabAt w' l (.agg cs)) ∧ Ext w w' := by
 have HC := lh hc
 clear hc
 go_enter Tryz.func25, Tryz.ntmps25
 go_wp2
 obtain ⟨B, hB⟩ : ∃ B, w.heap.size = B := ⟨_, rfl⟩
 rw [hB]
 go_loopw [8] (fun i wr => ∃ (k : Nat) (mu mr : Option Nat) (n : Int), i = .int .i64 k ∧ k ≤ l.length ∧ Hid (Ext w wr) ∧ Hid (RowAt wr B (tabC none none 0)) ∧ Hid (RowAt wr (B + 1) (tabC mu mr n)) ∧ Hid (TabAt wr (l.take k) (.agg (tabC mu mr n)))) (fun i _ => l.length - (intOf i).toNat)
 case atStart => exact ⟨0, none, none, 0, rfl, Nat.zero_le _, lh (by (with_reducible repeat first|exact eR _|apply eD|apply eN|apply eA|apply eO|apply eS|apply eC);all_goals first|omega|simp <;> omega), lh (by rw [← hB]; exact (RowAt.new _ _ _).alloc _), lh (RowAt.newAt (by simp [hB])), lh (TabAt.none _)⟩
 case round =>
  obtain ⟨k, mu, mr, n, rfl, hk, HX, HR0, HR1, HT⟩ := hrel
  have hsz := HX.out.size
  have hl1 := HR1.out.lt
  by_cases hlt : k < l.length
  ·obtain ⟨b, off, hA, hb, kr⟩ := epr_at (HC.out.rd.on HX.out) k hlt
   have HOk := lh (HC.out.ok _ (List.getElem_mem hlt))
   have HTk := lh (List.take_succ_eq_append_getElem hlt)
   generalize l[k] = e at *
   have hfe := ep_fits e
   go_upto_region 5 with (fail)
   refine wp_world (fun W => Ext wr W ∧ RowAt W wr.heap.size (epC e)) ⟨(by (with_reducible repeat first|exact eR _|apply eD|apply eN|apply eA|apply eO|apply eS|apply eC);all_goals first|omega|simp <;> omega), RowAt.store (RowAt.new _ _ _) rfl⟩ ?_
   obtain ⟨g, hg⟩ : ∃ g, wr.heap.size = g := ⟨_, rfl⟩
   rw [hg]
   rintro W5 ⟨x5, u5⟩
   have HX5 := lh x5
   have hs5 := x5.size
   have k5 : rowOf W5 g 0 38 = some (epC e) := u5.all rfl (by omega)
   have k1 : rowOf W5 (B + 1) 0 3 = some (tabC mu mr n) := (HR1.out.ext x5).all rfl (by omega)
   have HR15 := lh (HR1.out.ext x5)
   have HR05 := lh (HR0.out.ext x5)
   have HAd := lh (add_any (l.take k) e (tabC mu mr n) W5 (HT.out.on x5) (by rw [List.length_take]; omega) (HOk.out.2.2.on (HX.out.trans x5)) (by have := HOk.out.2.1.pu; omega) (by have := HOk.out.2.1.rv; omega) (HOk.out.1.ints _ (by simp)) (key_pu HOk.out.1 HOk.out.2.1) (fun d hd => dk_of (HOk.out.1.rv d hd)))
   clear x5 u5 kr hA hg HT HR1 HR0
   go_wp2_with (go_at_call 29; refine (show Hid _ from ?_).out)
   refine lh ?_
   refine HAd.out.mono ?_
   rintro r w6 ⟨⟨cs', rfl, hT'⟩, hx6⟩
   obtain ⟨mu', mr', n', rfl⟩ := hT'.shape
   have hft := tab_fits mu' mr' n'
   have hr6 := HR15.out.ext hx6
   have HR06 := lh (HR05.out.ext hx6)
   have HX6 := lh ((HX.out.trans HX5.out).trans hx6)
   have m1 : roomOf w6 (B + 1) 0 3 = true := by rw [hr6.room]; rfl
   have HR16 := lh hr6
   have HT6 := lh hT'
   have hs6 := hx6.size
   clear hT' hx6 hr6 HAd k5 k1
   go_wp2
   go_roundw
   case rel => exact ⟨k + 1, mu', mr', n', by go_num, by omega, lh (by (with_reducible repeat first|exact HX6.out|exact eR _|apply eD|apply eN|apply eA|apply eO|apply eS|apply eC);all_goals first|omega|simp <;> omega), lh (RowAt.others HR06.out (by omega) _ _), lh (RowAt.store HR16.out rfl), lh (by rw [HTk.out]; exact HT6.out.sets HR16.out _)⟩
   case measure => simp [intOf]; omega
  ·have HTe : Hid (TabAt wr l (.agg (tabC mu mr n))) := lh (by have h := HT.out; rwa [List.take_of_length_le (by omega)] at h)
   have k1 : rowOf wr (B + 1) 0 3 = some (tabC mu mr n) := HR1.out.all rfl (by omega)
   have hft := tab_fits mu mr n
   have m0 : roomOf wr B 0 3 = true := by rw [HR0.out.room]; rfl
   clear HT
   go_wp2
   exact post_row tab_ty Tryz.results25 rfl rfl (RowAt.stored (n := 3) HR0.out rfl rfl (by omega)) ⟨⟨_, rfl, HTe.out.sets HR0.out _⟩, (by (with_reducible repeat first|exact HX.out|exact eR _|apply eD|apply eN|apply eA|apply eO|apply eS|apply eC);all_goals first|omega|simp <;> omega)⟩
section
variable {P : Program} {id : Nat} {Q : Exit → Act → World → Prop} {a0 : Act} {w0 : World} {l : List Oper}
theorem wp_region_put2 (n : Nat) (hn : l.length = n) (is1 is2 : Nat) (vs : Nat → Value) (B1 B2 : Nat) (cs01 cs1 cs02 cs2 : Array Value) (hm : P.follows .mixedOrders = true) (hB : allB l = true) (hC : chainW l [is1, is2] = true) (hne : decide (is1 ≠ is2) = true) (hk : decide (is1 < n) && decide (is2 < n) = true)
  (hrow1 : RowAt w0 B1 cs01) (hrow2 : RowAt w0 B2 cs02) (hBne : B1 ≠ B2) (hsz1 : cs1.size = cs01.size) (hsz2 : cs2.size = cs02.size)
  (hread : ∀ i, i < n → i ≠ is1 → i ≠ is2 → ∀ o, l[i]? = some o → ∀ xs w, ButS (fun k => k = B1 ∨ k = B2) w0 w → ((i ∈ depsOf l is1 → Ext w0 w) ∧ ∀ j, j ∈ depsOf l i → j ≠ is1 → j ≠ is2 → xs j = vs j) → ∀ Q' : Exit → Act → World → Prop, (∀ v w', Ext w w' → v = vs i → Q' .normal ((fillAt l a0 xs n).put o.dst v) w') → wpList P l.toArray Q' [o] (fillAt l a0 xs n) w)
  (hwrite1 : ∀ o, l[is1]? = some o → ∀ xs w, ButS (fun k => k = B1 ∨ k = B2) w0 w → RowAt w B1 cs01 ∧ (∀ j, j ∈ depsOf l is1 → j ≠ is1 → j ≠ is2 → xs j = vs j) → ∀ Q' : Exit → Act → World → Prop, (∀ v, Q' .normal ((fillAt l a0 xs n).put o.dst v) (w.setCells B1 0 cs1.toList)) → wpList P l.toArray Q' [o] (fillAt l a0 xs n) w)
  (hwrite2 : ∀ o, l[is2]? = some o → ∀ xs w, ButS (fun k => k = B1 ∨ k = B2) w0 w → RowAt w B2 cs02 ∧ (∀ j, j ∈ depsOf l is2 → j ≠ is1 → j ≠ is2 → xs j = vs j) → ∀ Q' : Exit → Act → World → Prop, (∀ v, Q' .normal ((fillAt l a0 xs n).put o.dst v) (w.setCells B2 0 cs2.toList)) → wpList P l.toArray Q' [o] (fillAt l a0 xs n) w)
  (hend : ∀ xs w, ButS (fun k => k = B1 ∨ k = B2) w0 w → RowAt w B1 cs1 → RowAt w B2 cs2 → (∀ i, i < n → i ≠ is1 → i ≠ is2 → xs i = vs i) → Q .normal (fillAt l a0 xs n) w) : (Code.region id l.toArray true).wp P Q a0 w0 := by
 have hne' : is1 ≠ is2 := by simpa using hne
 have hmem : ∀ {j}, j ∉ [is1, is2] ↔ j ≠ is1 ∧ j ≠ is2 := fun {j} => by simp
 have hN : nodupW [is1, is2] = true := by
  simp only [nodupW, List.all_eq_true, List.mem_range, Bool.or_eq_true, decide_eq_true_eq, List.length_cons, List.length_nil]
  intro t ht s hs
  rcases t with _ | _ | t
  ·rcases s with _ | _ | s
   ·exact .inl rfl
   ·exact .inr hne'
   ·omega
  ·rcases s with _ | _ | s
   ·exact .inr hne'.symm
   ·exact .inl rfl
   ·omega
  ·omega
 refine wp_region_steps n hn [is1, is2] (fun r _ w => ButS (fun k => k = B1 ∨ k = B2) w0 w ∧ (r = 0 → Ext w0 w ∧ RowAt w B1 cs01) ∧ (1 ≤ r → RowAt w B1 cs1) ∧ (r ≤ 1 → RowAt w B2 cs02) ∧ (r = 2 → RowAt w B2 cs2)) (fun i _ v _ => v = vs i) hm hB hC hN ?_ ?_ ?_ ?_ ?_ ?_ ?_ (by simpa using hk)
 ·exact ⟨(ButS.refl _ _).drew, fun _ => ⟨Ext.drew (eR _), hrow1.drew⟩, fun h => (by omega), fun _ => hrow2.drew, fun h => (by cases h)⟩
 ·exact fun r xs i v w _ h => h
 ·exact fun r xs w w' h hx => ⟨h.1.ext hx, fun e => ⟨(h.2.1 e).1.trans hx, (h.2.1 e).2.ext hx⟩, fun e => (h.2.2.1 e).ext hx, fun e => (h.2.2.2.1 e).ext hx, fun e => (h.2.2.2.2 e).ext hx⟩
 ·exact fun i r v w w' h _ => h
 ·intro i hi hik o ho r xs w hr hG hd _ hno Q' hQ
  refine hread i hi (hmem.1 hik).1 (hmem.1 hik).2 o ho xs w hG.1 ⟨fun hi' => ?_, fun j hj h1 h2 => hd j hj (hmem.2 ⟨h1, h2⟩)⟩ Q' (fun v w' hx hv => hQ v w' hx hv)
  have hr0 : r = 0 := by
   rcases Nat.eq_zero_or_pos r with h | h
   ·exact h
   ·exact absurd hi' (hno 0 h)
  exact (hG.2.1 hr0).1
 ·intro t ht hlt o ho xs w hG hd Q' hQ
  rcases t with _ | _ | t
  ·refine hwrite1 o ho xs w hG.1 ⟨(hG.2.1 rfl).2, fun j hj h1 h2 => hd j hj (hmem.2 ⟨h1, h2⟩)⟩ Q' (fun v => hQ v _ (fun i u h => h) ⟨hG.1.setCells (.inl rfl) _ _, fun h => (by cases h), fun _ => RowAt.store (hG.2.1 rfl).2 hsz1, fun _ => RowAt.others (hG.2.2.2.1 (by omega)) (Ne.symm hBne) _ _, fun h => (by cases h)⟩)
  ·refine hwrite2 o ho xs w hG.1 ⟨hG.2.2.2.1 (by omega), fun j hj h1 h2 => hd j hj (hmem.2 ⟨h1, h2⟩)⟩ Q' (fun v => hQ v _ (fun i u h => h) ⟨hG.1.setCells (.inr rfl) _ _, fun h => (by cases h), fun _ => RowAt.others (hG.2.2.1 (by omega)) hBne _ _, fun h => (by omega), fun _ => RowAt.store (hG.2.2.2.1 (by omega)) hsz2⟩)
  ·simp at ht; omega
 ·intro _ xs w hG hd
  exact hend xs w hG.1 (hG.2.2.1 (by simp)) (hG.2.2.2.2 rfl) (fun i hi h1 h2 => hd i hi (hmem.2 ⟨h1, h2⟩))
end
def pdC (lo hi : Int) : Array Value := #[.int .i64 lo, .int .i64 hi]
theorem pd_ty : RowTy Tryz.prog 25 2 := ⟨by kernel_rfl, by kernel_rfl⟩
theorem pd_ld (w : World) (b o : Nat) : (rowLoad 25 2 (.pointer (some ⟨b, o, none⟩))).run Tryz.prog w = rowLoadR Tryz.prog w 25 2 b o (rowOf w b o 2) := run_rowLoad pd_ty w b o
theorem pd_st (w : World) (b o : Nat) (cells : Array Value) : (rowStore 25 2 (.pointer (some ⟨b, o, none⟩)) (.agg cells)).run Tryz.prog w = rowStoreR Tryz.prog w 25 2 b o cells (roomOf w b o 2 && fitsRow 2 cells) := run_rowStore pd_ty w b o cells
theorem pd_al (w : World) : (rowAlloc 25).run Tryz.prog w = .ok (.value (.pointer (some ⟨w.heap.size, 0, none⟩))) (w.alloc (.cells (pdC 0 0) 25)) := run_rowAlloc (by kernel_rfl) w
theorem pd_xl (ρ : Operand → Value) (dst : Option Tmp) (x : Operand) (t : TypeId) (pos : String) (after : Array Edge) (guard : Option (Nat × Bool)) : execOp ρ { dst, op := .load 25 x, type := t, pos, after, guard } = rowLoad 25 2 (ρ x) := rfl
theorem pd_xs (ρ : Operand → Value) (dst : Option Tmp) (x y : Operand) (t : TypeId) (pos : String) (after : Array Edge) (guard : Option (Nat × Bool)) : execOp ρ { dst, op := .store 25 x y, type := t, pos, after, guard } = rowStore 25 2 (ρ x) (ρ y) := rfl
theorem pd_xa (ρ : Operand → Value) (dst : Option Tmp) (t : TypeId) (pos : String) (after : Array Edge) (guard : Option (Nat × Bool)) : execOp ρ { dst, op := .alloc 25, type := t, pos, after, guard } = rowAlloc 25 := rfl
attribute [go_sem ↓] pd_xl pd_xs pd_xa
attribute [go_sem] pd_ld pd_st pd_al
theorem pd_fits (lo hi : Int) : fitsRow 2 (pdC lo hi) = true := by kernel_rfl
theorem dg_fits (a : List Int) : fitsRow 16 (dgC a) = true := by simp [fitsRow, dgC, Value.oneCell']
theorem pd_size (lo hi : Int) : (pdC lo hi).size = 2 := rfl
def dgB0 : Sem Next := do pure (.value (← Instr.build 23 #[]))
theorem dgB0_x (ρ : Operand → Value) (dst : Option Tmp) (t : TypeId) (pos : String) (after : Array Edge) (guard : Option (Nat × Bool)) : execOp ρ { dst, op := .build 23 #[], type := t, pos, after, guard } = dgB0 := by kernel_rfl
theorem dgB0_run (W : World) : dgB0.run Tryz.prog W = .ok (.value (.agg (dgC (zeros32 16)))) W := by kernel_rfl
def pdB0 : Sem Next := do pure (.value (← Instr.build 25 #[]))
theorem pdB0_x (ρ : Operand → Value) (dst : Option Tmp) (t : TypeId) (pos : String) (after : Array Edge) (guard : Option (Nat × Bool)) : execOp ρ { dst, op := .build 25 #[], type := t, pos, after, guard } = pdB0 := by kernel_rfl
theorem pdB0_run (W : World) : pdB0.run Tryz.prog W = .ok (.value (.agg (pdC 0 0))) W := by kernel_rfl
theorem ep_pd (e : Ep) : rowSub (epC e) 17 2 = some (pdC e.lo e.hi) := by kernel_rfl
theorem ep_prev (e : Ep) : rowSub (epC e) 1 16 = some (dgC e.prev) := by kernel_rfl
theorem last_nil : lastD [] = zeros32 16 ∧ lastLo [] = 0 ∧ lastHi [] = 0 := ⟨rfl, rfl, rfl⟩
theorem last_some {l : List Ep} (h : 0 < l.length) : lastD l = epName (l[l.length - 1]'(by omega)) ∧ lastLo l = (l[l.length - 1]'(by omega)).lo ∧ lastHi l = (l[l.length - 1]'(by omega)).hi := by
 have e : l.getLast? = some (l[l.length - 1]'(by omega)) := by
  rw [List.getLast?_eq_getElem?, List.getElem?_eq_getElem (by omega)]
 unfold lastD lastLo lastHi
 rw [e]
 exact ⟨rfl, rfl, rfl⟩
section
attribute [local go_sem ↓] dgB0_x pdB0_x
attribute [local go_sem] dgB0_run pdB0_run pd_fits dg_fits pd_size
theorem last_any2 (A : Option Addr) (c : Nat) (l : List Ep) (w : World) (hl : l.length ≤ 100) (hc : ChAt w A l) (hk : KonstP w) :
  Calls Tryz.prog 81 #[.slice A l.length c] w fun r w' => r = .returned (.tuple #[.agg (dgC (lastD l)), .agg (pdC (lastLo l) (lastHi l))]) ∧ Ext w w' := by
 by_cases h0 : l.length = 0
 ·have e := List.eq_nil_of_length_eq_zero h0
  subst e
  clear h0 hc hk
  go_enter Tryz.func81, Tryz.ntmps81
  go_wp2
  refine post_two Tryz.results81 rfl ⟨_, rfl, run_loadVar_row dig_ty (RowAt.all (n := 16) (RowAt.others (RowAt.store ((RowAt.new _ _ _).alloc _) rfl) (by omega) _ _) rfl (by omega))⟩ ⟨_, rfl, run_loadVar_row pd_ty (RowAt.all (n := 2) (RowAt.store (RowAt.others (RowAt.newAt (by simp)) (by omega) _ _) rfl) rfl (by omega))⟩ ⟨rfl, (by (with_reducible repeat first|exact eR _|apply eD|apply eN|apply eA|apply eO|apply eS|apply eC);all_goals first|omega|simp <;> omega)⟩
 ·obtain ⟨h1, h2, h3⟩ := last_some (l := l) (by omega)
  have HOk := lh (hc.ok _ (List.getElem_mem (by omega : l.length - 1 < l.length)))
  obtain ⟨b, off, rfl, hb, kr⟩ := epr_at hc.rd (l.length - 1) (by omega)
  have HK : Hid (KonstP w) := lh hk
  rw [h1, h2, h3]
  generalize l[l.length - 1]'(by omega) = e at *
  have hfe := ep_fits e
  clear h1 h2 h3 hc hk
  obtain ⟨n, hn⟩ : ∃ n, l.length = n + 1 := ⟨l.length - 1, by omega⟩
  rw [hn, Nat.add_sub_cancel] at kr
  rw [hn] at hl ⊢
  clear hn h0
  have HN := lh (fun (W : World) (hx : Ext w W) => ename_any e W HOk.out.1 HOk.out.2.1 (HOk.out.2.2.on hx) (RowAt.ext HK.out hx))
  obtain ⟨D, hD⟩ : ∃ D, epName e = D := ⟨_, rfl⟩
  rw [hD] at HN ⊢
  clear hD
  go_enter Tryz.func81, Tryz.ntmps81
  go_upto_region 4 with (fail)
  refine wp_world (fun W => Ext w W ∧ RowAt W w.heap.size (dgC (zeros32 16)) ∧ RowAt W (w.heap.size + 1) (pdC 0 0) ∧ RowAt W (w.heap.size + 1 + 1) (epC e)) ⟨(by (with_reducible repeat first|exact eR _|apply eD|apply eN|apply eA|apply eO|apply eS|apply eC);all_goals first|omega|simp <;> omega), ?_, ?_, ?_⟩ ?_
  ·exact RowAt.others (((RowAt.new _ _ _).alloc _).alloc _) (by omega) _ _
  ·exact RowAt.others ((RowAt.newAt (by simp)).alloc _) (by omega) _ _
  ·exact RowAt.store (RowAt.newAt (by simp)) rfl
  obtain ⟨B, hB⟩ : ∃ B, w.heap.size = B := ⟨_, rfl⟩
  rw [hB]
  rintro W1 ⟨x1, u0, u1, u2⟩
  have HX1 := lh x1
  have HR0 := lh u0
  have HR1 := lh u1
  have HR2 := lh u2
  have hl2 := u2.lt
  clear x1 u0 u1 u2 kr hb
  refine wp_region_put2 6 (by kernel_rfl) 4 5 (fun i => ([.agg (epC e), .agg (dgC D), .pointer (some ⟨B + 1 + 1, 17, none⟩), .agg (pdC e.lo e.hi), undef, undef] : List Value).getD i undef) B (B + 1) (dgC (zeros32 16)) (dgC D) (pdC 0 0) (pdC e.lo e.hi) (by kernel_rfl) (by kernel_rfl) (by kernel_rfl) (by decide) (by decide) HR0.out HR1.out (by omega) rfl rfl (lt_cons ?_ (lt_cons ?_ (lt_cons ?_ (lt_cons ?_ (lt_cons ?_ (lt_cons ?_ lt_none)))))) ?_ ?_ ?_
  ·intro _ _
   refine sopP rfl fun xs W HW hsW HD Q' HQ => ?_; simp only [fillAt, dstOf, lc0, lcs, obs, Act.put, lsa, lsz, lss, nz, Nat.reduceAdd] at HQ ⊢
   have hc := (HW.out.row HR2.out (by omega)).all (n := 38) rfl (by omega)
   go_wp2
   exact HQ.out _ _ (eR _) rfl
  ·intro _ _
   refine sopP rfl fun xs W HW hsW HD Q' HQ => ?_; simp only [fillAt, dstOf, lc0, lcs, obs, Act.put, lsa, lsz, lss, nz, Nat.reduceAdd] at HQ ⊢
   have hd0 : xs 0 = .agg (epC e) := (HD.out.2 0 (dk (by kernel_rfl)) (by decide) (by decide))
   have HXW := lh (HX1.out.trans (HD.out.1 (dk (by kernel_rfl))))
   generalize xs 0 = x0 at hd0 HQ ⊢; subst hd0
   go_wp2_with (go_at_call 15; refine (HN.out _ HXW.out).mono ?_; rintro r w1 ⟨rfl, hx⟩)
   exact HQ.out _ _ hx rfl
  ·intro _ _
   refine sopP rfl fun xs W HW hsW HD Q' HQ => ?_; simp only [fillAt, dstOf, lc0, lcs, obs, Act.put, lsa, lsz, lss, nz, Nat.reduceAdd] at HQ ⊢
   go_wp2
   exact HQ.out _ _ (eR _) rfl
  ·intro _ _
   refine sopP rfl fun xs W HW hsW HD Q' HQ => ?_; simp only [fillAt, dstOf, lc0, lcs, obs, Act.put, lsa, lsz, lss, nz, Nat.reduceAdd] at HQ ⊢
   have hd0 : xs 2 = .pointer (some ⟨B + 1 + 1, 17, none⟩) := (HD.out.2 2 (dk (by kernel_rfl)) (by decide) (by decide))
   have hc : rowOf W (B + 1 + 1) 17 2 = some (pdC e.lo e.hi) := by rw [(HW.out.row HR2.out (by omega)).row, if_neg (by omega), ep_pd]
   generalize xs 2 = x2 at hd0 HQ ⊢; subst hd0
   go_wp2
   exact HQ.out _ _ (eR _) rfl
  ·exact fun h => absurd rfl h
  ·exact fun _ h => absurd rfl h
  ·refine sopP rfl fun xs W HW hsW HD Q' HQ => ?_; simp only [fillAt, dstOf, lc0, lcs, obs, Act.put, lsa, lsz, lss, nz, Nat.reduceAdd] at HQ ⊢
   have hd0 : xs 1 = .agg (dgC D) := (HD.out.2 1 (dk (by kernel_rfl)) (by decide) (by decide))
   have hrm : roomOf W B 0 16 = true := by rw [HD.out.1.room]; rfl
   generalize xs 1 = x1 at hd0 HQ ⊢; subst hd0
   go_wp2
   exact HQ.out undef
  ·refine sopP rfl fun xs W HW hsW HD Q' HQ => ?_; simp only [fillAt, dstOf, lc0, lcs, obs, Act.put, lsa, lsz, lss, nz, Nat.reduceAdd] at HQ ⊢
   have hd0 : xs 3 = .agg (pdC e.lo e.hi) := (HD.out.2 3 (dk (by kernel_rfl)) (by decide) (by decide))
   have hrm : roomOf W (B + 1) 0 2 = true := by rw [HD.out.1.room]; rfl
   generalize xs 3 = x3 at hd0 HQ ⊢; subst hd0
   go_wp2
   exact HQ.out undef
  ·intro xs W4 hb4 hr4 hr5 hvs
   clear hvs
   have hE : Ext w W4 := ((ButS.of_ext HX1.out).trans hb4).toExt (fun k hk e => by omega)
   simp only [fillAt, dstOf, lc0, lcs, obs, Act.put, lsa, lsz, lss, nz, Nat.reduceAdd]
   go_wp2
   exact post_two Tryz.results81 rfl ⟨_, rfl, run_loadVar_row dig_ty (hr4.all (n := 16) rfl (by omega))⟩ ⟨_, rfl, run_loadVar_row pd_ty (hr5.all (n := 2) rfl (by omega))⟩ ⟨rfl, hE⟩
end
end Go.Proofs.YtpojnhikgjcgmaaGreatDoor

namespace Go.Proofs.YtpojnhikgjcgmaaGreatDoor
open Go.RowKit Go.Shelf Go.Maps
open Go.Proofs
theorem neq_dg2 {a b : List Int} (ha : DgOk a) (hb : DgOk b) (W : World) : (binOp .neq 23 (.agg (dgC a)) (.agg (dgC b))).run Tryz.prog W = .ok (.bool (!(decide (a = b)))) W := by
 have h := run_equalIn_bytes (P := Tryz.prog) W 9998 23 5 16 (by kernel_rfl) (by kernel_rfl) u8_size (u8s a) (u8s b) (by simp [u8s, ha.len]) (by simp [u8s, hb.len])
 rw [u8s_cells ha.byt, u8s_cells hb.byt, u8s_beq ha.byt hb.byt] at h
 rw [dgC_cells ha.len, dgC_cells hb.len, run_neq_struct, h]
 rfl
theorem zeros_ok : DgOk (zeros32 16) := ⟨rfl, fun x hx => by
 have h : x = 0 := by simpa [zeros32] using hx
 subst h
 decide⟩
theorem epr_pd {w : World} {b o : Nat} {z : Ep} (h : rowOf w b o 38 = some (epC z)) : rowOf w b (o + 17) 2 = some (pdC z.lo z.hi) := rowOf_some rfl (fun i hi => by
 rcases i with _ | _ | i
 ·exact (rowOf_cell h (i := 17) (by omega)).trans (ep_g17 z)
 ·exact (rowOf_cell h (i := 18) (by omega)).trans (ep_g18 z)
 ·omega)
theorem lastD_ok (l : List Ep) : DgOk (lastD l) := by
 unfold lastD
 split
 ·exact ⟨epName_len _, epName_byt _⟩
 ·exact zeros_ok
theorem fol_bad {l : List Ep} {e : Ep} (h : okEp e = false) : followsN l e = 3 := by unfold followsN; rw [if_neg (by rw [h]; exact Bool.false_ne_true)]
theorem fol_num {l : List Ep} {e : Ep} (h : okEp e = true) (h2 : ¬ (e.num = (l.length : Int) + 1 ∧ e.prev = lastD l)) : followsN l e = 310 := by unfold followsN; rw [if_pos h, if_neg h2]
theorem fol_time {l : List Ep} {e : Ep} (h : okEp e = true) (h2 : e.num = (l.length : Int) + 1 ∧ e.prev = lastD l) (h3 : e.lo < lastLo l ∨ e.hi < lastHi l) : followsN l e = 9 := by unfold followsN; rw [if_pos h, if_pos h2, if_pos h3]
theorem fol_ok {l : List Ep} {e : Ep} (h : okEp e = true) (h2 : e.num = (l.length : Int) + 1 ∧ e.prev = lastD l) (h3 : ¬ (e.lo < lastLo l ∨ e.hi < lastHi l)) : followsN l e = 0 := by unfold followsN; rw [if_pos h, if_pos h2, if_neg h3]
section
attribute [local go_sem] pd_fits dg_fits pd_size
theorem follows_any (A : Option Addr) (c : Nat) (l : List Ep) (e : Ep) (w : World) (hl : l.length ≤ 100) (hc : ChAt w A l) (hok : EpOk e) (hs : EpShort e) (ha : EpAt w e) (hk : KonstP w) :
  Calls Tryz.prog 38 #[.slice A l.length c, .agg (epC e)] w fun r w' => r = .returned (.int .i64 (followsN l e)) ∧ Ext w w' := by
 have HVl := lh (fun (W : World) (hx : Ext w W) => evalid_any e W (ha.on hx) (by have := hs.pu; omega) (by have := hs.rv; omega) (fun p hp => by have := hs.what p hp; omega))
 have HLa := lh (fun (W : World) (hx : Ext w W) => last_any2 A c l W hl (hc.on hx) (RowAt.ext hk hx))
 have hneq := neq_dg2 hok.prev (lastD_ok l)
 have H1 := lh (fol_bad (l := l) (e := e))
 have H2 := lh (fol_num (l := l) (e := e))
 have H3 := lh (fol_time (l := l) (e := e))
 have H4 := lh (fol_ok (l := l) (e := e))
 have hfe := ep_fits e
 generalize followsN l e = R at *
 generalize lastD l = LD at *
 generalize lastLo l = LL at *
 generalize lastHi l = LH at *
 clear hc hok hs ha hk
 go_enter Tryz.func38, Tryz.ntmps38
 go_upto_region 1 with (fail)
 refine wp_world (fun W => Ext w W ∧ RowAt W w.heap.size (epC e)) ⟨(by (with_reducible repeat first|exact eR _|apply eD|apply eN|apply eA|apply eO|apply eS|apply eC);all_goals first|omega|simp <;> omega), RowAt.new _ _ _⟩ ?_
 obtain ⟨B, hB⟩ : ∃ B, w.heap.size = B := ⟨_, rfl⟩
 rw [hB]
 rintro W1 ⟨x1, u0⟩
 have HX1 := lh x1
 have HR0 := lh u0
 have hl0 := u0.lt
 have k0 : rowOf W1 B 0 38 = some (epC e) := u0.all rfl (by omega)
 clear x1 u0
 cases b1 : okEp e with
 | false =>
  have HR : Hid (R = 3) := lh (H1.out b1)
  rw [b1] at HVl
  clear H1 H2 H3 H4 b1
  go_wp2_with (go_at_call 13; refine (HVl.out _ (by first | exact HX1.out | exact HX1.out.onto _)).mono ?_; rintro e w' ⟨rfl, hxl⟩; obtain ⟨xl, rfl⟩ := hxl.asLater; clear hxl)
  go_ret
  exact ⟨ret_int HR.out.symm, (by (with_reducible repeat first|exact HX1.out|exact eR _|apply eD|apply eN|apply eA|apply eO|apply eS|apply eC);all_goals first|omega|simp <;> omega)⟩
 | true =>
  rw [b1] at HVl
  have H2' := lh (H2.out b1)
  have H3' := lh (H3.out b1)
  have H4' := lh (H4.out b1)
  clear H1 H2 H3 H4 b1
  go_wp2_with (first
   | (go_at_call 13; refine (HVl.out _ (by first | exact HX1.out | exact HX1.out.onto _)).mono ?_; rintro e w' ⟨rfl, hxl⟩; obtain ⟨xl, rfl⟩ := hxl.asLater; clear hxl)
   | (go_at_call 81; refine (show Hid _ from ?_).out))
  refine lh ?_
  refine (HLa.out (later W1 xl) (HX1.out.onto _)).mono ?_
  rintro r w3 ⟨rfl, hx3⟩
  have HX3 := lh ((HX1.out.onto xl).trans hx3)
  have HR03 := lh ((HR0.out.later xl).ext hx3)
  have hs3 := hx3.size
  rw [later_size] at hs3
  clear hx3 k0 HVl HLa HX1
  go_upto_region 4 with (fail)
  refine wp_world (fun W => Ext w W ∧ RowAt W B (epC e) ∧ RowAt W w3.heap.size (dgC LD) ∧ RowAt W (w3.heap.size + 1) (pdC LL LH)) ⟨(by (with_reducible repeat first|exact HX3.out|exact eR _|apply eD|apply eN|apply eA|apply eO|apply eS|apply eC);all_goals first|omega|simp <;> omega), ?_, ?_, ?_⟩ ?_
  ·exact RowAt.others (RowAt.others ((HR03.out.alloc _).alloc _) (by omega) _ _) (by omega) _ _
  ·have z : RowAt ((w3.alloc (.cells (cells8 (zeros32 16)) 23)).alloc (.cells (pdC 0 0) 25)) w3.heap.size (cells8 (zeros32 16)) := (RowAt.new _ _ _).alloc _
   have h : (dgC LD).size = (cells8 (zeros32 16)).size := rfl
   have y := RowAt.store z h
   exact RowAt.others y (by omega) _ _
  ·exact RowAt.store (RowAt.others (RowAt.newAt (by simp)) (by omega) _ _) rfl
  obtain ⟨g, hg⟩ : ∃ g, w3.heap.size = g := ⟨_, rfl⟩
  rw [hg]
  rintro W4 ⟨x4, u0, u1, u2⟩
  have HX4 := lh x4
  have q0 : W4.cell? ⟨B, 0, none⟩ = some (.int .i64 e.num) := (u0.cell 0).trans (ep_g0 e)
  have q17 : W4.cell? ⟨B, 17, none⟩ = some (.int .i64 e.lo) := (u0.cell 17).trans (ep_g17 e)
  have q18 : W4.cell? ⟨B, 18, none⟩ = some (.int .i64 e.hi) := (u0.cell 18).trans (ep_g18 e)
  have k1 : rowOf W4 B 1 16 = some (dgC e.prev) := by rw [u0.row, if_neg (by omega), ep_prev]
  have k2 : rowOf W4 g 0 16 = some (dgC LD) := u1.all rfl (by omega)
  have q3 : W4.cell? ⟨g + 1, 0, none⟩ = some (.int .i64 LL) := u2.cell 0
  have q4 : W4.cell? ⟨g + 1, 1, none⟩ = some (.int .i64 LH) := u2.cell 1
  have hg2 := u2.lt
  clear x4 u0 u1 u2 HX3 HR03 HR0 hg
  by_cases hn : e.num = (l.length : Int) + 1
  ·by_cases hp : e.prev = LD
   ·have hd : decide (e.prev = LD) = true := decide_eq_true hp
    rw [hd] at hneq
    by_cases ht1 : e.lo < LL
    ·have HR : Hid (R = 9) := lh (H3'.out ⟨hn, hp⟩ (.inl ht1))
     have d1 : decide (e.lo < LL) = true := decide_eq_true ht1
     clear H2' H3' H4' hp hd
     go_wp2
     go_ret
     exact ⟨ret_int HR.out.symm, (by (with_reducible repeat first|exact HX4.out|exact eR _|apply eD|apply eN|apply eA|apply eO|apply eS|apply eC);all_goals first|omega|simp <;> omega)⟩
    ·have d1 : decide (e.lo < LL) = false := decide_eq_false ht1
     by_cases ht2 : e.hi < LH
     ·have HR : Hid (R = 9) := lh (H3'.out ⟨hn, hp⟩ (.inr ht2))
      have d2 : decide (e.hi < LH) = true := decide_eq_true ht2
      clear H2' H3' H4' hp hd
      go_wp2
      go_ret
      exact ⟨ret_int HR.out.symm, (by (with_reducible repeat first|exact HX4.out|exact eR _|apply eD|apply eN|apply eA|apply eO|apply eS|apply eC);all_goals first|omega|simp <;> omega)⟩
     ·have HR : Hid (R = 0) := lh (H4'.out ⟨hn, hp⟩ (fun h => h.elim ht1 ht2))
      have d2 : decide (e.hi < LH) = false := decide_eq_false ht2
      clear H2' H3' H4' hp hd
      go_wp2
      go_ret
      exact ⟨ret_int HR.out.symm, (by (with_reducible repeat first|exact HX4.out|exact eR _|apply eD|apply eN|apply eA|apply eO|apply eS|apply eC);all_goals first|omega|simp <;> omega)⟩
   ·have hd : decide (e.prev = LD) = false := decide_eq_false hp
    rw [hd] at hneq
    have HR : Hid (R = 310) := lh (H2'.out (fun h => hp h.2))
    clear H2' H3' H4' hp hd
    go_wp2
    go_ret
    exact ⟨ret_int HR.out.symm, (by (with_reducible repeat first|exact HX4.out|exact eR _|apply eD|apply eN|apply eA|apply eO|apply eS|apply eC);all_goals first|omega|simp <;> omega)⟩
  ·have HR : Hid (R = 310) := lh (H2'.out (fun h => hn h.1))
   have dn : (e.num == (l.length : Int) + 1) = false := by simpa using hn
   clear H2' H3' H4'
   go_wp2
   go_ret
   exact ⟨ret_int HR.out.symm, (by (with_reducible repeat first|exact HX4.out|exact eR _|apply eD|apply eN|apply eA|apply eO|apply eS|apply eC);all_goals first|omega|simp <;> omega)⟩
theorem rfollows_any (A : Option Addr) (c : Nat) (l : List Ep) (e : Ep) (w : World) (hl : l.length ≤ 100) (hc : ChAt w A l) (hok : EpOk e) (hs : EpShort e) (ha : EpAt w e) (hk : RKonst w) :
  Calls Tryz.prog 39 #[.slice A l.length c, .agg (epC e)] w fun r w' => r = .returned (.int .i64 (followsN l e)) ∧ Ext w w' := by
 have HVl := lh (fun (W : World) (hx : Ext w W) => revalid_any e W (ha.on hx) (by have := hs.pu; omega) (by have := hs.rv; omega) (fun p hp => by have := hs.what p hp; omega))
 have hneq := neq_dg2 hok.prev (lastD_ok l)
 have H1 := lh (fol_bad (l := l) (e := e))
 have H2 := lh (fol_num (l := l) (e := e))
 have H3 := lh (fol_time (l := l) (e := e))
 have H4 := lh (fol_ok (l := l) (e := e))
 have hfe := ep_fits e
 generalize followsN l e = R at *
 cases b1 : okEp e with
 | false =>
  have HR : Hid (R = 3) := lh (H1.out b1)
  rw [b1] at HVl
  clear H1 H2 H3 H4 b1 hc hok hs ha hk
  go_enter Tryz.func39, Tryz.ntmps39
  go_upto_region 1 with (fail)
  refine wp_world (fun W => Ext w W ∧ RowAt W w.heap.size (epC e)) ⟨(by (with_reducible repeat first|exact eR _|apply eD|apply eN|apply eA|apply eO|apply eS|apply eC);all_goals first|omega|simp <;> omega), RowAt.new _ _ _⟩ ?_
  generalize w.heap.size = B
  rintro W1 ⟨x1, u0⟩
  have HX1 := lh x1
  have hl0 := u0.lt
  have k0 : rowOf W1 B 0 38 = some (epC e) := u0.all rfl (by omega)
  clear x1 u0
  go_wp2_with (go_at_call 14; refine (HVl.out _ (by first | exact HX1.out | exact HX1.out.onto _)).mono ?_; rintro e w' ⟨rfl, hxl⟩; obtain ⟨xl, rfl⟩ := hxl.asLater; clear hxl)
  go_ret
  exact ⟨ret_int HR.out.symm, (by (with_reducible repeat first|exact HX1.out|exact eR _|apply eD|apply eN|apply eA|apply eO|apply eS|apply eC);all_goals first|omega|simp <;> omega)⟩
 | true =>
  rw [b1] at HVl
  have H2' := lh (H2.out b1)
  have H3' := lh (H3.out b1)
  have H4' := lh (H4.out b1)
  clear H1 H2 H3 H4 b1 hok hs ha
  by_cases h0 : l.length = 0
  ·have e0 := List.eq_nil_of_length_eq_zero h0
   subst e0
   obtain ⟨e1, e2, e3⟩ := last_nil
   rw [e1] at hneq H2' H3' H4'
   obtain ⟨LL, hLL⟩ : ∃ LL, lastLo [] = LL := ⟨_, rfl⟩
   obtain ⟨LH, hLH⟩ : ∃ LH, lastHi [] = LH := ⟨_, rfl⟩
   have hpz : pdC 0 0 = pdC LL LH := by rw [← hLL, ← hLH, e2, e3]
   have HPz := lh hpz
   rw [hLL, hLH] at H3' H4'
   clear e1 e2 e3 h0 hc hk hLL hLH hpz
   go_enter Tryz.func39, Tryz.ntmps39
   go_upto_region 1 with (fail)
   refine wp_world (fun W => Ext w W ∧ RowAt W w.heap.size (epC e)) ⟨(by (with_reducible repeat first|exact eR _|apply eD|apply eN|apply eA|apply eO|apply eS|apply eC);all_goals first|omega|simp <;> omega), RowAt.new _ _ _⟩ ?_
   obtain ⟨B, hB⟩ : ∃ B, w.heap.size = B := ⟨_, rfl⟩
   rw [hB]
   rintro W1 ⟨x1, u0⟩
   have HX1 := lh x1
   have HR0 := lh u0
   have hl0 := u0.lt
   have k0 : rowOf W1 B 0 38 = some (epC e) := u0.all rfl (by omega)
   clear x1 u0
   go_upto_region 9 with (go_at_call 14; refine (HVl.out _ (by first | exact HX1.out | exact HX1.out.onto _)).mono ?_; rintro e w' ⟨rfl, hxl⟩; obtain ⟨xl, rfl⟩ := hxl.asLater; clear hxl)
   obtain ⟨g, hg⟩ : ∃ g, W1.heap.size + xl.n = g := ⟨_, rfl⟩
   have hgB : B < g := by omega
   refine wp_world (fun W => Ext w W ∧ RowAt W B (epC e) ∧ RowAt W g (dgC (zeros32 16)) ∧ RowAt W (g + 1) (pdC LL LH)) ⟨(by (with_reducible repeat first|exact HX1.out|exact eR _|apply eD|apply eN|apply eA|apply eO|apply eS|apply eC);all_goals first|omega|simp <;> omega), ((HR0.out.later xl).alloc _).alloc _, ?_, ?_⟩ ?_
   ·have z : RowAt ((later W1 xl).alloc (.cells (cells8 (zeros32 16)) 23)) g (cells8 (zeros32 16)) := RowAt.newAt (by rw [later_size, hg])
    rw [dgC_cells (show (zeros32 16).length = 16 from rfl)]
    exact z.alloc _
   ·rw [← HPz.out]
    exact RowAt.newAt (by simp [later_size, hg])
   rw [hg]
   rintro W4 ⟨x4, u0, u1, u2⟩
   have hlz : (([] : List Ep).length : Int) = 0 := rfl
   generalize zeros32 16 = LD at *
   have HX4 := lh x4
   have q0 : W4.cell? ⟨B, 0, none⟩ = some (.int .i64 e.num) := (u0.cell 0).trans (ep_g0 e)
   have q17 : W4.cell? ⟨B, 17, none⟩ = some (.int .i64 e.lo) := (u0.cell 17).trans (ep_g17 e)
   have q18 : W4.cell? ⟨B, 18, none⟩ = some (.int .i64 e.hi) := (u0.cell 18).trans (ep_g18 e)
   have k1 : rowOf W4 B 1 16 = some (dgC e.prev) := by rw [u0.row, if_neg (by omega), ep_prev]
   have k2 : rowOf W4 g 0 16 = some (dgC LD) := u1.all rfl (by omega)
   have q3 : W4.cell? ⟨g + 1, 0, none⟩ = some (.int .i64 LL) := u2.cell 0
   have q4 : W4.cell? ⟨g + 1, 1, none⟩ = some (.int .i64 LH) := u2.cell 1
   have hg2 := u2.lt
   clear x4 u0 u1 u2
   by_cases hn0 : e.num = (([] : List Ep).length : Int) + 1
   ·have hn : e.num = 1 := by simpa using hn0
    by_cases hp : e.prev = LD
    ·have hd : decide (e.prev = LD) = true := decide_eq_true hp
     rw [hd] at hneq
     by_cases ht1 : e.lo < LL
     ·have HR : Hid (R = 9) := lh (H3'.out ⟨hn0, hp⟩ (.inl ht1))
      have d1 : decide (e.lo < LL) = true := decide_eq_true ht1
      clear H2' H3' H4' hp hd hn0
      go_wp2
      go_ret
      exact ⟨ret_int HR.out.symm, (by (with_reducible repeat first|exact HX4.out|exact eR _|apply eD|apply eN|apply eA|apply eO|apply eS|apply eC);all_goals first|omega|simp <;> omega)⟩
     ·have d1 : decide (e.lo < LL) = false := decide_eq_false ht1
      by_cases ht2 : e.hi < LH
      ·have HR : Hid (R = 9) := lh (H3'.out ⟨hn0, hp⟩ (.inr ht2))
       have d2 : decide (e.hi < LH) = true := decide_eq_true ht2
       clear H2' H3' H4' hp hd hn0
       go_wp2
       go_ret
       exact ⟨ret_int HR.out.symm, (by (with_reducible repeat first|exact HX4.out|exact eR _|apply eD|apply eN|apply eA|apply eO|apply eS|apply eC);all_goals first|omega|simp <;> omega)⟩
      ·have HR : Hid (R = 0) := lh (H4'.out ⟨hn0, hp⟩ (fun h => h.elim ht1 ht2))
       have d2 : decide (e.hi < LH) = false := decide_eq_false ht2
       clear H2' H3' H4' hp hd hn0
       go_wp2
       go_ret
       exact ⟨ret_int HR.out.symm, (by (with_reducible repeat first|exact HX4.out|exact eR _|apply eD|apply eN|apply eA|apply eO|apply eS|apply eC);all_goals first|omega|simp <;> omega)⟩
    ·have hd : decide (e.prev = LD) = false := decide_eq_false hp
     rw [hd] at hneq
     have HR : Hid (R = 310) := lh (H2'.out (fun h => hp h.2))
     clear H2' H3' H4' hp hd hn0
     go_wp2
     go_ret
     exact ⟨ret_int HR.out.symm, (by (with_reducible repeat first|exact HX4.out|exact eR _|apply eD|apply eN|apply eA|apply eO|apply eS|apply eC);all_goals first|omega|simp <;> omega)⟩
   ·have HR : Hid (R = 310) := lh (H2'.out (fun h => hn0 h.1))
    have hn : ¬ e.num = 1 := by simpa using hn0
    clear H2' H3' H4' hn0
    go_wp2
    go_ret
    exact ⟨ret_int HR.out.symm, (by (with_reducible repeat first|exact HX4.out|exact eR _|apply eD|apply eN|apply eA|apply eO|apply eS|apply eC);all_goals first|omega|simp <;> omega)⟩
  ·obtain ⟨h1, h2, h3⟩ := last_some (l := l) (by omega)
   have HOk := lh (hc.ok _ (List.getElem_mem (by omega : l.length - 1 < l.length)))
   obtain ⟨b, off, rfl, hb, kr⟩ := epr_at hc.rd (l.length - 1) (by omega)
   have HK : Hid (RKonst w) := lh hk
   rw [h1] at hneq H2' H3' H4'
   rw [h2, h3] at H3' H4'
   generalize l[l.length - 1]'(by omega) = z at *
   have hfz := ep_fits z
   clear h1 h2 h3 hc hk
   obtain ⟨n, hn⟩ : ∃ n, l.length = n + 1 := ⟨l.length - 1, by omega⟩
   rw [hn, Nat.add_sub_cancel] at kr
   rw [hn] at hl H2' H3' H4' ⊢
   clear hn h0
   have HN := lh (fun (W : World) (hx : Ext w W) => rename_any z W HOk.out.1 HOk.out.2.1 (HOk.out.2.2.on hx) (RowAt.ext HK.out hx))
   generalize epName z = LD at *
   have HKR := lh kr
   clear kr
   go_enter Tryz.func39, Tryz.ntmps39
   go_upto_region 1 with (fail)
   refine wp_world (fun W => Ext w W ∧ RowAt W w.heap.size (epC e)) ⟨(by (with_reducible repeat first|exact eR _|apply eD|apply eN|apply eA|apply eO|apply eS|apply eC);all_goals first|omega|simp <;> omega), RowAt.new _ _ _⟩ ?_
   obtain ⟨B, hB⟩ : ∃ B, w.heap.size = B := ⟨_, rfl⟩
   rw [hB]
   rintro W1 ⟨x1, u0⟩
   have HX1 := lh x1
   have HR0 := lh u0
   have hl0 := u0.lt
   have k0 : rowOf W1 B 0 38 = some (epC e) := u0.all rfl (by omega)
   clear x1 u0
   go_upto_region 7 with (go_at_call 14; refine (HVl.out _ (by first | exact HX1.out | exact HX1.out.onto _)).mono ?_; rintro e w' ⟨rfl, hxl⟩; obtain ⟨xl, rfl⟩ := hxl.asLater; clear hxl)
   obtain ⟨g, hg⟩ : ∃ g, W1.heap.size + xl.n = g := ⟨_, rfl⟩
   have hgB : B < g := by omega
   refine wp_world (fun W => Ext w W ∧ RowAt W B (epC e) ∧ RowAt W g (cells8 (zeros32 16)) ∧ RowAt W (g + 1) (pdC 0 0)) ⟨(by (with_reducible repeat first|exact HX1.out|exact eR _|apply eD|apply eN|apply eA|apply eO|apply eS|apply eC);all_goals first|omega|simp <;> omega), ((HR0.out.later xl).alloc _).alloc _, ?_, RowAt.newAt (by simp [later_size, hg])⟩ ?_
   ·have z : RowAt ((later W1 xl).alloc (.cells (cells8 (zeros32 16)) 23)) g (cells8 (zeros32 16)) := RowAt.newAt (by rw [later_size, hg])
    exact z.alloc _
   rw [hg]
   rintro W4 ⟨x4, u0, u1, u2⟩
   have HX4 := lh x4
   have HR04 := lh u0
   have HR14 := lh u1
   have HR24 := lh u2
   have hl24 := u2.lt
   have hs4 := x4.size
   have kz : rowOf W4 b (off + n * 38) 38 = some (epC z) := (rowOf_congr (fun i _ => x4.cell (p := ⟨b, off + n * 38 + i, none⟩) hb)).trans HKR.out
   have hb4 : b < W4.heap.size := by omega
   clear x4 u0 u1 u2 HX1 HR0 k0 HVl hg
   go_wp2_with (go_at_call 16; refine (show Hid _ from ?_).out)
   refine lh ?_
   refine (HN.out W4 HX4.out).mono ?_
   rintro e w' ⟨rfl, hxl⟩; obtain ⟨xl, rfl⟩ := hxl.asLater; clear hxl
   have m0 : roomOf (later W4 xl) g 0 16 = true := by rw [(HR14.out.later xl).room]; simp [cells8, zeros32]
   go_upto_region 8 with (fail)
   refine wp_world (fun W => Ext w W ∧ RowAt W B (epC e) ∧ RowAt W g (dgC LD) ∧ RowAt W (g + 1) (pdC 0 0) ∧ rowOf W b (off + n * 38) 38 = some (epC z)) ⟨(by (with_reducible repeat first|exact HX4.out|exact eR _|apply eD|apply eN|apply eA|apply eO|apply eS|apply eC);all_goals first|omega|simp <;> omega), RowAt.others (HR04.out.later _) (by omega) _ _, ?_, RowAt.others (HR24.out.later _) (by omega) _ _, ?_⟩ ?_
   ·have h : (dgC LD).size = (cells8 (zeros32 16)).size := rfl
    exact RowAt.store (HR14.out.later xl) h
   ·refine (rowOf_congr (fun i _ => ?_)).trans kz
    exact (Below.cell (Ext.setCells (a := w) (HX4.out.onto xl) (by omega) _ _) hb).trans (HX4.out.cell (p := ⟨b, off + n * 38 + i, none⟩) hb).symm
   rintro W5 ⟨x5, u0, u1, u2, kz5⟩
   have HX5 := lh x5
   have kp := epr_pd kz5
   have hs5 := x5.size
   have hl5 := u2.lt
   have hb5 : b < W5.heap.size := by omega
   have m1 : roomOf W5 (g + 1) 0 2 = true := by rw [u2.room]; rfl
   have HR05 := lh u0
   have HR15 := lh u1
   have HR25 := lh u2
   generalize z.lo = LL at *
   generalize z.hi = LH at *
   clear x5 u0 u1 u2 kz5 kz HX4 HR04 HR14 HR24 HN HKR HOk m0
   go_upto_region 9 with (fail)
   refine wp_world (fun W => Ext w W ∧ RowAt W B (epC e) ∧ RowAt W g (dgC LD) ∧ RowAt W (g + 1) (pdC LL LH)) ⟨(by (with_reducible repeat first|exact HX5.out|exact eR _|apply eD|apply eN|apply eA|apply eO|apply eS|apply eC);all_goals first|omega|simp <;> omega), RowAt.others HR05.out (by omega) _ _, RowAt.others HR15.out (by omega) _ _, RowAt.store HR25.out rfl⟩ ?_
   rintro W4 ⟨x4, u0, u1, u2⟩
   clear kp m1
   have HX4 := lh x4
   have q0 : W4.cell? ⟨B, 0, none⟩ = some (.int .i64 e.num) := (u0.cell 0).trans (ep_g0 e)
   have q17 : W4.cell? ⟨B, 17, none⟩ = some (.int .i64 e.lo) := (u0.cell 17).trans (ep_g17 e)
   have q18 : W4.cell? ⟨B, 18, none⟩ = some (.int .i64 e.hi) := (u0.cell 18).trans (ep_g18 e)
   have k1 : rowOf W4 B 1 16 = some (dgC e.prev) := by rw [u0.row, if_neg (by omega), ep_prev]
   have k2 : rowOf W4 g 0 16 = some (dgC LD) := u1.all rfl (by omega)
   have q3 : W4.cell? ⟨g + 1, 0, none⟩ = some (.int .i64 LL) := u2.cell 0
   have q4 : W4.cell? ⟨g + 1, 1, none⟩ = some (.int .i64 LH) := u2.cell 1
   have hg2 := u2.lt
   clear x4 u0 u1 u2
   by_cases hn0 : e.num = ((n + 1 : Nat) : Int) + 1
   ·have hn : e.num = (n : Int) + 1 + 1 := by simpa using hn0
    by_cases hp : e.prev = LD
    ·have hd : decide (e.prev = LD) = true := decide_eq_true hp
     rw [hd] at hneq
     by_cases ht1 : e.lo < LL
     ·have HR : Hid (R = 9) := lh (H3'.out ⟨hn0, hp⟩ (.inl ht1))
      have d1 : decide (e.lo < LL) = true := decide_eq_true ht1
      clear H2' H3' H4' hp hd hn0
      go_wp2
      go_ret
      exact ⟨ret_int HR.out.symm, (by (with_reducible repeat first|exact HX4.out|exact eR _|apply eD|apply eN|apply eA|apply eO|apply eS|apply eC);all_goals first|omega|simp <;> omega)⟩
     ·have d1 : decide (e.lo < LL) = false := decide_eq_false ht1
      by_cases ht2 : e.hi < LH
      ·have HR : Hid (R = 9) := lh (H3'.out ⟨hn0, hp⟩ (.inr ht2))
       have d2 : decide (e.hi < LH) = true := decide_eq_true ht2
       clear H2' H3' H4' hp hd hn0
       go_wp2
       go_ret
       exact ⟨ret_int HR.out.symm, (by (with_reducible repeat first|exact HX4.out|exact eR _|apply eD|apply eN|apply eA|apply eO|apply eS|apply eC);all_goals first|omega|simp <;> omega)⟩
      ·have HR : Hid (R = 0) := lh (H4'.out ⟨hn0, hp⟩ (fun h => h.elim ht1 ht2))
       have d2 : decide (e.hi < LH) = false := decide_eq_false ht2
       clear H2' H3' H4' hp hd hn0
       go_wp2
       go_ret
       exact ⟨ret_int HR.out.symm, (by (with_reducible repeat first|exact HX4.out|exact eR _|apply eD|apply eN|apply eA|apply eO|apply eS|apply eC);all_goals first|omega|simp <;> omega)⟩
    ·have hd : decide (e.prev = LD) = false := decide_eq_false hp
     rw [hd] at hneq
     have HR : Hid (R = 310) := lh (H2'.out (fun h => hp h.2))
     clear H2' H3' H4' hp hd hn0
     go_wp2
     go_ret
     exact ⟨ret_int HR.out.symm, (by (with_reducible repeat first|exact HX4.out|exact eR _|apply eD|apply eN|apply eA|apply eO|apply eS|apply eC);all_goals first|omega|simp <;> omega)⟩
   ·have HR : Hid (R = 310) := lh (H2'.out (fun h => hn0 h.1))
    have hn : ¬ e.num = (n : Int) + 1 + 1 := by simpa using hn0
    clear H2' H3' H4' hn0
    go_wp2
    go_ret
    exact ⟨ret_int HR.out.symm, (by (with_reducible repeat first|exact HX4.out|exact eR _|apply eD|apply eN|apply eA|apply eO|apply eS|apply eC);all_goals first|omega|simp <;> omega)⟩
end
end Go.Proofs.YtpojnhikgjcgmaaGreatDoor

namespace Go.Proofs.YtpojnhikgjcgmaaGreatDoor
open Go.RowKit Go.Shelf Go.Maps
open Go.Proofs
theorem eq_dg2 {a b : List Int} (ha : DgOk a) (hb : DgOk b) (W : World) : (binOp .eql 23 (.agg (dgC a)) (.agg (dgC b))).run Tryz.prog W = .ok (.bool (decide (a = b))) W := by
 have h := run_equalIn_bytes (P := Tryz.prog) W 9998 23 5 16 (by kernel_rfl) (by kernel_rfl) u8_size (u8s a) (u8s b) (by simp [u8s, ha.len]) (by simp [u8s, hb.len])
 rw [u8s_cells ha.byt, u8s_cells hb.byt, u8s_beq ha.byt hb.byt] at h
 rw [dgC_cells ha.len, dgC_cells hb.len, run_eql_struct, h]
 rfl
def fewEp (l : List Ep) (n : Int) : Bool := l.all shortEp && decide ((l.length : Int) ≤ n)
structure EpsIn (w : World) (A : Option Addr) (l : List Ep) : Prop where
 rd : Reads 38 epL w w.heap.size A l
 ok : ∀ e ∈ l, EpOk e ∧ EpAt w e
theorem EpsIn.on {w w' : World} {A : Option Addr} {l : List Ep} (h : EpsIn w A l) (hx : Ext w w') : EpsIn w' A l := ⟨h.rd.on hx, fun e he => ⟨(h.ok e he).1, (h.ok e he).2.on hx⟩⟩
theorem fewEp_is {l : List Ep} {n : Int} (h : fewEp l n = true) : (l.length : Int) ≤ n ∧ ∀ e ∈ l, EpShort e := by
 unfold fewEp at h
 simp only [Bool.and_eq_true, decide_eq_true_eq, List.all_eq_true] at h
 exact ⟨h.2, fun e he => shortEp_is (h.1 e he)⟩
theorem EpsIn.ch {w : World} {A : Option Addr} {l : List Ep} (h : EpsIn w A l) (hs : ∀ e ∈ l, EpShort e) : ChAt w A l := ⟨h.rd, fun e he => ⟨(h.ok e he).1, hs e he, (h.ok e he).2⟩⟩
theorem rfew31_any (A : Option Addr) (c : Nat) (l : List Ep) (n : Int) (w : World) (hl : l.length ≤ 9223372036854775807) (hc : EpsIn w A l) :
  Calls Tryz.prog 23 #[.slice A l.length c, .int .i64 n] w fun e w' => e = .returned (.bool (fewEp l n)) ∧ Ext w w' := by
 have HC := lh hc
 have HE := lh (fun (e : Ep) (he : e ∈ l) (W : World) (hx : Ext w W) => rshortEp_any e W ((hc.ok e he).2.on hx) (hc.ok e he).1.pul (hc.ok e he).1.rvl (fun p hp => ((hc.ok e he).1.pu p hp).2))
 clear hc
 obtain ⟨R, hR⟩ : ∃ R, fewEp l n = R := ⟨_, rfl⟩
 have HF := lh hR
 rw [hR]
 clear hR
 go_enter Tryz.func23, Tryz.ntmps23
 go_wp2
 go_loopw [5] (fun i wr => ∃ k : Nat, k ≤ l.length ∧ i = .int .i64 k ∧ Hid ((l.take k).all shortEp = true) ∧ Hid (Ext w wr)) (fun i _ => l.length - (intOf i).toNat)
 case atStart => exact ⟨0, Nat.zero_le _, rfl, lh rfl, lh (eR _)⟩
 case round =>
  obtain ⟨k, hk, rfl, HB, HX⟩ := hrel
  by_cases hlt : k < l.length
  ·obtain ⟨b, off, rfl, hb, kr⟩ := epr_at (HC.out.rd.on HX.out) k hlt
   have HEk := lh (HE.out l[k] (List.getElem_mem hlt))
   have HS : Hid ((l.take (k + 1)).all shortEp = shortEp l[k]) := lh (by rw [List.take_succ_eq_append_getElem hlt, List.all_append, HB.out]; simp)
   have HA : Hid (shortEp l[k] = false → l.all shortEp = false) := lh (fun h => all_no shortEp l k hlt h)
   generalize l[k] = e at *
   have hfe := ep_fits e
   cases hs : shortEp e with
   | false =>
    rw [hs] at HEk HA
    have HF2 : Hid (R = false) := lh (by rw [← HF.out]; unfold fewEp; rw [HA.out rfl]; rfl)
    clear HS hs HA HE HC
    go_wp2_with (go_at_call 10; refine (HEk.out _ HX.out).mono ?_; rintro e w' ⟨rfl, hxl⟩; obtain ⟨xl, rfl⟩ := hxl.asLater; clear hxl)
    go_ret
    exact ⟨ret_bool HF2.out.symm, (by (with_reducible repeat first|exact HX.out|exact eR _|apply eD|apply eN|apply eA|apply eO|apply eS|apply eC);all_goals first|omega|simp <;> omega)⟩
   | true =>
    rw [hs] at HEk HS
    clear hs HA
    go_wp2_with (go_at_call 10; refine (HEk.out _ HX.out).mono ?_; rintro e w' ⟨rfl, hxl⟩; obtain ⟨xl, rfl⟩ := hxl.asLater; clear hxl)
    go_roundw
    case rel => exact ⟨k + 1, by omega, by go_num, HS, lh (by (with_reducible repeat first|exact HX.out|exact eR _|apply eD|apply eN|apply eA|apply eO|apply eS|apply eC);all_goals first|omega|simp <;> omega)⟩
    case measure => simp [intOf]; omega
  ·have e : k = l.length := by omega
   subst e
   rw [List.take_length] at HB
   have HF2 : Hid (R = decide ((l.length : Int) ≤ n)) := lh (by rw [← HF.out]; unfold fewEp; rw [HB.out, Bool.true_and])
   go_wp2
   go_ret
   exact ⟨ret_bool HF2.out.symm, HX.out⟩
end Go.Proofs.YtpojnhikgjcgmaaGreatDoor

namespace Go.Proofs.YtpojnhikgjcgmaaGreatDoor
open Go.ChangeShapes Go.WideShapes Go.ChangeAt Go.RowKit Go.Joins Go.Deep
open Go.Proofs
section
variable {H : Type} {enc : TypeId × Value → H} {w : World} {base : Nat} {spare : Nat → Bool} {held : Bool}
theorem open_eps {r : Reach} {b0 : Nat} {v : Value} {d : DataW H} {p : List MemPlace} (hv : Value.okWide Tryz.prog w r b0 45 v) (h : DataW.Trod enc Tryz.prog w 0 (fun _ => true) held 45 v d p) :
  ∃ (A : Option Addr) (c : Nat) (l : List Ep), v = .slice A l.length c ∧ l.length ≤ 9223372036854775807 ∧ EpsIn w A l := by
 unfold Value.okWide at hv
 rw [Tryz.underlying45] at hv
 simp only [] at hv
 obtain ⟨fuel, hf⟩ := h
 cases v with
 | slice A n c =>
  obtain ⟨A', c', l, e, h1, h2, h3, h4, _⟩ := slice_of_trod epE noEp (EpIn w) Tryz.underlying45 (by kernel_rfl) (by omega) (fun h => ep_of_trod h) hf
  injection e with e1 e2 e3
  subst e1 e2 e3
  exact ⟨A, c, l, rfl, by unfold maxLen at h2; omega, ⟨h3, fun e he => ep_ok (h4 e he)⟩⟩
 | _ =>
  exfalso
  unfold Cell.okWide at hv
  rw [Tryz.underlying45] at hv
  simp only [] at hv
  unfold Cell.ok at hv
  rw [Tryz.underlying45] at hv
  simp at hv
end
end Go.Proofs.YtpojnhikgjcgmaaGreatDoor