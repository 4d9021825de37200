
import Derived.WalkKit
import Derived.WalkSpells
import Derived.WalkLawsBesides
import Derived.Deep.QuietTactic
import Derived.BigQuiet
import Derived.Test.YtpfhmcdcmepfdaaGreatDoorUOy
set_option maxRecDepth 100000
set_option maxHeartbeats 64000000
set_option linter.unusedVariables false
set_option linter.unusedSimpArgs false
namespace Go.Proofs.YtpfhmcdcmepfdaaGreatDoor
open Go.RowKit Go.Shelf
open Go.Proofs
theorem flat_snoc {α β : Type} (f : α → List β) (l : List α) (k : Nat) (h : k < l.length) : (l.take (k + 1)).flatMap f = (l.take k).flatMap f ++ f l[k] := by
 rw [List.take_succ_eq_append_getElem h, List.flatMap_append]
 simp
theorem map_snoc {α β : Type} (f : α → β) (l : List α) (k : Nat) (h : k < l.length) : (l.take (k + 1)).map f = (l.take k).map f ++ [f l[k]] := by
 rw [List.take_succ_eq_append_getElem h, List.map_append]
 rfl
theorem owns_fresh {α : Type} {e : TypeId} {size : Nat} {enc : α → List Value} (E : EncTy enc size) (l : List α) (W : World) (cs : Array Value) (b base : Nat) (hb : b = W.heap.size) (hbase : base ≤ W.heap.size) (h : cs.toList = l.flatMap enc) (hl : l.length ≤ 1000000) : Owns e size enc base (W.alloc (.cells cs e)) (some ⟨b, 0, none⟩) l.length l := by
 subst hb
 refine Owns.mk E hbase (heap_alloc_new W _) (Nat.le_refl _) (by unfold maxLen; omega) ?_ ?_
 ·have := congrArg List.length h
  rw [E.flat_len] at this
  simpa using this
 ·rw [h, List.take_of_length_le]
  rw [E.flat_len]
  exact Nat.le_refl _
def EPOut (e : Ep) (base : Nat) (r : Ending) (w' : World) : Prop := ∃ A c l', r = .returned (.slice A l'.length c) ∧ Hid (l' = epParts e) ∧ OwnsStr base w' A c l'
theorem eparts_any (e : Ep) (w : World) (hok : EpOk e) (hs : EpShort e) (ha : EpAt w e) :
  Calls Tryz.prog 117 #[.agg (epC e)] w fun r w' => EPOut e w.heap.size r w' ∧ Ext w w' := by
 have HI0 := lh (fun (A : Option Addr) (c : Nat) (W : World) (hr : ReadsInt W W.heap.size A [e.num, e.lo, e.hi, e.serial, (e.pu.length : Int)]) => sints_ok A c [e.num, e.lo, e.hi, e.serial, (e.pu.length : Int)] W (by show 5 ≤ 100000; decide) hr (fun x hx => by
  have h1 := hok.ints x
  have h2 := hs.pu
  simp only [List.mem_cons, List.not_mem_nil, or_false] at hx h1
  rcases hx with rfl | rfl | rfl | rfl | rfl
  ·exact h1 (.inl rfl)
  ·exact h1 (.inr (.inl rfl))
  ·exact h1 (.inr (.inr (.inl rfl)))
  ·exact h1 (.inr (.inr (.inr rfl)))
  ·unfold i64; omega))
 have HIp := lh (fun (k : Nat) (h : k < e.pu.length) (A : Option Addr) (c : Nat) (W : World) (hr : ReadsInt W W.heap.size A [e.pu[k].kind, oneB e.pu[k].soft]) => sints_ok A c [e.pu[k].kind, oneB e.pu[k].soft] W (by show 2 ≤ 100000; decide) hr (fun x hx => by
  have h1 := (hok.pu _ (List.getElem_mem h)).1
  simp only [List.mem_cons, List.not_mem_nil, or_false] at hx
  rcases hx with rfl | rfl
  ·exact h1
  ·unfold i64 oneB; split <;> omega))
 have H16 := lh hok.prev.len
 have HRv := lh (fun (k : Nat) (h : k < e.rv.length) => (hok.rv _ (List.getElem_mem h)).len)
 have HAp := lh ha.pu
 have HAr := lh ha.rv
 have hpl := hs.pu
 have hrl := hs.rv
 have HE : Hid (epParts e = [strOfNums (encInts [e.num, e.lo, e.hi, e.serial, (e.pu.length : Int)]), strOfNums e.prev] ++ e.pu.flatMap puParts ++ e.rv.map strOfNums) := lh rfl
 have hft := ep_fits e
 clear hok hs ha
 go_enter Tryz.func117, Tryz.ntmps117
 go_wp2
 refine wp_world (fun W => Ext w W ∧ RowAt W w.heap.size (epC e) ∧ W.heap.size = w.heap.size + 1) ⟨(by (with_reducible repeat first|exact eR _|apply eD|apply eN|apply eA|apply eO|apply eS|apply eC);all_goals first|omega|simp <;> omega), RowAt.new _ _ _, by simp⟩ ?_
 obtain ⟨B, hB⟩ : ∃ B, w.heap.size = B := ⟨_, rfl⟩
 rw [hB]
 rintro W1 ⟨x1, uB, hs1⟩
 have HX1 := lh x1
 have hlu := uB.lt
 have qB_0 : W1.cell? ⟨B, 0, none⟩ = some (.int .i64 e.num) := (uB.cell 0).trans (ep_g0 e)
 have qB_17 : W1.cell? ⟨B, 17, none⟩ = some (.int .i64 e.lo) := (uB.cell 17).trans (ep_g17 e)
 have qB_18 : W1.cell? ⟨B, 18, none⟩ = some (.int .i64 e.hi) := (uB.cell 18).trans (ep_g18 e)
 have qB_21 : W1.cell? ⟨B, 21, none⟩ = some (.int .i64 e.serial) := (uB.cell 21).trans (ep_g21 e)
 have qB_19 : W1.cell? ⟨B, 19, none⟩ = some (.slice e.PA e.pu.length e.pc) := (uB.cell 19).trans (ep_g19 e)
 have HQ20 : Hid (W1.cell? ⟨B, 20, none⟩ = some (.slice e.RA e.rv.length e.rc)) := lh ((uB.cell 20).trans (ep_g20 e))
 have HQ19 := lh qB_19
 have rdB_1 := lh (arr_reads ((uB.row 1 16).trans (by rw [if_neg (by omega), ep_s1_16])) H16.out hlu)
 clear x1 uB
 generalize e.PA = PA at *
 generalize e.RA = RA at *
 refine wp_region_soft 18 (softsL [.eq (.pointer (some ⟨B, 0, none⟩)), .eq (.int .i64 e.num), .eq (.pointer (some ⟨B, 17, none⟩)), .eq (.pointer (some ⟨B, 17, none⟩)), .eq (.int .i64 e.lo), .eq (.pointer (some ⟨B, 17, none⟩)), .eq (.pointer (some ⟨B, 18, none⟩)), .eq (.int .i64 e.hi), .eq (.pointer (some ⟨B, 21, none⟩)), .eq (.int .i64 e.serial), .eq (.pointer (some ⟨B, 19, none⟩)), .eq (.slice PA e.pu.length e.pc), .eq (.int .i64 e.pu.length), readI ([e.num, e.lo, e.hi, e.serial, (e.pu.length : Int)]), .eq (.string (strOfNums (encInts [e.num, e.lo, e.hi, e.serial, (e.pu.length : Int)]))), .eq (.pointer (some ⟨B, 1, none⟩)), .eq (.slice (some ⟨B, 1, none⟩) 16 16), .eq (.string (strOfNums e.prev))]) (by kernel_rfl) (by kernel_rfl) (lt_cons ?_ (lt_cons ?_ (lt_cons ?_ (lt_cons ?_ (lt_cons ?_ (lt_cons ?_ (lt_cons ?_ (lt_cons ?_ (lt_cons ?_ (lt_cons ?_ (lt_cons ?_ (lt_cons ?_ (lt_cons ?_ (lt_cons ?_ (lt_cons ?_ (lt_cons ?_ (lt_cons ?_ (lt_cons ?_ (lt_none))))))))))))))))))) ?_
 any_goals (refine sop rfl fun xs W HW hsW HD Q' HQ => ?_; simp only [fillAt, dstOf, lc0, lcs, obs, Act.put, lsa, lsz, lss, nz, Nat.reduceAdd] at HQ ⊢)
 ·
  go_wp2
  exact HQ.out _ _ (eR _) rfl
 ·
  have hd0 : xs 0 = .pointer (some ⟨B, 0, none⟩) := (HD.out 0 (dk (by kernel_rfl)))
  generalize xs 0 = x0 at hd0 HQ ⊢; subst hd0
  have hc : W.cell? ⟨B, 0, none⟩ = some (.int .i64 e.num) := (HW.out.cell (p := ⟨B, 0, none⟩) (by show B < _; omega)).trans qB_0
  go_wp2
  exact HQ.out _ _ (eR _) rfl
 ·
  go_wp2
  exact HQ.out _ _ (eR _) rfl
 ·
  have hd2 : xs 2 = .pointer (some ⟨B, 17, none⟩) := (HD.out 2 (dk (by kernel_rfl)))
  generalize xs 2 = x2 at hd2 HQ ⊢; subst hd2
  go_wp2
  exact HQ.out _ _ (eR _) rfl
 ·
  have hd3 : xs 3 = .pointer (some ⟨B, 17, none⟩) := (HD.out 3 (dk (by kernel_rfl)))
  generalize xs 3 = x3 at hd3 HQ ⊢; subst hd3
  have hc : W.cell? ⟨B, 17, none⟩ = some (.int .i64 e.lo) := (HW.out.cell (p := ⟨B, 17, none⟩) (by show B < _; omega)).trans qB_17
  go_wp2
  exact HQ.out _ _ (eR _) rfl
 ·
  go_wp2
  exact HQ.out _ _ (eR _) rfl
 ·
  have hd5 : xs 5 = .pointer (some ⟨B, 17, none⟩) := (HD.out 5 (dk (by kernel_rfl)))
  generalize xs 5 = x5 at hd5 HQ ⊢; subst hd5
  go_wp2
  exact HQ.out _ _ (eR _) rfl
 ·
  have hd6 : xs 6 = .pointer (some ⟨B, 18, none⟩) := (HD.out 6 (dk (by kernel_rfl)))
  generalize xs 6 = x6 at hd6 HQ ⊢; subst hd6
  have hc : W.cell? ⟨B, 18, none⟩ = some (.int .i64 e.hi) := (HW.out.cell (p := ⟨B, 18, none⟩) (by show B < _; omega)).trans qB_18
  go_wp2
  exact HQ.out _ _ (eR _) rfl
 ·
  go_wp2
  exact HQ.out _ _ (eR _) rfl
 ·
  have hd8 : xs 8 = .pointer (some ⟨B, 21, none⟩) := (HD.out 8 (dk (by kernel_rfl)))
  generalize xs 8 = x8 at hd8 HQ ⊢; subst hd8
  have hc : W.cell? ⟨B, 21, none⟩ = some (.int .i64 e.serial) := (HW.out.cell (p := ⟨B, 21, none⟩) (by show B < _; omega)).trans qB_21
  go_wp2
  exact HQ.out _ _ (eR _) rfl
 ·
  go_wp2
  exact HQ.out _ _ (eR _) rfl
 ·
  have hd10 : xs 10 = .pointer (some ⟨B, 19, none⟩) := (HD.out 10 (dk (by kernel_rfl)))
  generalize xs 10 = x10 at hd10 HQ ⊢; subst hd10
  have hc : W.cell? ⟨B, 19, none⟩ = some (.slice PA e.pu.length e.pc) := (HW.out.cell (p := ⟨B, 19, none⟩) (by show B < _; omega)).trans qB_19
  go_wp2
  exact HQ.out _ _ (eR _) rfl
 ·
  have hd11 : xs 11 = .slice PA e.pu.length e.pc := (HD.out 11 (dk (by kernel_rfl)))
  generalize xs 11 = x11 at hd11 HQ ⊢; subst hd11
  go_wp2
  exact HQ.out _ _ (eR _) rfl
 ·
  have hd1 : xs 1 = .int .i64 e.num := (HD.out 1 (dk (by kernel_rfl)))
  generalize xs 1 = x1 at hd1 HQ ⊢; subst hd1
  have hd4 : xs 4 = .int .i64 e.lo := (HD.out 4 (dk (by kernel_rfl)))
  generalize xs 4 = x4 at hd4 HQ ⊢; subst hd4
  have hd7 : xs 7 = .int .i64 e.hi := (HD.out 7 (dk (by kernel_rfl)))
  generalize xs 7 = x7 at hd7 HQ ⊢; subst hd7
  have hd9 : xs 9 = .int .i64 e.serial := (HD.out 9 (dk (by kernel_rfl)))
  generalize xs 9 = x9 at hd9 HQ ⊢; subst hd9
  have hd12 : xs 12 = .int .i64 e.pu.length := (HD.out 12 (dk (by kernel_rfl)))
  generalize xs 12 = x12 at hd12 HQ ⊢; subst hd12
  go_wp2
  exact HQ.out _ _ ((eR _).alloc _) ⟨_, _, rfl, reads_fresh zE ([e.num, e.lo, e.hi, e.serial, (e.pu.length : Int)]) W _ _ rfl⟩
 ·
  obtain ⟨A13, c13, h13, hr13⟩ : (readI ([e.num, e.lo, e.hi, e.serial, (e.pu.length : Int)])).S (xs 13) W := (HD.out 13 (dk (by kernel_rfl)))
  generalize xs 13 = x13 at h13 HQ ⊢; subst h13
  go_wp2_with (go_at_call 156; refine (HI0.out A13 c13 _ hr13).mono ?_; rintro e w1 ⟨rfl, hx⟩)
  exact HQ.out _ _ hx rfl
 ·
  go_wp2
  exact HQ.out _ _ (eR _) rfl
 ·
  have hd15 : xs 15 = .pointer (some ⟨B, 1, none⟩) := (HD.out 15 (dk (by kernel_rfl)))
  generalize xs 15 = x15 at hd15 HQ ⊢; subst hd15
  go_wp2
  exact HQ.out _ _ (eR _) rfl
 ·
  have hd16 : xs 16 = .slice (some ⟨B, 1, none⟩) 16 16 := (HD.out 16 (dk (by kernel_rfl)))
  generalize xs 16 = x16 at hd16 HQ ⊢; subst hd16
  have hcv := conv_bytes 16 (rdB_1.out.on HW.out) (by rw [H16.out]; omega)
  rw [H16.out] at hcv
  go_wp2
  exact HQ.out _ _ (eR _) rfl
 intro xs W3 hW hS
 have h14 : xs 14 = .string (strOfNums (encInts [e.num, e.lo, e.hi, e.serial, (e.pu.length : Int)])) := hS 14 (by omega)
 have h17 : xs 17 = .string (strOfNums e.prev) := hS 17 (by omega)
 simp only [fillAt, dstOf, lc0, lcs, obs, Act.put, lsa, lsz, lss, nz, Nat.reduceAdd, List.drop_succ_cons, List.drop_zero, List.drop_nil]
 generalize xs 14 = x14 at *; subst h14
 generalize xs 17 = x17 at *; subst h17
 have HW3 := lh (HX1.out.trans hW)
 have HWW3 := lh hW
 clear hS hW qB_0 qB_17 qB_18 qB_21 qB_19
 have hls3 := HWW3.out.size
 generalize strOfNums (encInts [e.num, e.lo, e.hi, e.serial, (e.pu.length : Int)]) = T0 at *
 generalize strOfNums e.prev = T1 at *
 go_upto_region 2 with (fail)
 refine wp_world (fun W => Ext W1 W ∧ OwnsStr W1.heap.size W (some ⟨W3.heap.size, 0, none⟩) 2 [T0, T1]) ⟨HWW3.out.alloc _, owns_fresh (e := 9) sE [T0, T1] W3 _ _ _ rfl hls3 rfl (by simp)⟩ ?_
 generalize W3.heap.size = g3
 rintro W4 ⟨x4, o4⟩
 have HX4 := lh x4
 have HO4 := lh o4
 have hs4 := x4.size
 have qB_19 : W4.cell? ⟨B, 19, none⟩ = some (.slice PA e.pu.length e.pc) := (x4.cell (p := ⟨B, 19, none⟩) hlu).trans HQ19.out
 clear x4 o4 HI0 rdB_1 HW3 HWW3
 go_wp2
 go_loopw [3, 31] (fun o i wr => ∃ (A2 : Option Addr) (c2 : Nat) (out : List ByteArray) (k : Nat), o = .slice A2 out.length c2 ∧ i = .int .i64 k ∧ k ≤ e.pu.length ∧ out.length ≤ 2 + 2 * k ∧ Hid (out = [T0, T1] ++ (e.pu.take k).flatMap puParts) ∧ Hid (OwnsStr W1.heap.size wr A2 c2 out) ∧ Hid (Ext W1 wr)) (fun _ i _ => e.pu.length - (intOf i).toNat)
 case atStart => exact ⟨_, 2, [T0, T1], 0, rfl, rfl, Nat.zero_le _, Nat.le_refl _, lh (by simp), HO4, HX4⟩
 case round =>
  obtain ⟨A2, c2, out, k, rfl, rfl, hk, hol, HOu, HOw, HX⟩ := hrel
  have hsz := HX.out.size
  by_cases hlt : k < e.pu.length
  ·obtain ⟨b, off, rfl, hb, hrow⟩ := reads_row puE (HAp.out.ext (HX1.out.trans HX.out) (Nat.le_refl _)) k hlt
   have hb2 : b < wr.heap.size := by omega
   have HI1 := lh (HIp.out k hlt)
   have HN := lh (flat_snoc puParts e.pu k hlt)
   have hft2 := pu_fits e.pu[k]
   change rowOf wr b (off + k * 3) 3 = some (puC e.pu[k]) at hrow
   clear HIp
   generalize e.pu[k] = p at *
   cases hsf : p.soft with
   | true =>
    have e1 : oneB p.soft = 1 := by rw [hsf]; rfl
    have HPP : Hid (puParts p = [strOfNums (encInts [p.kind, 1]), p.what]) := lh (by rw [puParts, e1])
    rw [e1] at HI1
    clear e1
    go_upto_region 8 with (fail)
    refine wp_world (fun W => Ext wr W ∧ RowAt W wr.heap.size (puC p)) ⟨(by (with_reducible repeat first|exact eR _|apply eD|apply eN|apply eA|apply eO|apply eS|apply eC);all_goals first|omega|simp <;> omega), (RowAt.newAt (by simp)).store rfl⟩ ?_
    generalize hg : wr.heap.size = g
    rintro W5 ⟨x5, ug⟩
    have HX5 := lh x5
    have hl5 := ug.lt
    have hs5 := x5.size
    have qg_0 : W5.cell? ⟨g, 0, none⟩ = some (.int .i64 p.kind) := (ug.cell 0).trans (pu_g0 p)
    have qg_1 : W5.cell? ⟨g, 1, none⟩ = some (.string p.what) := (ug.cell 1).trans (pu_g1 p)
    clear ug x5 hrow
    refine wp_region_soft 9 (softsL [.eq (.slice A2 out.length c2), .eq (.pointer (some ⟨g, 0, none⟩)), .eq (.int .i64 p.kind), .eq (.int .i64 1), readI ([p.kind, 1]), .eq (.string (strOfNums (encInts [p.kind, 1]))), .eq (.pointer (some ⟨g, 1, none⟩)), .eq (.string p.what), readS ([strOfNums (encInts [p.kind, 1]), p.what])]) (by kernel_rfl) (by kernel_rfl) (lt_cons ?_ (lt_cons ?_ (lt_cons ?_ (lt_cons ?_ (lt_cons ?_ (lt_cons ?_ (lt_cons ?_ (lt_cons ?_ (lt_cons ?_ (lt_none)))))))))) ?_
    any_goals (refine sop rfl fun xs W HW hsW HD Q' HQ => ?_; simp only [fillAt, dstOf, lc0, lcs, obs, Act.put, lsa, lsz, lss, nz, Nat.reduceAdd] at HQ ⊢)
    ·
     go_wp2
     exact HQ.out _ _ (eR _) rfl
    ·
     go_wp2
     exact HQ.out _ _ (eR _) rfl
    ·
     have hd1 : xs 1 = .pointer (some ⟨g, 0, none⟩) := (HD.out 1 (dk (by kernel_rfl)))
     generalize xs 1 = x1 at hd1 HQ ⊢; subst hd1
     have hc : W.cell? ⟨g, 0, none⟩ = some (.int .i64 p.kind) := (HW.out.cell (p := ⟨g, 0, none⟩) (by show g < _; omega)).trans qg_0
     go_wp2
     exact HQ.out _ _ (eR _) rfl
    ·
     go_wp2
     exact HQ.out _ _ (eR _) rfl
    ·
     have hd2 : xs 2 = .int .i64 p.kind := (HD.out 2 (dk (by kernel_rfl)))
     generalize xs 2 = x2 at hd2 HQ ⊢; subst hd2
     have hd3 : xs 3 = .int .i64 1 := (HD.out 3 (dk (by kernel_rfl)))
     generalize xs 3 = x3 at hd3 HQ ⊢; subst hd3
     go_wp2
     exact HQ.out _ _ ((eR _).alloc _) ⟨_, _, rfl, reads_fresh zE ([p.kind, 1]) W _ _ rfl⟩
    ·
     obtain ⟨A4, c4, h4, hr4⟩ : (readI ([p.kind, 1])).S (xs 4) W := (HD.out 4 (dk (by kernel_rfl)))
     generalize xs 4 = x4 at h4 HQ ⊢; subst h4
     go_wp2_with (go_at_call 156; refine (HI1.out A4 c4 _ hr4).mono ?_; rintro e w1 ⟨rfl, hx⟩)
     exact HQ.out _ _ hx rfl
    ·
     go_wp2
     exact HQ.out _ _ (eR _) rfl
    ·
     have hd6 : xs 6 = .pointer (some ⟨g, 1, none⟩) := (HD.out 6 (dk (by kernel_rfl)))
     generalize xs 6 = x6 at hd6 HQ ⊢; subst hd6
     have hc : W.cell? ⟨g, 1, none⟩ = some (.string p.what) := (HW.out.cell (p := ⟨g, 1, none⟩) (by show g < _; omega)).trans qg_1
     go_wp2
     exact HQ.out _ _ (eR _) rfl
    ·
     have hd5 : xs 5 = .string (strOfNums (encInts [p.kind, 1])) := (HD.out 5 (dk (by kernel_rfl)))
     generalize xs 5 = x5 at hd5 HQ ⊢; subst hd5
     have hd7 : xs 7 = .string p.what := (HD.out 7 (dk (by kernel_rfl)))
     generalize xs 7 = x7 at hd7 HQ ⊢; subst hd7
     go_wp2
     exact HQ.out _ _ ((eR _).alloc _) ⟨_, _, rfl, reads_fresh sE ([strOfNums (encInts [p.kind, 1]), p.what]) W _ _ rfl, fun h => (by cases h)⟩
    intro xs W6 hW hS
    have h0 : xs 0 = .slice A2 out.length c2 := hS 0 (by omega)
    obtain ⟨A8, c8, h8, hr8, hz8⟩ : (readS ([strOfNums (encInts [p.kind, 1]), p.what])).S (xs 8) W6 := hS 8 (by omega)
    simp only [fillAt, dstOf, lc0, lcs, obs, Act.put, lsa, lsz, lss, nz, Nat.reduceAdd, List.drop_succ_cons, List.drop_zero, List.drop_nil]
    generalize xs 0 = x0 at *; subst h0
    generalize xs 8 = x8 at *; subst h8
    have HW6 := lh (HX5.out.trans hW)
    have HWW6 := lh hW
    clear hS hW qg_0 qg_1
    generalize strOfNums (encInts [p.kind, 1]) = T2 at *
    generalize p.what = T3 at *
    have hs6 := HWW6.out.size
    go_wp2_with (at_builtin; refine app_reads strT sE rfl _ _ rfl W1.heap.size _ _ out rfl (HOw.out.ext (by (with_reducible repeat first|exact HW6.out|exact eR _|apply eD|apply eN|apply eA|apply eO|apply eS|apply eC);all_goals first|omega|simp <;> omega)) W6.heap.size _ _ [T2, T3] rfl hr8 hz8 (by first | omega | (simp; omega)) (by first | omega | (simp; omega)) (by first | omega | (simp; omega)) ?_; intro A7 c7 l7 w7 HL HO5 hB hl1 hl2 _; have HO5' := lh HO5; have HB5 := lh hB; clear HO5 hB)
    go_roundw
    case rel => exact ⟨A7, c7, l7, k + 1, rfl, by go_num, by omega, by (try simp at hl1 hl2); omega, lh (by rw [HL.out, HN.out, HOu.out, HPP.out, List.append_assoc]), HO5', lh ((HX.out.trans HW6.out).grown HB5.out (Nat.le_refl _))⟩
    case measure => simp [intOf]; omega
   | false =>
    have e1 : oneB p.soft = 0 := by rw [hsf]; rfl
    have HPP : Hid (puParts p = [strOfNums (encInts [p.kind, 0]), p.what]) := lh (by rw [puParts, e1])
    rw [e1] at HI1
    clear e1
    go_upto_region 8 with (fail)
    refine wp_world (fun W => Ext wr W ∧ RowAt W wr.heap.size (puC p)) ⟨(by (with_reducible repeat first|exact eR _|apply eD|apply eN|apply eA|apply eO|apply eS|apply eC);all_goals first|omega|simp <;> omega), (RowAt.newAt (by simp)).store rfl⟩ ?_
    generalize hg : wr.heap.size = g
    rintro W5 ⟨x5, ug⟩
    have HX5 := lh x5
    have hl5 := ug.lt
    have hs5 := x5.size
    have qg_0 : W5.cell? ⟨g, 0, none⟩ = some (.int .i64 p.kind) := (ug.cell 0).trans (pu_g0 p)
    have qg_1 : W5.cell? ⟨g, 1, none⟩ = some (.string p.what) := (ug.cell 1).trans (pu_g1 p)
    clear ug x5 hrow
    refine wp_region_soft 9 (softsL [.eq (.slice A2 out.length c2), .eq (.pointer (some ⟨g, 0, none⟩)), .eq (.int .i64 p.kind), .eq (.int .i64 0), readI ([p.kind, 0]), .eq (.string (strOfNums (encInts [p.kind, 0]))), .eq (.pointer (some ⟨g, 1, none⟩)), .eq (.string p.what), readS ([strOfNums (encInts [p.kind, 0]), p.what])]) (by kernel_rfl) (by kernel_rfl) (lt_cons ?_ (lt_cons ?_ (lt_cons ?_ (lt_cons ?_ (lt_cons ?_ (lt_cons ?_ (lt_cons ?_ (lt_cons ?_ (lt_cons ?_ (lt_none)))))))))) ?_
    any_goals (refine sop rfl fun xs W HW hsW HD Q' HQ => ?_; simp only [fillAt, dstOf, lc0, lcs, obs, Act.put, lsa, lsz, lss, nz, Nat.reduceAdd] at HQ ⊢)
    ·
     go_wp2
     exact HQ.out _ _ (eR _) rfl
    ·
     go_wp2
     exact HQ.out _ _ (eR _) rfl
    ·
     have hd1 : xs 1 = .pointer (some ⟨g, 0, none⟩) := (HD.out 1 (dk (by kernel_rfl)))
     generalize xs 1 = x1 at hd1 HQ ⊢; subst hd1
     have hc : W.cell? ⟨g, 0, none⟩ = some (.int .i64 p.kind) := (HW.out.cell (p := ⟨g, 0, none⟩) (by show g < _; omega)).trans qg_0
     go_wp2
     exact HQ.out _ _ (eR _) rfl
    ·
     go_wp2
     exact HQ.out _ _ (eR _) rfl
    ·
     have hd2 : xs 2 = .int .i64 p.kind := (HD.out 2 (dk (by kernel_rfl)))
     generalize xs 2 = x2 at hd2 HQ ⊢; subst hd2
     have hd3 : xs 3 = .int .i64 0 := (HD.out 3 (dk (by kernel_rfl)))
     generalize xs 3 = x3 at hd3 HQ ⊢; subst hd3
     go_wp2
     exact HQ.out _ _ ((eR _).alloc _) ⟨_, _, rfl, reads_fresh zE ([p.kind, 0]) W _ _ rfl⟩
    ·
     obtain ⟨A4, c4, h4, hr4⟩ : (readI ([p.kind, 0])).S (xs 4) W := (HD.out 4 (dk (by kernel_rfl)))
     generalize xs 4 = x4 at h4 HQ ⊢; subst h4
     go_wp2_with (go_at_call 156; refine (HI1.out A4 c4 _ hr4).mono ?_; rintro e w1 ⟨rfl, hx⟩)
     exact HQ.out _ _ hx rfl
    ·
     go_wp2
     exact HQ.out _ _ (eR _) rfl
    ·
     have hd6 : xs 6 = .pointer (some ⟨g, 1, none⟩) := (HD.out 6 (dk (by kernel_rfl)))
     generalize xs 6 = x6 at hd6 HQ ⊢; subst hd6
     have hc : W.cell? ⟨g, 1, none⟩ = some (.string p.what) := (HW.out.cell (p := ⟨g, 1, none⟩) (by show g < _; omega)).trans qg_1
     go_wp2
     exact HQ.out _ _ (eR _) rfl
    ·
     have hd5 : xs 5 = .string (strOfNums (encInts [p.kind, 0])) := (HD.out 5 (dk (by kernel_rfl)))
     generalize xs 5 = x5 at hd5 HQ ⊢; subst hd5
     have hd7 : xs 7 = .string p.what := (HD.out 7 (dk (by kernel_rfl)))
     generalize xs 7 = x7 at hd7 HQ ⊢; subst hd7
     go_wp2
     exact HQ.out _ _ ((eR _).alloc _) ⟨_, _, rfl, reads_fresh sE ([strOfNums (encInts [p.kind, 0]), p.what]) W _ _ rfl, fun h => (by cases h)⟩
    intro xs W6 hW hS
    have h0 : xs 0 = .slice A2 out.length c2 := hS 0 (by omega)
    obtain ⟨A8, c8, h8, hr8, hz8⟩ : (readS ([strOfNums (encInts [p.kind, 0]), p.what])).S (xs 8) W6 := hS 8 (by omega)
    simp only [fillAt, dstOf, lc0, lcs, obs, Act.put, lsa, lsz, lss, nz, Nat.reduceAdd, List.drop_succ_cons, List.drop_zero, List.drop_nil]
    generalize xs 0 = x0 at *; subst h0
    generalize xs 8 = x8 at *; subst h8
    have HW6 := lh (HX5.out.trans hW)
    have HWW6 := lh hW
    clear hS hW qg_0 qg_1
    generalize strOfNums (encInts [p.kind, 0]) = T2 at *
    generalize p.what = T3 at *
    have hs6 := HWW6.out.size
    go_wp2_with (at_builtin; refine app_reads strT sE rfl _ _ rfl W1.heap.size _ _ out rfl (HOw.out.ext (by (with_reducible repeat first|exact HW6.out|exact eR _|apply eD|apply eN|apply eA|apply eO|apply eS|apply eC);all_goals first|omega|simp <;> omega)) W6.heap.size _ _ [T2, T3] rfl hr8 hz8 (by first | omega | (simp; omega)) (by first | omega | (simp; omega)) (by first | omega | (simp; omega)) ?_; intro A7 c7 l7 w7 HL HO5 hB hl1 hl2 _; have HO5' := lh HO5; have HB5 := lh hB; clear HO5 hB)
    go_roundw
    case rel => exact ⟨A7, c7, l7, k + 1, rfl, by go_num, by omega, by (try simp at hl1 hl2); omega, lh (by rw [HL.out, HN.out, HOu.out, HPP.out, List.append_assoc]), HO5', lh ((HX.out.trans HW6.out).grown HB5.out (Nat.le_refl _))⟩
    case measure => simp [intOf]; omega
  ·have e1 : k = e.pu.length := by omega
   subst e1
   have HOu' : Hid (out = [T0, T1] ++ e.pu.flatMap puParts) := lh (by rw [HOu.out, List.take_of_length_le (Nat.le_refl _)])
   have q20 : wr.cell? ⟨B, 20, none⟩ = some (.slice RA e.rv.length e.rc) := (HX.out.cell (p := ⟨B, 20, none⟩) hlu).trans HQ20.out
   have hlw : B < wr.heap.size := by omega
   clear HIp HQ19 HOu HQ20 qB_19 hs4
   go_wp2
   generalize hPre : [T0, T1] ++ e.pu.flatMap puParts = pre at *
   have hol2 : out.length ≤ 22 := by omega
   clear hPre hol HO4
   go_loopw [3, 51] (fun o i wr => ∃ (A3 : Option Addr) (c3 : Nat) (ou : List ByteArray) (k : Nat), o = .slice A3 ou.length c3 ∧ i = .int .i64 k ∧ k ≤ e.rv.length ∧ ou.length ≤ 22 + k ∧ Hid (ou = pre ++ (e.rv.take k).map strOfNums) ∧ Hid (OwnsStr W1.heap.size wr A3 c3 ou) ∧ Hid (Ext W1 wr)) (fun _ i _ => e.rv.length - (intOf i).toNat)
   case atStart => exact ⟨A2, c2, out, 0, rfl, rfl, Nat.zero_le _, by omega, lh (by rw [HOu'.out]; simp), HOw, HX⟩
   case round =>
    clear HOu' HOw HX hol2 q20 hlw hsz
    obtain ⟨A3, c3, ou, k, rfl, rfl, hk, hol, HOu, HOw, HX⟩ := hrel
    have hsz := HX.out.size
    by_cases hlt : k < e.rv.length
    ·obtain ⟨b, off, rfl, hb, hrow⟩ := reads_row dgE (HAr.out.ext (HX1.out.trans HX.out) (Nat.le_refl _)) k hlt
     have hb2 : b < wr.heap.size := by omega
     have HN := lh (map_snoc strOfNums e.rv k hlt)
     have H16d := lh (HRv.out k hlt)
     change rowOf wr b (off + k * 16) 16 = some (dgC e.rv[k]) at hrow
     generalize e.rv[k] = d at *
     have hfd : fitsRow 16 (dgC d) = true := by simp [fitsRow, dgC, Value.oneCell']
     go_upto_region 13 with (fail)
     refine wp_world (fun W => Ext wr W ∧ RowAt W wr.heap.size (dgC d)) ⟨(by (with_reducible repeat first|exact eR _|apply eD|apply eN|apply eA|apply eO|apply eS|apply eC);all_goals first|omega|simp <;> omega), (RowAt.newAt (by simp)).store rfl⟩ ?_
     generalize hg : wr.heap.size = g
     rintro W5 ⟨x5, u5⟩
     have HX5 := lh x5
     have hl5 := u5.lt
     have hs5 := x5.size
     have hcv := conv_bytes 16 (arr_reads (u5.all (n := 16) rfl (by omega)) H16d.out hl5) (by rw [H16d.out]; omega)
     rw [H16d.out] at hcv
     clear u5 x5 hrow
     go_wp2_with (at_builtin; refine app_from strT sE rfl _ _ rfl W1.heap.size _ _ ou rfl (HOw.out.ext (by (with_reducible repeat first|exact HX5.out|exact eR _|apply eD|apply eN|apply eA|apply eO|apply eS|apply eC);all_goals first|omega|simp <;> omega)) _ 1 _ [strOfNums d] rfl rfl (new_cellsAt rfl _ _) (by omega) (by omega) (by first | omega | (simp; omega)) ?_; intro A4 c4 l4 w4 HL HO5 hB hl1 hl2 _; have HO5' := lh HO5; have HB5 := lh hB; clear HO5 hB)
     go_roundw
     case rel => exact ⟨A4, c4, l4, k + 1, rfl, by go_num, by omega, by omega, lh (by rw [HL.out, HN.out, HOu.out, List.append_assoc]), HO5', lh ((HX.out.trans (HX5.out.alloc _)).grown HB5.out (Nat.le_refl _))⟩
     case measure => simp [intOf]; omega
    ·have e1 : k = e.rv.length := by omega
     subst e1
     have HOf : Hid (ou = epParts e) := lh (by rw [HOu.out, List.take_of_length_le (Nat.le_refl _), HE.out])
     go_wp2
     go_ret
     exact ⟨⟨A3, c3, ou, rfl, HOf, HOw.out.lower (by omega)⟩, HX1.out.trans HX.out⟩
theorem rone_any (b : Bool) (w : World) : Calls Tryz.prog 161 #[.bool b] w fun e w' => e = .returned (.int .i64 (oneB b)) ∧ Ext w w' := by
 cases b
 all_goals
  go_enter Tryz.func161, Tryz.ntmps161
  go_wp2
  go_ret
  exact ⟨rfl, (by (with_reducible repeat first|exact eR _|apply eD|apply eN|apply eA|apply eO|apply eS|apply eC);all_goals first|omega|simp <;> omega)⟩
theorem reparts_any (e : Ep) (w : World) (hok : EpOk e) (hs : EpShort e) (ha : EpAt w e) :
  Calls Tryz.prog 120 #[.agg (epC e)] w fun r w' => EPOut e w.heap.size r w' ∧ Ext w w' := by
 have HI0 := lh (fun (A : Option Addr) (c : Nat) (W : World) (hr : ReadsInt W W.heap.size A [e.num, e.lo, e.hi, e.serial, (e.pu.length : Int)]) => rsints_ok A c [e.num, e.lo, e.hi, e.serial, (e.pu.length : Int)] W (by show 5 ≤ 100000; decide) hr (fun x hx => by
  have h1 := hok.ints x
  have h2 := hs.pu
  simp only [List.mem_cons, List.not_mem_nil, or_false] at hx h1
  rcases hx with rfl | rfl | rfl | rfl | rfl
  ·exact h1 (.inl rfl)
  ·exact h1 (.inr (.inl rfl))
  ·exact h1 (.inr (.inr (.inl rfl)))
  ·exact h1 (.inr (.inr (.inr rfl)))
  ·unfold i64; omega))
 have HIp := lh (fun (k : Nat) (h : k < e.pu.length) (A : Option Addr) (c : Nat) (W : World) (hr : ReadsInt W W.heap.size A [e.pu[k].kind, oneB e.pu[k].soft]) => rsints_ok A c [e.pu[k].kind, oneB e.pu[k].soft] W (by show 2 ≤ 100000; decide) hr (fun x hx => by
  have h1 := (hok.pu _ (List.getElem_mem h)).1
  simp only [List.mem_cons, List.not_mem_nil, or_false] at hx
  rcases hx with rfl | rfl
  ·exact h1
  ·unfold i64 oneB; split <;> omega))
 have HDp := lh (fun W => rdigest4_any e.prev W hok.prev.len)
 have HDr := lh (fun (k : Nat) (h : k < e.rv.length) (W : World) => rdigest4_any e.rv[k] W (hok.rv _ (List.getElem_mem h)).len)
 have HOne := lh rone_any
 have HAp := lh ha.pu
 have HAr := lh ha.rv
 have hpl := hs.pu
 have hrl := hs.rv
 have HE : Hid (epParts e = [strOfNums (encInts [e.num, e.lo, e.hi, e.serial, (e.pu.length : Int)]), strOfNums e.prev] ++ e.pu.flatMap puParts ++ e.rv.map strOfNums) := lh rfl
 have hft := ep_fits e
 have hfp : fitsRow 16 (dgC e.prev) = true := by simp [fitsRow, dgC, Value.oneCell']
 clear hok hs ha
 go_enter Tryz.func120, Tryz.ntmps120
 go_wp2
 refine wp_world (fun W => Ext w W ∧ RowAt W w.heap.size (epC e) ∧ W.heap.size = w.heap.size + 1) ⟨(by (with_reducible repeat first|exact eR _|apply eD|apply eN|apply eA|apply eO|apply eS|apply eC);all_goals first|omega|simp <;> omega), RowAt.new _ _ _, by simp⟩ ?_
 obtain ⟨B, hB⟩ : ∃ B, w.heap.size = B := ⟨_, rfl⟩
 rw [hB]
 rintro W1 ⟨x1, uB, hs1⟩
 have HX1 := lh x1
 have hlu := uB.lt
 have qB_0 : W1.cell? ⟨B, 0, none⟩ = some (.int .i64 e.num) := (uB.cell 0).trans (ep_g0 e)
 have qB_17 : W1.cell? ⟨B, 17, none⟩ = some (.int .i64 e.lo) := (uB.cell 17).trans (ep_g17 e)
 have qB_18 : W1.cell? ⟨B, 18, none⟩ = some (.int .i64 e.hi) := (uB.cell 18).trans (ep_g18 e)
 have qB_21 : W1.cell? ⟨B, 21, none⟩ = some (.int .i64 e.serial) := (uB.cell 21).trans (ep_g21 e)
 have qB_19 : W1.cell? ⟨B, 19, none⟩ = some (.slice e.PA e.pu.length e.pc) := (uB.cell 19).trans (ep_g19 e)
 have kB_1_16 : rowOf W1 B 1 16 = some (dgC e.prev) := by rw [uB.row, if_neg (by omega), ep_s1_16]
 have HQ20 : Hid (W1.cell? ⟨B, 20, none⟩ = some (.slice e.RA e.rv.length e.rc)) := lh ((uB.cell 20).trans (ep_g20 e))
 have HQ19 := lh qB_19
 clear x1 uB
 generalize e.PA = PA at *
 generalize e.RA = RA at *
 refine wp_region_soft 18 (softsL [.eq (.pointer (some ⟨B, 0, none⟩)), .eq (.int .i64 e.num), .eq (.pointer (some ⟨B, 17, none⟩)), .eq (.pointer (some ⟨B, 17, none⟩)), .eq (.int .i64 e.lo), .eq (.pointer (some ⟨B, 17, none⟩)), .eq (.pointer (some ⟨B, 18, none⟩)), .eq (.int .i64 e.hi), .eq (.pointer (some ⟨B, 21, none⟩)), .eq (.int .i64 e.serial), .eq (.pointer (some ⟨B, 19, none⟩)), .eq (.slice PA e.pu.length e.pc), .eq (.int .i64 e.pu.length), readI ([e.num, e.lo, e.hi, e.serial, (e.pu.length : Int)]), .eq (.string (strOfNums (encInts [e.num, e.lo, e.hi, e.serial, (e.pu.length : Int)]))), .eq (.pointer (some ⟨B, 1, none⟩)), .eq (.agg (dgC e.prev)), .eq (.string (strOfNums e.prev))]) (by kernel_rfl) (by kernel_rfl) (lt_cons ?_ (lt_cons ?_ (lt_cons ?_ (lt_cons ?_ (lt_cons ?_ (lt_cons ?_ (lt_cons ?_ (lt_cons ?_ (lt_cons ?_ (lt_cons ?_ (lt_cons ?_ (lt_cons ?_ (lt_cons ?_ (lt_cons ?_ (lt_cons ?_ (lt_cons ?_ (lt_cons ?_ (lt_cons ?_ (lt_none))))))))))))))))))) ?_
 any_goals (refine sop rfl fun xs W HW hsW HD Q' HQ => ?_; simp only [fillAt, dstOf, lc0, lcs, obs, Act.put, lsa, lsz, lss, nz, Nat.reduceAdd] at HQ ⊢)
 ·
  go_wp2
  exact HQ.out _ _ (eR _) rfl
 ·
  have hd0 : xs 0 = .pointer (some ⟨B, 0, none⟩) := (HD.out 0 (dk (by kernel_rfl)))
  generalize xs 0 = x0 at hd0 HQ ⊢; subst hd0
  have hc : W.cell? ⟨B, 0, none⟩ = some (.int .i64 e.num) := (HW.out.cell (p := ⟨B, 0, none⟩) (by show B < _; omega)).trans qB_0
  go_wp2
  exact HQ.out _ _ (eR _) rfl
 ·
  go_wp2
  exact HQ.out _ _ (eR _) rfl
 ·
  have hd2 : xs 2 = .pointer (some ⟨B, 17, none⟩) := (HD.out 2 (dk (by kernel_rfl)))
  generalize xs 2 = x2 at hd2 HQ ⊢; subst hd2
  go_wp2
  exact HQ.out _ _ (eR _) rfl
 ·
  have hd3 : xs 3 = .pointer (some ⟨B, 17, none⟩) := (HD.out 3 (dk (by kernel_rfl)))
  generalize xs 3 = x3 at hd3 HQ ⊢; subst hd3
  have hc : W.cell? ⟨B, 17, none⟩ = some (.int .i64 e.lo) := (HW.out.cell (p := ⟨B, 17, none⟩) (by show B < _; omega)).trans qB_17
  go_wp2
  exact HQ.out _ _ (eR _) rfl
 ·
  go_wp2
  exact HQ.out _ _ (eR _) rfl
 ·
  have hd5 : xs 5 = .pointer (some ⟨B, 17, none⟩) := (HD.out 5 (dk (by kernel_rfl)))
  generalize xs 5 = x5 at hd5 HQ ⊢; subst hd5
  go_wp2
  exact HQ.out _ _ (eR _) rfl
 ·
  have hd6 : xs 6 = .pointer (some ⟨B, 18, none⟩) := (HD.out 6 (dk (by kernel_rfl)))
  generalize xs 6 = x6 at hd6 HQ ⊢; subst hd6
  have hc : W.cell? ⟨B, 18, none⟩ = some (.int .i64 e.hi) := (HW.out.cell (p := ⟨B, 18, none⟩) (by show B < _; omega)).trans qB_18
  go_wp2
  exact HQ.out _ _ (eR _) rfl
 ·
  go_wp2
  exact HQ.out _ _ (eR _) rfl
 ·
  have hd8 : xs 8 = .pointer (some ⟨B, 21, none⟩) := (HD.out 8 (dk (by kernel_rfl)))
  generalize xs 8 = x8 at hd8 HQ ⊢; subst hd8
  have hc : W.cell? ⟨B, 21, none⟩ = some (.int .i64 e.serial) := (HW.out.cell (p := ⟨B, 21, none⟩) (by show B < _; omega)).trans qB_21
  go_wp2
  exact HQ.out _ _ (eR _) rfl
 ·
  go_wp2
  exact HQ.out _ _ (eR _) rfl
 ·
  have hd10 : xs 10 = .pointer (some ⟨B, 19, none⟩) := (HD.out 10 (dk (by kernel_rfl)))
  generalize xs 10 = x10 at hd10 HQ ⊢; subst hd10
  have hc : W.cell? ⟨B, 19, none⟩ = some (.slice PA e.pu.length e.pc) := (HW.out.cell (p := ⟨B, 19, none⟩) (by show B < _; omega)).trans qB_19
  go_wp2
  exact HQ.out _ _ (eR _) rfl
 ·
  have hd11 : xs 11 = .slice PA e.pu.length e.pc := (HD.out 11 (dk (by kernel_rfl)))
  generalize xs 11 = x11 at hd11 HQ ⊢; subst hd11
  go_wp2
  exact HQ.out _ _ (eR _) rfl
 ·
  have hd1 : xs 1 = .int .i64 e.num := (HD.out 1 (dk (by kernel_rfl)))
  generalize xs 1 = x1 at hd1 HQ ⊢; subst hd1
  have hd4 : xs 4 = .int .i64 e.lo := (HD.out 4 (dk (by kernel_rfl)))
  generalize xs 4 = x4 at hd4 HQ ⊢; subst hd4
  have hd7 : xs 7 = .int .i64 e.hi := (HD.out 7 (dk (by kernel_rfl)))
  generalize xs 7 = x7 at hd7 HQ ⊢; subst hd7
  have hd9 : xs 9 = .int .i64 e.serial := (HD.out 9 (dk (by kernel_rfl)))
  generalize xs 9 = x9 at hd9 HQ ⊢; subst hd9
  have hd12 : xs 12 = .int .i64 e.pu.length := (HD.out 12 (dk (by kernel_rfl)))
  generalize xs 12 = x12 at hd12 HQ ⊢; subst hd12
  go_wp2
  exact HQ.out _ _ ((eR _).alloc _) ⟨_, _, rfl, reads_fresh zE ([e.num, e.lo, e.hi, e.serial, (e.pu.length : Int)]) W _ _ rfl⟩
 ·
  obtain ⟨A13, c13, h13, hr13⟩ : (readI ([e.num, e.lo, e.hi, e.serial, (e.pu.length : Int)])).S (xs 13) W := (HD.out 13 (dk (by kernel_rfl)))
  generalize xs 13 = x13 at h13 HQ ⊢; subst h13
  go_wp2_with (go_at_call 133; refine (HI0.out A13 c13 _ hr13).mono ?_; rintro e w1 ⟨rfl, hx⟩)
  exact HQ.out _ _ hx rfl
 ·
  go_wp2
  exact HQ.out _ _ (eR _) rfl
 ·
  have hd15 : xs 15 = .pointer (some ⟨B, 1, none⟩) := (HD.out 15 (dk (by kernel_rfl)))
  generalize xs 15 = x15 at hd15 HQ ⊢; subst hd15
  have hc := (row_extW HW.out (b := B) (by omega) 1 16).trans kB_1_16
  go_wp2
  exact HQ.out _ _ (eR _) rfl
 ·
  have hd16 : xs 16 = .agg (dgC e.prev) := (HD.out 16 (dk (by kernel_rfl)))
  generalize xs 16 = x16 at hd16 HQ ⊢; subst hd16
  go_wp2_with (go_at_call 160; refine (HDp.out _).mono ?_; rintro e w1 ⟨rfl, hx⟩)
  exact HQ.out _ _ hx rfl
 intro xs W3 hW hS
 have h14 : xs 14 = .string (strOfNums (encInts [e.num, e.lo, e.hi, e.serial, (e.pu.length : Int)])) := hS 14 (by omega)
 have h17 : xs 17 = .string (strOfNums e.prev) := hS 17 (by omega)
 simp only [fillAt, dstOf, lc0, lcs, obs, Act.put, lsa, lsz, lss, nz, Nat.reduceAdd, List.drop_succ_cons, List.drop_zero, List.drop_nil]
 generalize xs 14 = x14 at *; subst h14
 generalize xs 17 = x17 at *; subst h17
 have HW3 := lh (HX1.out.trans hW)
 have HWW3 := lh hW
 clear hS hW qB_0 qB_17 qB_18 qB_21 qB_19 kB_1_16
 have hls3 := HWW3.out.size
 generalize strOfNums (encInts [e.num, e.lo, e.hi, e.serial, (e.pu.length : Int)]) = T0 at *
 generalize strOfNums e.prev = T1 at *
 go_upto_region 2 with (fail)
 refine wp_world (fun W => Ext W1 W ∧ OwnsStr W1.heap.size W (some ⟨W3.heap.size, 0, none⟩) 2 [T0, T1]) ⟨HWW3.out.alloc _, owns_fresh (e := 9) sE [T0, T1] W3 _ _ _ rfl hls3 rfl (by simp)⟩ ?_
 generalize W3.heap.size = g3
 rintro W4 ⟨x4, o4⟩
 have HX4 := lh x4
 have HO4 := lh o4
 have hs4 := x4.size
 clear x4 o4 HI0 HDp HW3 HWW3
 go_wp2
 go_loopw [3, 4] (fun o i wr => ∃ (A2 : Option Addr) (c2 : Nat) (out : List ByteArray) (k : Nat), o = .slice A2 out.length c2 ∧ i = .int .i64 k ∧ k ≤ e.pu.length ∧ out.length ≤ 2 + 2 * k ∧ Hid (out = [T0, T1] ++ (e.pu.take k).flatMap puParts) ∧ Hid (OwnsStr W1.heap.size wr A2 c2 out) ∧ Hid (Ext W1 wr)) (fun _ i _ => e.pu.length - (intOf i).toNat)
 case atStart => exact ⟨_, 2, [T0, T1], 0, rfl, rfl, Nat.zero_le _, Nat.le_refl _, lh (by simp), HO4, HX4⟩
 case round =>
  obtain ⟨A2, c2, out, k, rfl, rfl, hk, hol, HOu, HOw, HX⟩ := hrel
  have hsz := HX.out.size
  have qB_19 : wr.cell? ⟨B, 19, none⟩ = some (.slice PA e.pu.length e.pc) := (HX.out.cell (p := ⟨B, 19, none⟩) hlu).trans HQ19.out
  have hlw : B < wr.heap.size := by omega
  by_cases hlt : k < e.pu.length
  ·obtain ⟨b, off, rfl, hb, hrow⟩ := reads_row puE (HAp.out.ext (HX1.out.trans HX.out) (Nat.le_refl _)) k hlt
   have hb2 : b < wr.heap.size := by omega
   have HI1 := lh (HIp.out k hlt)
   have HN := lh (flat_snoc puParts e.pu k hlt)
   have q0 : wr.cell? ⟨b, off+k*3, none⟩ = some (.int .i64 e.pu[k].kind) := (rowOf_cell hrow (i := 0) (by omega)).trans (pu_g0 _)
   have q1 : wr.cell? ⟨b, off+k*3+1, none⟩ = some (.string e.pu[k].what) := (rowOf_cell hrow (i := 1) (by omega)).trans (pu_g1 _)
   have q2 : wr.cell? ⟨b, off+k*3+2, none⟩ = some (.bool e.pu[k].soft) := (rowOf_cell hrow (i := 2) (by omega)).trans (pu_g2 _)
   clear HIp hrow
   have HPP : Hid (puParts e.pu[k] = [strOfNums (encInts [e.pu[k].kind, oneB e.pu[k].soft]), e.pu[k].what]) := lh rfl
   generalize e.pu[k] = p at *
   go_upto_region 5 with (fail)
   refine wp_region_soft 23 (softsL [.eq (.slice A2 out.length c2), .eq (.pointer (some ⟨B, 19, none⟩)), .eq (.slice (some ⟨b, off, none⟩) e.pu.length e.pc), .eq (.int .i64 k), .eq (.pointer (some ⟨b, off+k*3, none⟩)), .eq (.pointer (some ⟨b, off+k*3, none⟩)), .eq (.int .i64 p.kind), .eq (.pointer (some ⟨B, 19, none⟩)), .eq (.slice (some ⟨b, off, none⟩) e.pu.length e.pc), .eq (.int .i64 k), .eq (.pointer (some ⟨b, off+k*3, none⟩)), .eq (.pointer (some ⟨b, off+k*3+2, none⟩)), .eq (.bool p.soft), .eq (.int .i64 (oneB p.soft)), readI ([p.kind, oneB p.soft]), .eq (.string (strOfNums (encInts [p.kind, oneB p.soft]))), .eq (.pointer (some ⟨B, 19, none⟩)), .eq (.slice (some ⟨b, off, none⟩) e.pu.length e.pc), .eq (.int .i64 k), .eq (.pointer (some ⟨b, off+k*3, none⟩)), .eq (.pointer (some ⟨b, off+k*3+1, none⟩)), .eq (.string p.what), readS ([strOfNums (encInts [p.kind, oneB p.soft]), p.what])]) (by kernel_rfl) (by kernel_rfl) (lt_cons ?_ (lt_cons ?_ (lt_cons ?_ (lt_cons ?_ (lt_cons ?_ (lt_cons ?_ (lt_cons ?_ (lt_cons ?_ (lt_cons ?_ (lt_cons ?_ (lt_cons ?_ (lt_cons ?_ (lt_cons ?_ (lt_cons ?_ (lt_cons ?_ (lt_cons ?_ (lt_cons ?_ (lt_cons ?_ (lt_cons ?_ (lt_cons ?_ (lt_cons ?_ (lt_cons ?_ (lt_cons ?_ (lt_none)))))))))))))))))))))))) ?_
   any_goals (refine sop rfl fun xs W HW hsW HD Q' HQ => ?_; simp only [fillAt, dstOf, lc0, lcs, obs, Act.put, lsa, lsz, lss, nz, Nat.reduceAdd] at HQ ⊢)
   ·
    go_wp2
    exact HQ.out _ _ (eR _) rfl
   ·
    go_wp2
    exact HQ.out _ _ (eR _) rfl
   ·
    have hd1 : xs 1 = .pointer (some ⟨B, 19, none⟩) := (HD.out 1 (dk (by kernel_rfl)))
    generalize xs 1 = x1 at hd1 HQ ⊢; subst hd1
    have hc : W.cell? ⟨B, 19, none⟩ = some (.slice (some ⟨b, off, none⟩) e.pu.length e.pc) := (HW.out.cell (p := ⟨B, 19, none⟩) (by show B < _; omega)).trans qB_19
    go_wp2
    exact HQ.out _ _ (eR _) rfl
   ·
    go_wp2
    exact HQ.out _ _ (eR _) rfl
   ·
    have hd2 : xs 2 = .slice (some ⟨b, off, none⟩) e.pu.length e.pc := (HD.out 2 (dk (by kernel_rfl)))
    generalize xs 2 = x2 at hd2 HQ ⊢; subst hd2
    have hd3 : xs 3 = .int .i64 k := (HD.out 3 (dk (by kernel_rfl)))
    generalize xs 3 = x3 at hd3 HQ ⊢; subst hd3
    go_wp2
    exact HQ.out _ _ (eR _) rfl
   ·
    have hd4 : xs 4 = .pointer (some ⟨b, off+k*3, none⟩) := (HD.out 4 (dk (by kernel_rfl)))
    generalize xs 4 = x4 at hd4 HQ ⊢; subst hd4
    go_wp2
    exact HQ.out _ _ (eR _) rfl
   ·
    have hd5 : xs 5 = .pointer (some ⟨b, off+k*3, none⟩) := (HD.out 5 (dk (by kernel_rfl)))
    generalize xs 5 = x5 at hd5 HQ ⊢; subst hd5
    have hc : W.cell? ⟨b, off+k*3, none⟩ = some (.int .i64 p.kind) := (HW.out.cell (p := ⟨b, off+k*3, none⟩) (by show b < _; omega)).trans q0
    go_wp2
    exact HQ.out _ _ (eR _) rfl
   ·
    go_wp2
    exact HQ.out _ _ (eR _) rfl
   ·
    have hd7 : xs 7 = .pointer (some ⟨B, 19, none⟩) := (HD.out 7 (dk (by kernel_rfl)))
    generalize xs 7 = x7 at hd7 HQ ⊢; subst hd7
    have hc : W.cell? ⟨B, 19, none⟩ = some (.slice (some ⟨b, off, none⟩) e.pu.length e.pc) := (HW.out.cell (p := ⟨B, 19, none⟩) (by show B < _; omega)).trans qB_19
    go_wp2
    exact HQ.out _ _ (eR _) rfl
   ·
    go_wp2
    exact HQ.out _ _ (eR _) rfl
   ·
    have hd8 : xs 8 = .slice (some ⟨b, off, none⟩) e.pu.length e.pc := (HD.out 8 (dk (by kernel_rfl)))
    generalize xs 8 = x8 at hd8 HQ ⊢; subst hd8
    have hd9 : xs 9 = .int .i64 k := (HD.out 9 (dk (by kernel_rfl)))
    generalize xs 9 = x9 at hd9 HQ ⊢; subst hd9
    go_wp2
    exact HQ.out _ _ (eR _) rfl
   ·
    have hd10 : xs 10 = .pointer (some ⟨b, off+k*3, none⟩) := (HD.out 10 (dk (by kernel_rfl)))
    generalize xs 10 = x10 at hd10 HQ ⊢; subst hd10
    go_wp2
    exact HQ.out _ _ (eR _) rfl
   ·
    have hd11 : xs 11 = .pointer (some ⟨b, off+k*3+2, none⟩) := (HD.out 11 (dk (by kernel_rfl)))
    generalize xs 11 = x11 at hd11 HQ ⊢; subst hd11
    have hc : W.cell? ⟨b, off+k*3+2, none⟩ = some (.bool p.soft) := (HW.out.cell (p := ⟨b, off+k*3+2, none⟩) (by show b < _; omega)).trans q2
    go_wp2
    exact HQ.out _ _ (eR _) rfl
   ·
    have hd12 : xs 12 = .bool p.soft := (HD.out 12 (dk (by kernel_rfl)))
    generalize xs 12 = x12 at hd12 HQ ⊢; subst hd12
    go_wp2_with (go_at_call 161; refine (HOne.out _ _).mono ?_; rintro e w1 ⟨rfl, hx⟩)
    exact HQ.out _ _ hx rfl
   ·
    have hd6 : xs 6 = .int .i64 p.kind := (HD.out 6 (dk (by kernel_rfl)))
    generalize xs 6 = x6 at hd6 HQ ⊢; subst hd6
    have hd13 : xs 13 = .int .i64 (oneB p.soft) := (HD.out 13 (dk (by kernel_rfl)))
    generalize xs 13 = x13 at hd13 HQ ⊢; subst hd13
    go_wp2
    exact HQ.out _ _ ((eR _).alloc _) ⟨_, _, rfl, reads_fresh zE ([p.kind, oneB p.soft]) W _ _ rfl⟩
   ·
    obtain ⟨A14, c14, h14, hr14⟩ : (readI ([p.kind, oneB p.soft])).S (xs 14) W := (HD.out 14 (dk (by kernel_rfl)))
    generalize xs 14 = x14 at h14 HQ ⊢; subst h14
    go_wp2_with (go_at_call 133; refine (HI1.out A14 c14 _ hr14).mono ?_; rintro e w1 ⟨rfl, hx⟩)
    exact HQ.out _ _ hx rfl
   ·
    go_wp2
    exact HQ.out _ _ (eR _) rfl
   ·
    have hd16 : xs 16 = .pointer (some ⟨B, 19, none⟩) := (HD.out 16 (dk (by kernel_rfl)))
    generalize xs 16 = x16 at hd16 HQ ⊢; subst hd16
    have hc : W.cell? ⟨B, 19, none⟩ = some (.slice (some ⟨b, off, none⟩) e.pu.length e.pc) := (HW.out.cell (p := ⟨B, 19, none⟩) (by show B < _; omega)).trans qB_19
    go_wp2
    exact HQ.out _ _ (eR _) rfl
   ·
    go_wp2
    exact HQ.out _ _ (eR _) rfl
   ·
    have hd17 : xs 17 = .slice (some ⟨b, off, none⟩) e.pu.length e.pc := (HD.out 17 (dk (by kernel_rfl)))
    generalize xs 17 = x17 at hd17 HQ ⊢; subst hd17
    have hd18 : xs 18 = .int .i64 k := (HD.out 18 (dk (by kernel_rfl)))
    generalize xs 18 = x18 at hd18 HQ ⊢; subst hd18
    go_wp2
    exact HQ.out _ _ (eR _) rfl
   ·
    have hd19 : xs 19 = .pointer (some ⟨b, off+k*3, none⟩) := (HD.out 19 (dk (by kernel_rfl)))
    generalize xs 19 = x19 at hd19 HQ ⊢; subst hd19
    go_wp2
    exact HQ.out _ _ (eR _) rfl
   ·
    have hd20 : xs 20 = .pointer (some ⟨b, off+k*3+1, none⟩) := (HD.out 20 (dk (by kernel_rfl)))
    generalize xs 20 = x20 at hd20 HQ ⊢; subst hd20
    have hc : W.cell? ⟨b, off+k*3+1, none⟩ = some (.string p.what) := (HW.out.cell (p := ⟨b, off+k*3+1, none⟩) (by show b < _; omega)).trans q1
    go_wp2
    exact HQ.out _ _ (eR _) rfl
   ·
    have hd15 : xs 15 = .string (strOfNums (encInts [p.kind, oneB p.soft])) := (HD.out 15 (dk (by kernel_rfl)))
    generalize xs 15 = x15 at hd15 HQ ⊢; subst hd15
    have hd21 : xs 21 = .string p.what := (HD.out 21 (dk (by kernel_rfl)))
    generalize xs 21 = x21 at hd21 HQ ⊢; subst hd21
    go_wp2
    exact HQ.out _ _ ((eR _).alloc _) ⟨_, _, rfl, reads_fresh sE ([strOfNums (encInts [p.kind, oneB p.soft]), p.what]) W _ _ rfl, fun h => (by cases h)⟩
   intro xs W6 hW hS
   have h0 : xs 0 = .slice A2 out.length c2 := hS 0 (by omega)
   obtain ⟨A22, c22, h22, hr22, hz22⟩ : (readS ([strOfNums (encInts [p.kind, oneB p.soft]), p.what])).S (xs 22) W6 := hS 22 (by omega)
   simp only [fillAt, dstOf, lc0, lcs, obs, Act.put, lsa, lsz, lss, nz, Nat.reduceAdd, List.drop_succ_cons, List.drop_zero, List.drop_nil]
   generalize xs 0 = x0 at *; subst h0
   generalize xs 22 = x22 at *; subst h22
   have HW6 := lh (HX.out.trans hW)
   have HWW6 := lh hW
   clear hS hW q0 q1 q2 qB_19
   generalize strOfNums (encInts [p.kind, oneB p.soft]) = T2 at *
   generalize p.what = T3 at *
   have hs6 := HWW6.out.size
   go_wp2_with (at_builtin; refine app_reads strT sE rfl _ _ rfl W1.heap.size _ _ out rfl (HOw.out.ext (by (with_reducible repeat first|exact HWW6.out|exact eR _|apply eD|apply eN|apply eA|apply eO|apply eS|apply eC);all_goals first|omega|simp <;> omega)) W6.heap.size _ _ [T2, T3] rfl hr22 hz22 (by first | omega | (simp; omega)) (by first | omega | (simp; omega)) (by first | omega | (simp; omega)) ?_; intro A7 c7 l7 w7 HL HO5 hB hl1 hl2 _; have HO5' := lh HO5; have HB5 := lh hB; clear HO5 hB)
   go_roundw
   case rel => exact ⟨A7, c7, l7, k + 1, rfl, by go_num, by omega, by (try simp at hl1 hl2); omega, lh (by rw [HL.out, HN.out, HOu.out, HPP.out, List.append_assoc]), HO5', lh (HW6.out.grown HB5.out (Nat.le_refl _))⟩
   case measure => simp [intOf]; omega
  ·have e1 : k = e.pu.length := by omega
   subst e1
   have HOu' : Hid (out = [T0, T1] ++ e.pu.flatMap puParts) := lh (by rw [HOu.out, List.take_of_length_le (Nat.le_refl _)])
   clear HIp HQ19 HOu hs4
   go_wp2
   generalize hPre : [T0, T1] ++ e.pu.flatMap puParts = pre at *
   have hol2 : out.length ≤ 22 := by omega
   clear hPre hol HO4
   go_loopw [3, 5] (fun o i wv => ∃ (A3 : Option Addr) (c3 : Nat) (ou : List ByteArray) (k : Nat), o = .slice A3 ou.length c3 ∧ i = .int .i64 k ∧ k ≤ e.rv.length ∧ ou.length ≤ 22 + k ∧ Hid (ou = pre ++ (e.rv.take k).map strOfNums) ∧ Hid (OwnsStr W1.heap.size wv A3 c3 ou) ∧ Hid (Ext W1 wv)) (fun _ i _ => e.rv.length - (intOf i).toNat)
   case atStart => exact ⟨A2, c2, out, 0, rfl, rfl, Nat.zero_le _, by omega, lh (by rw [HOu'.out]; simp), HOw, HX⟩
   case round =>
    clear HOu' HOw HX hol2 hlw hsz qB_19
    obtain ⟨A3, c3, ou, k, rfl, rfl, hk, hol, HOu, HOw, HX⟩ := hrel
    have hsz := HX.out.size
    have qB_20 : wr.cell? ⟨B, 20, none⟩ = some (.slice RA e.rv.length e.rc) := (HX.out.cell (p := ⟨B, 20, none⟩) hlu).trans HQ20.out
    have hlw : B < wr.heap.size := by omega
    by_cases hlt : k < e.rv.length
    ·obtain ⟨b, off, rfl, hb, hrow⟩ := reads_row dgE (HAr.out.ext (HX1.out.trans HX.out) (Nat.le_refl _)) k hlt
     have hb2 : b < wr.heap.size := by omega
     have HN := lh (map_snoc strOfNums e.rv k hlt)
     have HD1 := lh (HDr.out k hlt)
     change rowOf wr b (off + k * 16) 16 = some (dgC e.rv[k]) at hrow
     clear HDr
     generalize e.rv[k] = d at *
     have hfd : fitsRow 16 (dgC d) = true := by simp [fitsRow, dgC, Value.oneCell']
     go_wp2_with (first
      | (go_at_call 160; refine (HD1.out _).mono ?_; rintro e w' ⟨rfl, hxl⟩; obtain ⟨xl, rfl⟩ := hxl.asLater; clear hxl)
      | (at_builtin; refine app_from strT sE rfl _ _ rfl W1.heap.size _ _ ou rfl (HOw.out.ext (by (with_reducible repeat first|exact eR _|apply eD|apply eN|apply eA|apply eO|apply eS|apply eC);all_goals first|omega|simp <;> omega)) _ 1 _ [strOfNums d] rfl rfl (new_cellsAt (by simp [later_size]) _ _) (by omega) (by omega) (by simp [later_size]; omega) ?_; intro A4 c4 l4 w4 HL HO5 hB hl1 hl2 _; have HO5' := lh HO5; have HB5 := lh hB; clear HO5 hB))
     go_roundw
     case rel => exact ⟨A4, c4, l4, k + 1, rfl, by go_num, by omega, by omega, lh (by rw [HL.out, HN.out, HOu.out, List.append_assoc]), HO5', lh (Ext.grown (by (with_reducible repeat first|exact HX.out|exact eR _|apply eD|apply eN|apply eA|apply eO|apply eS|apply eC);all_goals first|omega|simp <;> omega) HB5.out (Nat.le_refl _))⟩
     case measure => simp [intOf]; omega
    ·have e1 : k = e.rv.length := by omega
     subst e1
     have HOf : Hid (ou = epParts e) := lh (by rw [HOu.out, List.take_of_length_le (Nat.le_refl _), HE.out])
     go_wp2
     go_ret
     exact ⟨⟨A3, c3, ou, rfl, HOf, HOw.out.lower (by omega)⟩, HX1.out.trans HX.out⟩
def ownS (base : Nat) (ls : List ByteArray) : Soft := ⟨fun v w => ∃ A c, v = .slice A ls.length c ∧ OwnsStr base w A c ls, fun v w w' ⟨A, c, h1, h2⟩ hx => ⟨A, c, h1, h2.ext hx⟩⟩
theorem ename_any (e : Ep) (w : World) (hok : EpOk e) (hs : EpShort e) (ha : EpAt w e) (hk : KonstP w) :
  Calls Tryz.prog 58 #[.agg (epC e)] w fun r w' => r = .returned (.agg (dgC (epName e))) ∧ Ext w w' := by
 have hln := epName_lens hok hs
 have h16 := epName_len e
 have HD0 : Hid (epName e = Wire.digest 31 ((epParts e ++ [strOfNums e.sl]).map bts)) := lh rfl
 have HP0 := fun (W : World) (hx : Ext w W) => eparts_any e W hok hs (ha.on hx)
 unfold EPOut at HP0
 generalize epName e = D at *
 generalize epParts e = L at *
 have hLl : L.length ≤ 20000 := by
  have := lens_length (L ++ [strOfNums e.sl])
  rw [List.length_append] at this
  omega
 have HP : Hid (∀ W, Ext w W → Calls Tryz.prog 117 #[.agg (epC e)] W fun r w' => ∃ A c, r = .returned (.slice A L.length c) ∧ OwnsStr W.heap.size w' A c L ∧ Ext W w') := lh (fun W hx => (HP0 W hx).mono (fun r w' h => by
  obtain ⟨⟨A, c, l', h1, h2, h3⟩, h4⟩ := h
  obtain rfl := h2.out
  exact ⟨A, c, h1, h3, h4⟩))
 have HOf : Hid (∀ (A : Option Addr) (c : Nat) (l : List ByteArray) (W : World), l = L ++ [strOfNums e.sl] → KonstP W → ReadsStr W W.heap.size A l → Calls Tryz.prog 95 #[.int .i64 31, .slice A l.length c] W fun r w' => r = .returned (.agg (dgC D)) ∧ Ext W w') := lh (fun A c l W he h1 h2 => by
  subst he
  have h := of_ok 31 A c _ W h1 h2 (by omega)
  rw [← HD0.out, ← dgC_cells h16] at h
  exact h)
 have H16 := lh hok.sl.len
 have HK := lh hk
 have hft := ep_fits e
 have hfd : fitsRow 16 (dgC D) = true := by simp [fitsRow, dgC, Value.oneCell']
 have hfs : fitsRow 16 (dgC e.sl) = true := by simp [fitsRow, dgC, Value.oneCell']
 clear HP0 hok hs ha hk HD0 hln h16
 go_enter Tryz.func58, Tryz.ntmps58
 go_upto_region 1 with (fail)
 refine wp_world (fun W => Ext w W ∧ W.heap.size = w.heap.size + 2 ∧ RowAt W w.heap.size (epC e) ∧ RowAt W (w.heap.size + 1) (cells8 (zeros32 16))) ⟨(by (with_reducible repeat first|exact eR _|apply eD|apply eN|apply eA|apply eO|apply eS|apply eC);all_goals first|omega|simp <;> omega), by simp, (RowAt.new _ _ _).alloc _, RowAt.newAt (by simp)⟩ ?_
 obtain ⟨B, hB⟩ : ∃ B, w.heap.size = B := ⟨_, rfl⟩
 rw [hB]
 rintro W1 ⟨x1, hs1, uB, u2⟩
 have HX1 := lh x1
 have HRs := lh u2
 have hlu := uB.lt
 have kB_0_38 : rowOf W1 B 0 38 = some (epC e) := uB.all rfl (by omega)
 have kB_22_16 : rowOf W1 B 22 16 = some (dgC e.sl) := by rw [uB.row, if_neg (by omega), ep_s22_16]
 have rdB_22 := lh (arr_reads kB_22_16 H16.out hlu)
 clear x1 uB u2
 refine wp_region_soft 6 (softsL [.eq (.agg (epC e)), ownS W1.heap.size L, .eq (.pointer (some ⟨B, 22, none⟩)), .eq (.slice (some ⟨B, 22, none⟩) 16 16), .eq (.string (strOfNums e.sl)), readS ([strOfNums e.sl])]) (by kernel_rfl) (by kernel_rfl) (lt_cons ?_ (lt_cons ?_ (lt_cons ?_ (lt_cons ?_ (lt_cons ?_ (lt_cons ?_ (lt_none))))))) ?_
 any_goals (refine sop rfl fun xs W HW hsW HD Q' HQ => ?_; simp only [fillAt, dstOf, lc0, lcs, obs, Act.put, lsa, lsz, lss, nz, Nat.reduceAdd] at HQ ⊢)
 ·
  have hc := (row_extW HW.out (b := B) (by omega) 0 38).trans kB_0_38
  go_wp2
  exact HQ.out _ _ (eR _) rfl
 ·
  have hd0 : xs 0 = .agg (epC e) := (HD.out 0 (dk (by kernel_rfl)))
  generalize xs 0 = x0 at hd0 HQ ⊢; subst hd0
  go_wp2_with (go_at_call 117; refine (HP.out _ (HX1.out.trans HW.out)).mono ?_; rintro e w1 ⟨A, c, rfl, ho, hx⟩)
  exact HQ.out _ _ hx ⟨A, c, rfl, ho.lower hsW⟩
 ·
  go_wp2
  exact HQ.out _ _ (eR _) rfl
 ·
  have hd2 : xs 2 = .pointer (some ⟨B, 22, none⟩) := (HD.out 2 (dk (by kernel_rfl)))
  generalize xs 2 = x2 at hd2 HQ ⊢; subst hd2
  go_wp2
  exact HQ.out _ _ (eR _) rfl
 ·
  have hd3 : xs 3 = .slice (some ⟨B, 22, none⟩) 16 16 := (HD.out 3 (dk (by kernel_rfl)))
  generalize xs 3 = x3 at hd3 HQ ⊢; subst hd3
  have hcv := conv_bytes 16 (rdB_22.out.on HW.out) (by rw [H16.out]; omega)
  rw [H16.out] at hcv
  go_wp2
  exact HQ.out _ _ (eR _) rfl
 ·
  have hd4 : xs 4 = .string (strOfNums e.sl) := (HD.out 4 (dk (by kernel_rfl)))
  generalize xs 4 = x4 at hd4 HQ ⊢; subst hd4
  go_wp2
  exact HQ.out _ _ ((eR _).alloc _) ⟨_, _, rfl, reads_fresh sE ([strOfNums e.sl]) W _ _ rfl, fun h => (by cases h)⟩
 intro xs W3 hW hS
 have h1 : (ownS W1.heap.size L).S (xs 1) W3 := hS 1 (by omega)
 obtain ⟨A5, c5, h5, hr5, hz5⟩ : (readS ([strOfNums e.sl])).S (xs 5) W3 := hS 5 (by omega)
 simp only [fillAt, dstOf, lc0, lcs, obs, Act.put, lsa, lsz, lss, nz, Nat.reduceAdd, List.drop_succ_cons, List.drop_zero, List.drop_nil]
 generalize xs 5 = x5 at *; subst h5
 have HW3 := lh (HX1.out.trans hW)
 have HWW3 := lh hW
 clear hS hW kB_0_38 kB_22_16
 obtain ⟨A1, c1, hx1, ho1⟩ := h1
 generalize xs 1 = x1 at *
 subst hx1
 have HOn := lh ho1
 have hs3 := HWW3.out.size
 have HRs3 := lh (HRs.out.ext HWW3.out)
 clear ho1 HRs HP
 go_wp2_with (at_builtin; refine (show Hid _ from ?_).out)
 refine lh ?_
 refine app_reads strT sE rfl _ _ rfl W1.heap.size _ _ L rfl HOn.out W3.heap.size _ _ [strOfNums e.sl] rfl hr5 hz5 (by simp; omega) (by simp; omega) hs3 ?_
 intro A2 c2 l2 w2 HL2 hO9 hB9 hl1 hl2 _
 have HO2 := lh hO9
 have HX2 : Hid (Ext w w2) := lh (HW3.out.grown hB9 (by omega))
 have HRs2 : Hid (RowAt w2 (B + 1) (cells8 (zeros32 16))) := lh (HRs3.out.below hB9 (by omega))
 have hm2 : roomOf w2 (B + 1) 0 16 = true := by rw [HRs2.out.room]; rfl
 have hlr := HRs2.out.lt
 clear hO9 hB9 hl1 hl2
 go_wp2_with (go_at_call 95; refine (HOf.out _ _ l2 _ HL2.out (RowAt.ext HK.out HX2.out) (HO2.out.reads sE)).mono ?_; rintro e w' ⟨rfl, hxl⟩; obtain ⟨xo, rfl⟩ := hxl.asLater; clear hxl)
 exact post_row dig_ty Tryz.results58 rfl rfl (RowAt.stored (n := 16) (ds := dgC D) (HRs2.out.later _) (by rw [cells8_size]; rfl) rfl (by omega)) ⟨rfl, (by (with_reducible repeat first|exact HX2.out|exact eR _|apply eD|apply eN|apply eA|apply eO|apply eS|apply eC);all_goals first|omega|simp <;> omega)⟩
theorem rename_any (e : Ep) (w : World) (hok : EpOk e) (hs : EpShort e) (ha : EpAt w e) (hk : RKonst w) :
  Calls Tryz.prog 63 #[.agg (epC e)] w fun r w' => r = .returned (.agg (dgC (epName e))) ∧ Ext w w' := by
 have hln := epName_lens hok hs
 have h16 := epName_len e
 have HD0 : Hid (epName e = Wire.digest 31 ((epParts e ++ [strOfNums e.sl]).map bts)) := lh rfl
 have HP0 := fun (W : World) (hx : Ext w W) => reparts_any e W hok hs (ha.on hx)
 unfold EPOut at HP0
 generalize epName e = D at *
 generalize epParts e = L at *
 have hLl : L.length ≤ 20000 := by
  have := lens_length (L ++ [strOfNums e.sl])
  rw [List.length_append] at this
  omega
 have HP : Hid (∀ W, Ext w W → Calls Tryz.prog 120 #[.agg (epC e)] W fun r w' => ∃ A c, r = .returned (.slice A L.length c) ∧ OwnsStr W.heap.size w' A c L ∧ Ext W w') := lh (fun W hx => (HP0 W hx).mono (fun r w' h => by
  obtain ⟨⟨A, c, l', h1, h2, h3⟩, h4⟩ := h
  obtain rfl := h2.out
  exact ⟨A, c, h1, h3, h4⟩))
 have HOf : Hid (∀ (A : Option Addr) (c : Nat) (l : List ByteArray) (W : World), l = L ++ [strOfNums e.sl] → RKonst W → ReadsStr W W.heap.size A l → Calls Tryz.prog 87 #[.int .i64 31, .slice A l.length c] W fun r w' => r = .returned (.agg (dgC D)) ∧ Ext W w') := lh (fun A c l W he h1 h2 => by
  subst he
  have h := rof_ok 31 A c _ W h1 h2 (by omega)
  rw [← HD0.out, ← dgC_cells h16] at h
  exact h)
 have H16 := lh hok.sl.len
 have HK := lh hk
 have hft := ep_fits e
 have hfd : fitsRow 16 (dgC D) = true := by simp [fitsRow, dgC, Value.oneCell']
 have hfs : fitsRow 16 (dgC e.sl) = true := by simp [fitsRow, dgC, Value.oneCell']
 clear HP0 hok hs ha hk HD0 hln h16
 go_enter Tryz.func63, Tryz.ntmps63
 go_upto_region 1 with (fail)
 refine wp_world (fun W => Ext w W ∧ W.heap.size = w.heap.size + 2 ∧ RowAt W w.heap.size (epC e) ∧ RowAt W (w.heap.size + 1) (cells8 (zeros32 16))) ⟨(by (with_reducible repeat first|exact eR _|apply eD|apply eN|apply eA|apply eO|apply eS|apply eC);all_goals first|omega|simp <;> omega), by simp, (RowAt.new _ _ _).alloc _, RowAt.newAt (by simp)⟩ ?_
 obtain ⟨B, hB⟩ : ∃ B, w.heap.size = B := ⟨_, rfl⟩
 rw [hB]
 rintro W1 ⟨x1, hs1, uB, u2⟩
 have HX1 := lh x1
 have HRs := lh u2
 have hlu := uB.lt
 have kB_0_38 : rowOf W1 B 0 38 = some (epC e) := uB.all rfl (by omega)
 have kB_22_16 : rowOf W1 B 22 16 = some (dgC e.sl) := by rw [uB.row, if_neg (by omega), ep_s22_16]
 have rdB_22 := lh (arr_reads kB_22_16 H16.out hlu)
 clear x1 uB u2
 have HTx := lh (fun W => rtext16_any e.sl W H16.out)
 refine wp_region_soft 6 (softsL [.eq (.agg (epC e)), ownS W1.heap.size L, .eq (.pointer (some ⟨B, 22, none⟩)), .eq (.agg (dgC e.sl)), .eq (.string (strOfNums e.sl)), readS ([strOfNums e.sl])]) (by kernel_rfl) (by kernel_rfl) (lt_cons ?_ (lt_cons ?_ (lt_cons ?_ (lt_cons ?_ (lt_cons ?_ (lt_cons ?_ (lt_none))))))) ?_
 any_goals (refine sop rfl fun xs W HW hsW HD Q' HQ => ?_; simp only [fillAt, dstOf, lc0, lcs, obs, Act.put, lsa, lsz, lss, nz, Nat.reduceAdd] at HQ ⊢)
 ·
  have hc := (row_extW HW.out (b := B) (by omega) 0 38).trans kB_0_38
  go_wp2
  exact HQ.out _ _ (eR _) rfl
 ·
  have hd0 : xs 0 = .agg (epC e) := (HD.out 0 (dk (by kernel_rfl)))
  generalize xs 0 = x0 at hd0 HQ ⊢; subst hd0
  go_wp2_with (go_at_call 120; refine (HP.out _ (HX1.out.trans HW.out)).mono ?_; rintro e w1 ⟨A, c, rfl, ho, hx⟩)
  exact HQ.out _ _ hx ⟨A, c, rfl, ho.lower hsW⟩
 ·
  go_wp2
  exact HQ.out _ _ (eR _) rfl
 ·
  have hd2 : xs 2 = .pointer (some ⟨B, 22, none⟩) := (HD.out 2 (dk (by kernel_rfl)))
  generalize xs 2 = x2 at hd2 HQ ⊢; subst hd2
  have hc := (row_extW HW.out (b := B) (by omega) 22 16).trans kB_22_16
  go_wp2
  exact HQ.out _ _ (eR _) rfl
 ·
  have hd3 : xs 3 = .agg (dgC e.sl) := (HD.out 3 (dk (by kernel_rfl)))
  generalize xs 3 = x3 at hd3 HQ ⊢; subst hd3
  go_wp2_with (go_at_call 121; refine (HTx.out _).mono ?_; rintro e w1 ⟨rfl, hx⟩)
  exact HQ.out _ _ hx rfl
 ·
  have hd4 : xs 4 = .string (strOfNums e.sl) := (HD.out 4 (dk (by kernel_rfl)))
  generalize xs 4 = x4 at hd4 HQ ⊢; subst hd4
  go_wp2
  exact HQ.out _ _ ((eR _).alloc _) ⟨_, _, rfl, reads_fresh sE ([strOfNums e.sl]) W _ _ rfl, fun h => (by cases h)⟩
 intro xs W3 hW hS
 have h1 : (ownS W1.heap.size L).S (xs 1) W3 := hS 1 (by omega)
 obtain ⟨A5, c5, h5, hr5, hz5⟩ : (readS ([strOfNums e.sl])).S (xs 5) W3 := hS 5 (by omega)
 simp only [fillAt, dstOf, lc0, lcs, obs, Act.put, lsa, lsz, lss, nz, Nat.reduceAdd, List.drop_succ_cons, List.drop_zero, List.drop_nil]
 generalize xs 5 = x5 at *; subst h5
 have HW3 := lh (HX1.out.trans hW)
 have HWW3 := lh hW
 clear hS hW kB_0_38 kB_22_16
 obtain ⟨A1, c1, hx1, ho1⟩ := h1
 generalize xs 1 = x1 at *
 subst hx1
 have HOn := lh ho1
 have hs3 := HWW3.out.size
 have HRs3 := lh (HRs.out.ext HWW3.out)
 clear ho1 HRs HP
 go_wp2_with (at_builtin; refine (show Hid _ from ?_).out)
 refine lh ?_
 refine app_reads strT sE rfl _ _ rfl W1.heap.size _ _ L rfl HOn.out W3.heap.size _ _ [strOfNums e.sl] rfl hr5 hz5 (by simp; omega) (by simp; omega) hs3 ?_
 intro A2 c2 l2 w2 HL2 hO9 hB9 hl1 hl2 _
 have HO2 := lh hO9
 have HX2 : Hid (Ext w w2) := lh (HW3.out.grown hB9 (by omega))
 have HRs2 : Hid (RowAt w2 (B + 1) (cells8 (zeros32 16))) := lh (HRs3.out.below hB9 (by omega))
 have hm2 : roomOf w2 (B + 1) 0 16 = true := by rw [HRs2.out.room]; rfl
 have hlr := HRs2.out.lt
 clear hO9 hB9 hl1 hl2
 go_wp2_with (go_at_call 87; refine (HOf.out _ _ l2 _ HL2.out (RowAt.ext HK.out HX2.out) (HO2.out.reads sE)).mono ?_; rintro e w' ⟨rfl, hxl⟩; obtain ⟨xo, rfl⟩ := hxl.asLater; clear hxl)
 exact post_row dig_ty Tryz.results63 rfl rfl (RowAt.stored (n := 16) (ds := dgC D) (HRs2.out.later _) (by rw [cells8_size]; rfl) rfl (by omega)) ⟨rfl, (by (with_reducible repeat first|exact HX2.out|exact eR _|apply eD|apply eN|apply eA|apply eO|apply eS|apply eC);all_goals first|omega|simp <;> omega)⟩
def cfB5 (a b c d e : Value) : Sem Next := do pure (.value (← Instr.build 51 #[(0, a), (1, b), (2, c), (3, d), (4, e)]))
theorem cfB5_x (ρ : Operand → Value) (dst : Option Tmp) (a b c d e : Operand) (t : TypeId) (pos : String) (after : Array Edge) (guard : Option (Nat × Bool)) : execOp ρ { dst, op := .build 51 #[(0, a), (1, b), (2, c), (3, d), (4, e)], type := t, pos, after, guard } = cfB5 (ρ a) (ρ b) (ρ c) (ρ d) (ρ e) := by kernel_rfl
attribute [go_sem ↓] cfB5_x
theorem cfB5_run (n m lo hi s : Int) (d : List Int) (W : World) : (cfB5 (.int .i64 n) (.int .i64 m) (.agg (dgC d)) (.agg #[.int .i64 lo, .int .i64 hi]) (.int .i64 s)).run Tryz.prog W = .ok (.value (.agg (cfC ⟨n, m, d, lo, hi, s, zeros32 16⟩))) W := by kernel_rfl
def cfB0 : Sem Next := do pure (.value (← Instr.build 51 #[]))
theorem cfB0_x (ρ : Operand → Value) (dst : Option Tmp) (t : TypeId) (pos : String) (after : Array Edge) (guard : Option (Nat × Bool)) : execOp ρ { dst, op := .build 51 #[], type := t, pos, after, guard } = cfB0 := by kernel_rfl
attribute [go_sem ↓] cfB0_x
theorem cfB0_run (W : World) : cfB0.run Tryz.prog W = .ok (.value (.agg (cfC noCf))) W := by kernel_rfl
attribute [go_sem] cfB5_run cfB0_run
theorem cf_seal_set (s : Cf) (D : List Int) : laidOver (cfC s) 21 (dgC D).toList = cfC { s with sl := D } := by kernel_rfl
theorem cf_loaded {w : World} {b : Nat} {x : Cf} (h : rowOf w b 0 37 = some (cfC x)) : (loadVar 51 ⟨b, 0, none⟩).run Tryz.prog w = .ok (.agg (cfC x)) w := run_loadVar_row cf_ty h
def cfOf (k : Ky) (n : Int) (e : Ep) (at_ : Clk) : Cf := ⟨n, e.num, epName e, at_.lo, at_.hi, k.serial, zeros32 16⟩
noncomputable def cfSeal (k : Ky) (c : Cf) : Cf := { c with sl := makeN k 320 (cfParts c) }
def confirmB (k : Ky) (n : Int) (e : Ep) (at_ : Clk) : Bool := siteB n && okKy k && decide (k.party = 1000 + n) && okEp e && okClk at_
noncomputable def confirmN (k : Ky) (n : Int) (e : Ep) (at_ : Clk) : Cf × Int := if confirmB k n e at_ = true then (cfSeal k (cfOf k n e at_), 0) else (noCf, 1)
theorem zeros_ok : DgOk (zeros32 16) := ⟨rfl, by intro x hx; simp [zeros32] at hx; subst hx; omega⟩
theorem okEp_num {e : Ep} (h : okEp e = true) : 1 ≤ e.num ∧ e.num ≤ 1099511627776 := by
 simp only [okEp, Bool.and_eq_true, decide_eq_true_eq] at h
 exact ⟨h.1.1.1.1, h.1.1.1.2⟩
theorem okClk_lims {k : Clk} (h : okClk k = true) : 0 ≤ k.lo ∧ k.lo ≤ k.hi ∧ k.hi ≤ 1099511627776 := by
 simp only [okClk, Bool.and_eq_true, decide_eq_true_eq] at h
 omega
theorem cfOf_ok {k : Ky} {n : Int} {e : Ep} {at_ : Clk} (h : confirmB k n e at_ = true) : CfOk (cfOf k n e at_) := by
 simp only [confirmB, Bool.and_eq_true, decide_eq_true_eq] at h
 obtain ⟨⟨⟨⟨h1, h2⟩, h3⟩, h4⟩, h5⟩ := h
 have g1 := siteB_is.1 h1
 have g2 := okKy_lims h2
 have g4 := okEp_num h4
 have g5 := okClk_lims h5
 refine ⟨⟨epName_len e, epName_byt e⟩, zeros_ok, ?_⟩
 intro x hx
 simp only [cfInts, cfOf, List.mem_cons, List.not_mem_nil, or_false] at hx
 unfold i64
 rcases hx with rfl | rfl | rfl | rfl | rfl <;> omega
theorem confirm_lens {k : Ky} {n : Int} {e : Ep} {at_ : Clk} (h : confirmB k n e at_ = true) : lens ([k.secret] ++ cfParts (cfOf k n e at_) ++ [k.secret]) < 8796093022208 := by
 have h1 := cfParts_lens (cfOf_ok h)
 simp only [confirmB, Bool.and_eq_true, decide_eq_true_eq] at h
 have g2 := okKy_lims h.1.1.1.2
 exact lens_key (by omega) (by omega)
theorem aconfirm_any (k : Ky) (n : Int) (e : Ep) (p : Clk) (w : World) (hks : k.secret.size < 9223372036854775808) (hok : EpOk e) (hs : EpShort e) (ha : EpAt w e) (hk : KonstP w) :
  Calls Tryz.prog 17 #[.agg (kyC k), .int .i64 n, .agg (epC e), .agg (clkC p)] w fun r w' => r = .returned (.tuple #[.agg (cfC (confirmN k n e p).1), .int .i64 (confirmN k n e p).2]) ∧ Ext w w' := by
 have HS := lh (fun W => asite_any n W)
 have HKv := lh (fun W => kvalid_any k W hks)
 have HEv := lh (fun (W : World) (hx : Ext w W) => evalid_any e W (ha.on hx) (by have := hs.pu; omega) hok.rvl (fun p hp => by have := hs.what p hp; omega))
 have HCv := lh (fun W : World => cvalid_any p W)
 have HNm := lh (fun (W : World) (hx : Ext w W) => ename_any e W hok hs (ha.on hx) (RowAt.ext hk hx))
 have HPt := lh (fun (h : confirmB k n e p = true) W => cparts_any (cfOf k n e p) W (cfOf_ok h))
 have HMk := lh (fun (h : confirmB k n e p = true) (A : Option Addr) (c : Nat) (W : World) (h1 : ReadsStr W W.heap.size A (cfParts (cfOf k n e p))) (h2 : A = none → c = 0) (hx : Ext w W) => smake_any k 320 A c (cfParts (cfOf k n e p)) W h1 h2 (confirm_lens h) (RowAt.ext hk hx))
 have HO : Hid (confirmN k n e p = if confirmB k n e p = true then (cfSeal k (cfOf k n e p), 0) else (noCf, 1)) := lh rfl
 have HB : Hid (confirmB k n e p = (siteB n && okKy k && decide (k.party = 1000 + n) && okEp e && okClk p)) := lh rfl
 have hfk := ky_fits k
 have hfe := ep_fits e
 have hf0 := cf_fits noCf
 have HNo : Hid (confirmB k n e p = false → confirmN k n e p = (noCf, 1)) := lh (fun h => by rw [HO.out, h]; simp)
 clear hks hok hs ha hk
 cases bs : siteB n with
 | false =>
  have HR := lh (HNo.out (by rw [HB.out, bs]; simp))
  rw [bs] at HS
  generalize confirmN k n e p = R at *
  clear HPt HMk HO HB HNo HNm
  obtain ⟨p0, p1⟩ := p
  go_enter Tryz.func17, Tryz.ntmps17
  go_upto_region 2 with (first
   | (go_at_call 56; refine (HS.out _).mono ?_; rintro e w' ⟨rfl, hxl⟩; obtain ⟨xm, rfl⟩ := hxl.asLater; clear hxl)
   | (go_at_call 48; refine (HKv.out _).mono ?_; rintro e w' ⟨rfl, hxl⟩; obtain ⟨xn, rfl⟩ := hxl.asLater; clear hxl)
   | (go_at_call 57; refine (HEv.out _ (by (with_reducible repeat first|exact eR _|apply eD|apply eN|apply eA|apply eO|apply eS|apply eC);all_goals first|omega|simp <;> omega)).mono ?_; rintro e w' ⟨rfl, hxl⟩; obtain ⟨xo, rfl⟩ := hxl.asLater; clear hxl)
   | (go_at_call 49; refine (HCv.out _).mono ?_; rintro e w' ⟨rfl, hxl⟩; obtain ⟨xp, rfl⟩ := hxl.asLater; clear hxl))
  refine wp_world (fun W => Ext w W ∧ RowAt W (w.heap.size + 1 + 1 + 1) (cfC noCf)) ⟨(by (with_reducible repeat first|exact eR _|apply eD|apply eN|apply eA|apply eO|apply eS|apply eC);all_goals first|omega|simp <;> omega), (RowAt.newAt (by simp)).later _⟩ ?_
  rintro W1 ⟨x1, uR⟩
  have HX1 := lh x1
  have HUR := lh uR
  have hlr := uR.lt
  have hrm : roomOf W1 (w.heap.size + 1 + 1 + 1) 0 37 = true := by rw [uR.room]; rfl
  clear x1 uR
  go_wp2
  rw [HR.out]
  refine post_two (v1 := .agg (cfC noCf)) (v2 := .int .i64 1) Tryz.results17 rfl ⟨_, rfl, cf_loaded ((HUR.out.store (ds := cfC noCf) rfl).all rfl (by omega))⟩ rfl ⟨rfl, (by (with_reducible repeat first|exact HX1.out|exact eR _|apply eD|apply eN|apply eA|apply eO|apply eS|apply eC);all_goals first|omega|simp <;> omega)⟩
 | true =>
  obtain ⟨n0, n1⟩ := siteB_is.1 bs
  cases bk : okKy k with
  | false =>
   have HR := lh (HNo.out (by rw [HB.out, bk]; simp))
   rw [bs] at HS
   rw [bk] at HKv
   generalize confirmN k n e p = R at *
   clear HPt HMk HO HB HNo HNm
   obtain ⟨p0, p1⟩ := p
   go_enter Tryz.func17, Tryz.ntmps17
   go_upto_region 2 with (first
    | (go_at_call 56; refine (HS.out _).mono ?_; rintro e w' ⟨rfl, hxl⟩; obtain ⟨xm, rfl⟩ := hxl.asLater; clear hxl)
    | (go_at_call 48; refine (HKv.out _).mono ?_; rintro e w' ⟨rfl, hxl⟩; obtain ⟨xn, rfl⟩ := hxl.asLater; clear hxl)
    | (go_at_call 57; refine (HEv.out _ (by (with_reducible repeat first|exact eR _|apply eD|apply eN|apply eA|apply eO|apply eS|apply eC);all_goals first|omega|simp <;> omega)).mono ?_; rintro e w' ⟨rfl, hxl⟩; obtain ⟨xo, rfl⟩ := hxl.asLater; clear hxl)
    | (go_at_call 49; refine (HCv.out _).mono ?_; rintro e w' ⟨rfl, hxl⟩; obtain ⟨xp, rfl⟩ := hxl.asLater; clear hxl))
   refine wp_world (fun W => Ext w W ∧ RowAt W (w.heap.size + 1 + 1 + 1) (cfC noCf)) ⟨(by (with_reducible repeat first|exact eR _|apply eD|apply eN|apply eA|apply eO|apply eS|apply eC);all_goals first|omega|simp <;> omega), (RowAt.newAt (by simp)).later _⟩ ?_
   rintro W1 ⟨x1, uR⟩
   have HX1 := lh x1
   have HUR := lh uR
   have hlr := uR.lt
   have hrm : roomOf W1 (w.heap.size + 1 + 1 + 1) 0 37 = true := by rw [uR.room]; rfl
   clear x1 uR
   go_wp2
   rw [HR.out]
   refine post_two (v1 := .agg (cfC noCf)) (v2 := .int .i64 1) Tryz.results17 rfl ⟨_, rfl, cf_loaded ((HUR.out.store (ds := cfC noCf) rfl).all rfl (by omega))⟩ rfl ⟨rfl, (by (with_reducible repeat first|exact HX1.out|exact eR _|apply eD|apply eN|apply eA|apply eO|apply eS|apply eC);all_goals first|omega|simp <;> omega)⟩
  | true =>
   by_cases bp : k.party = 1000 + n
   ·have e0 : (k.party != 1000 + n) = false := by simpa using bp
    cases be : okEp e with
    | false =>
     have HR := lh (HNo.out (by rw [HB.out, be]; simp))
     rw [bs] at HS
     rw [bk] at HKv
     rw [be] at HEv
     clear bp
     generalize confirmN k n e p = R at *
     clear HPt HMk HO HB HNo HNm
     obtain ⟨p0, p1⟩ := p
     go_enter Tryz.func17, Tryz.ntmps17
     go_upto_region 2 with (first
      | (go_at_call 56; refine (HS.out _).mono ?_; rintro e w' ⟨rfl, hxl⟩; obtain ⟨xm, rfl⟩ := hxl.asLater; clear hxl)
      | (go_at_call 48; refine (HKv.out _).mono ?_; rintro e w' ⟨rfl, hxl⟩; obtain ⟨xn, rfl⟩ := hxl.asLater; clear hxl)
      | (go_at_call 57; refine (HEv.out _ (by (with_reducible repeat first|exact eR _|apply eD|apply eN|apply eA|apply eO|apply eS|apply eC);all_goals first|omega|simp <;> omega)).mono ?_; rintro e w' ⟨rfl, hxl⟩; obtain ⟨xo, rfl⟩ := hxl.asLater; clear hxl)
      | (go_at_call 49; refine (HCv.out _).mono ?_; rintro e w' ⟨rfl, hxl⟩; obtain ⟨xp, rfl⟩ := hxl.asLater; clear hxl))
     refine wp_world (fun W => Ext w W ∧ RowAt W (w.heap.size + 1 + 1 + 1) (cfC noCf)) ⟨(by (with_reducible repeat first|exact eR _|apply eD|apply eN|apply eA|apply eO|apply eS|apply eC);all_goals first|omega|simp <;> omega), (RowAt.newAt (by simp)).later _⟩ ?_
     rintro W1 ⟨x1, uR⟩
     have HX1 := lh x1
     have HUR := lh uR
     have hlr := uR.lt
     have hrm : roomOf W1 (w.heap.size + 1 + 1 + 1) 0 37 = true := by rw [uR.room]; rfl
     clear x1 uR
     go_wp2
     rw [HR.out]
     refine post_two (v1 := .agg (cfC noCf)) (v2 := .int .i64 1) Tryz.results17 rfl ⟨_, rfl, cf_loaded ((HUR.out.store (ds := cfC noCf) rfl).all rfl (by omega))⟩ rfl ⟨rfl, (by (with_reducible repeat first|exact HX1.out|exact eR _|apply eD|apply eN|apply eA|apply eO|apply eS|apply eC);all_goals first|omega|simp <;> omega)⟩
    | true =>
     cases bc : okClk p with
     | false =>
      have HR := lh (HNo.out (by rw [HB.out, bc]; simp))
      rw [bs] at HS
      rw [bk] at HKv
      rw [be] at HEv
      rw [bc] at HCv
      clear bp
      generalize confirmN k n e p = R at *
      clear HPt HMk HO HB HNo HNm
      obtain ⟨p0, p1⟩ := p
      go_enter Tryz.func17, Tryz.ntmps17
      go_upto_region 2 with (first
       | (go_at_call 56; refine (HS.out _).mono ?_; rintro e w' ⟨rfl, hxl⟩; obtain ⟨xm, rfl⟩ := hxl.asLater; clear hxl)
       | (go_at_call 48; refine (HKv.out _).mono ?_; rintro e w' ⟨rfl, hxl⟩; obtain ⟨xn, rfl⟩ := hxl.asLater; clear hxl)
       | (go_at_call 57; refine (HEv.out _ (by (with_reducible repeat first|exact eR _|apply eD|apply eN|apply eA|apply eO|apply eS|apply eC);all_goals first|omega|simp <;> omega)).mono ?_; rintro e w' ⟨rfl, hxl⟩; obtain ⟨xo, rfl⟩ := hxl.asLater; clear hxl)
       | (go_at_call 49; refine (HCv.out _).mono ?_; rintro e w' ⟨rfl, hxl⟩; obtain ⟨xp, rfl⟩ := hxl.asLater; clear hxl))
      refine wp_world (fun W => Ext w W ∧ RowAt W (w.heap.size + 1 + 1 + 1) (cfC noCf)) ⟨(by (with_reducible repeat first|exact eR _|apply eD|apply eN|apply eA|apply eO|apply eS|apply eC);all_goals first|omega|simp <;> omega), (RowAt.newAt (by simp)).later _⟩ ?_
      rintro W1 ⟨x1, uR⟩
      have HX1 := lh x1
      have HUR := lh uR
      have hlr := uR.lt
      have hrm : roomOf W1 (w.heap.size + 1 + 1 + 1) 0 37 = true := by rw [uR.room]; rfl
      clear x1 uR
      go_wp2
      rw [HR.out]
      refine post_two (v1 := .agg (cfC noCf)) (v2 := .int .i64 1) Tryz.results17 rfl ⟨_, rfl, cf_loaded ((HUR.out.store (ds := cfC noCf) rfl).all rfl (by omega))⟩ rfl ⟨rfl, (by (with_reducible repeat first|exact HX1.out|exact eR _|apply eD|apply eN|apply eA|apply eO|apply eS|apply eC);all_goals first|omega|simp <;> omega)⟩
     | true =>
      have hB1 : confirmB k n e p = true := by rw [HB.out, bs, bk, be, bc, decide_eq_true bp]; rfl
      have HR := lh (show confirmN k n e p = (cfSeal k (cfOf k n e p), 0) by rw [HO.out, if_pos hB1])
      have HPt' := lh (HPt.out hB1)
      have HMk' := lh (HMk.out hB1)
      have HSl : Hid (cfSeal k (cfOf k n e p) = { cfOf k n e p with sl := makeN k 320 (cfParts (cfOf k n e p)) }) := lh rfl
      have HC0 : Hid (cfOf k n e p = ⟨n, e.num, epName e, p.lo, p.hi, k.serial, zeros32 16⟩) := lh rfl
      rw [bs] at HS
      rw [bk] at HKv
      rw [be] at HEv
      rw [bc] at HCv
      generalize cfOf k n e p = c at *
      generalize makeN k 320 (cfParts c) = D at *
      generalize cfSeal k c = cs at *
      generalize confirmN k n e p = R at *
      have hfd : fitsRow 16 (dgC (epName e)) = true := by simp [fitsRow, dgC, Value.oneCell']
      have hfD : fitsRow 16 (dgC D) = true := by simp [fitsRow, dgC, Value.oneCell']
      generalize epName e = N at *
      clear HPt HMk HO HB HNo bs bk bp be bc hB1
      obtain ⟨p0, p1⟩ := p
      go_enter Tryz.func17, Tryz.ntmps17
      go_upto_region 3 with (first
       | (go_at_call 56; refine (HS.out _).mono ?_; rintro e w' ⟨rfl, hxl⟩; obtain ⟨xm, rfl⟩ := hxl.asLater; clear hxl)
       | (go_at_call 48; refine (HKv.out _).mono ?_; rintro e w' ⟨rfl, hxl⟩; obtain ⟨xn, rfl⟩ := hxl.asLater; clear hxl)
       | (go_at_call 57; refine (HEv.out _ (by (with_reducible repeat first|exact eR _|apply eD|apply eN|apply eA|apply eO|apply eS|apply eC);all_goals first|omega|simp <;> omega)).mono ?_; rintro e w' ⟨rfl, hxl⟩; obtain ⟨xo, rfl⟩ := hxl.asLater; clear hxl)
       | (go_at_call 49; refine (HCv.out _).mono ?_; rintro e w' ⟨rfl, hxl⟩; obtain ⟨xp, rfl⟩ := hxl.asLater; clear hxl))
      refine wp_world (fun W => Ext w W ∧ RowAt W w.heap.size (kyC k) ∧ RowAt W (w.heap.size + 1) (epC e) ∧ RowAt W (w.heap.size + 1 + 1) #[.int .i64 p0, .int .i64 p1] ∧ RowAt W (w.heap.size + 1 + 1 + 1) (cfC noCf)) ⟨(by (with_reducible repeat first|exact eR _|apply eD|apply eN|apply eA|apply eO|apply eS|apply eC);all_goals first|omega|simp <;> omega), ?_, ?_, ?_, ?_⟩ ?_
      ·exact ((((RowAt.new _ _ _).alloc _).alloc _).alloc _).later _
      ·exact (((RowAt.newAt (by simp)).alloc _).alloc _).later _
      ·exact ((RowAt.newAt (by simp)).alloc _).later _
      ·exact (RowAt.newAt (by simp)).later _
      obtain ⟨B, hB⟩ : ∃ B, w.heap.size = B := ⟨_, rfl⟩
      rw [hB]
      rintro W1 ⟨x1, uB, uE, uP, uR⟩
      have HX1 := lh x1
      have HUB := lh uB
      have HUR := lh uR
      have hlu := uR.lt
      have qE_0 : W1.cell? ⟨B+1, 0, none⟩ = some (.int .i64 e.num) := (uE.cell 0).trans (ep_g0 e)
      have kE_0_38 : rowOf W1 (B+1) 0 38 = some (epC e) := uE.all rfl (by omega)
      have qP_0 : W1.cell? ⟨B+1+1, 0, none⟩ = some (.int .i64 p0) := uP.cell 0
      have qP_1 : W1.cell? ⟨B+1+1, 1, none⟩ = some (.int .i64 p1) := uP.cell 1
      have qB_1 : W1.cell? ⟨B, 1, none⟩ = some (.int .i64 k.serial) := (uB.cell 1).trans (ky_g1 k)
      clear x1 uB uE uP uR
      have hfc := cf_fits ⟨n, e.num, N, p0, p1, k.serial, zeros32 16⟩
      refine wp_region_rowN 11 (by kernel_rfl) 9 10 (fun i => ([.int .i64 n, .pointer (some ⟨B+1, 0, none⟩), .int .i64 e.num, .agg (epC e), .agg (dgC N), .agg #[.int .i64 p0, .int .i64 p1], .pointer (some ⟨B, 1, none⟩), .int .i64 k.serial, .agg (cfC ⟨n, e.num, N, p0, p1, k.serial, zeros32 16⟩), undef, undef] : List Value).getD i undef) (cfC ⟨n, e.num, N, p0, p1, k.serial, zeros32 16⟩) (by kernel_rfl) (by kernel_rfl) (by decide) (dk (by kernel_rfl)) (dk (by kernel_rfl)) (dk (by kernel_rfl)) (lt_cons ?_ (lt_cons ?_ (lt_cons ?_ (lt_cons ?_ (lt_cons ?_ (lt_cons ?_ (lt_cons ?_ (lt_cons ?_ (lt_cons ?_ (lt_cons ?_ (lt_cons ?_ (lt_none)))))))))))) ?_ ?_ ?_
      ·
       intro _ _
       refine sop rfl fun xs W HW hsW HD Q' HQ => ?_; simp only [fillAt, dstOf, lc0, lcs, obs, Act.put, lsa, lsz, lss, nz, Nat.reduceAdd] at HQ ⊢
       go_wp2
       exact HQ.out _ _ (eR _) rfl
      ·
       intro _ _
       refine sop rfl fun xs W HW hsW HD Q' HQ => ?_; simp only [fillAt, dstOf, lc0, lcs, obs, Act.put, lsa, lsz, lss, nz, Nat.reduceAdd] at HQ ⊢
       go_wp2
       exact HQ.out _ _ (eR _) rfl
      ·
       intro _ _
       refine sop rfl fun xs W HW hsW HD Q' HQ => ?_; simp only [fillAt, dstOf, lc0, lcs, obs, Act.put, lsa, lsz, lss, nz, Nat.reduceAdd] at HQ ⊢
       have hd1 : xs 1 = .pointer (some ⟨B+1, 0, none⟩) := (HD.out 1 (dk (by kernel_rfl)))
       generalize xs 1 = x1 at hd1 HQ ⊢; subst hd1
       have hc : W.cell? ⟨B+1, 0, none⟩ = some (.int .i64 e.num) := (HW.out.cell (p := ⟨B+1, 0, none⟩) (by show B+1 < _; omega)).trans qE_0
       go_wp2
       exact HQ.out _ _ (eR _) rfl
      ·
       intro _ _
       refine sop rfl fun xs W HW hsW HD Q' HQ => ?_; simp only [fillAt, dstOf, lc0, lcs, obs, Act.put, lsa, lsz, lss, nz, Nat.reduceAdd] at HQ ⊢
       have hc := (row_extW HW.out (b := B+1) (by omega) 0 38).trans kE_0_38
       go_wp2
       exact HQ.out _ _ (eR _) rfl
      ·
       intro _ _
       refine sop rfl fun xs W HW hsW HD Q' HQ => ?_; simp only [fillAt, dstOf, lc0, lcs, obs, Act.put, lsa, lsz, lss, nz, Nat.reduceAdd] at HQ ⊢
       have hd3 : xs 3 = .agg (epC e) := (HD.out 3 (dk (by kernel_rfl)))
       generalize xs 3 = x3 at hd3 HQ ⊢; subst hd3
       go_wp2_with (go_at_call 58; refine (HNm.out _ (HX1.out.trans HW.out)).mono ?_; rintro e w1 ⟨rfl, hx⟩)
       exact HQ.out _ _ hx rfl
      ·
       intro _ _
       refine sop rfl fun xs W HW hsW HD Q' HQ => ?_; simp only [fillAt, dstOf, lc0, lcs, obs, Act.put, lsa, lsz, lss, nz, Nat.reduceAdd] at HQ ⊢
       have hc := (HW.out.cell (p := ⟨B+1+1, 0, none⟩) (by show B+1+1 < _; omega)).trans qP_0
       have hc2 := (HW.out.cell (p := ⟨B+1+1, 1, none⟩) (by show B+1+1 < _; omega)).trans qP_1
       go_wp2
       exact HQ.out _ _ (eR _) rfl
      ·
       intro _ _
       refine sop rfl fun xs W HW hsW HD Q' HQ => ?_; simp only [fillAt, dstOf, lc0, lcs, obs, Act.put, lsa, lsz, lss, nz, Nat.reduceAdd] at HQ ⊢
       go_wp2
       exact HQ.out _ _ (eR _) rfl
      ·
       intro _ _
       refine sop rfl fun xs W HW hsW HD Q' HQ => ?_; simp only [fillAt, dstOf, lc0, lcs, obs, Act.put, lsa, lsz, lss, nz, Nat.reduceAdd] at HQ ⊢
       have hd6 : xs 6 = .pointer (some ⟨B, 1, none⟩) := (HD.out 6 (dk (by kernel_rfl)))
       generalize xs 6 = x6 at hd6 HQ ⊢; subst hd6
       have hc : W.cell? ⟨B, 1, none⟩ = some (.int .i64 k.serial) := (HW.out.cell (p := ⟨B, 1, none⟩) (by show B < _; omega)).trans qB_1
       go_wp2
       exact HQ.out _ _ (eR _) rfl
      ·
       intro _ _
       refine sop rfl fun xs W HW hsW HD Q' HQ => ?_; simp only [fillAt, dstOf, lc0, lcs, obs, Act.put, lsa, lsz, lss, nz, Nat.reduceAdd] at HQ ⊢
       have hd0 : xs 0 = .int .i64 n := (HD.out 0 (dk (by kernel_rfl)))
       generalize xs 0 = x0 at hd0 HQ ⊢; subst hd0
       have hd2 : xs 2 = .int .i64 e.num := (HD.out 2 (dk (by kernel_rfl)))
       generalize xs 2 = x2 at hd2 HQ ⊢; subst hd2
       have hd4 : xs 4 = .agg (dgC N) := (HD.out 4 (dk (by kernel_rfl)))
       generalize xs 4 = x4 at hd4 HQ ⊢; subst hd4
       have hd5 : xs 5 = .agg #[.int .i64 p0, .int .i64 p1] := (HD.out 5 (dk (by kernel_rfl)))
       generalize xs 5 = x5 at hd5 HQ ⊢; subst hd5
       have hd7 : xs 7 = .int .i64 k.serial := (HD.out 7 (dk (by kernel_rfl)))
       generalize xs 7 = x7 at hd7 HQ ⊢; subst hd7
       go_wp2
       exact HQ.out _ _ (eR _) rfl
      ·exact fun h => absurd rfl h
      ·exact fun _ h => absurd rfl h
      ·
       refine sop rfl fun xs W HW hsW HD Q' HQ => ?_; simp only [fillAt, dstOf, lc0, lcs, obs, Act.put, lsa, lsz, lss, nz, Nat.reduceAdd] at HQ ⊢
       go_wp2
       exact HQ.out _ _ ((eR _).alloc _) ⟨W.heap.size, rfl, by omega, _, RowAt.new _ _ _, rfl⟩
      ·
       refine sop rfl fun xs W HW hsW HD Q' HQ => ?_; simp only [fillAt, dstOf, lc0, lcs, obs, Act.put, lsa, lsz, lss, nz, Nat.reduceAdd] at HQ ⊢
       have hdv : xs 8 = .agg (cfC ⟨n, e.num, N, p0, p1, k.serial, zeros32 16⟩) := (HD.out 8 (dk (by kernel_rfl)))
       obtain ⟨bb, hxa, hbb, ds, hrb, hzb⟩ : ∃ b, xs 9 = .pointer (some ⟨b, 0, none⟩) ∧ W1.heap.size ≤ b ∧ ∃ ds, RowAt W b ds ∧ ds.size = (cfC ⟨n, e.num, N, p0, p1, k.serial, zeros32 16⟩).size := (HD.out 9 (dk (by kernel_rfl)))
       have hrm : roomOf W bb 0 37 = true := by rw [hrb.room, hzb]; rfl
       generalize xs 8 = x8 at hdv HQ ⊢; subst hdv
       generalize xs 9 = x9 at hxa HQ ⊢; subst hxa
       clear hrb hzb
       go_wp2
       exact HQ.out undef bb rfl
      intro xs W3 g hW hxb hbaseg hrowg hvs
      simp only [fillAt, dstOf, lc0, lcs, obs, Act.put, lsa, lsz, lss, nz, Nat.reduceAdd]
      generalize xs 9 = xa at *; subst hxb
      have HW3 := lh (HX1.out.trans hW)
      have HWW3 := lh hW
      have HRg := lh hrowg
      have hlg := hrowg.lt
      clear hW hvs hrowg qE_0 kE_0_38 qP_0 qP_1 qB_1
      rw [← HC0.out] at HRg
      have hs13 := HWW3.out.size
      have kB_0_5 : rowOf W3 B 0 5 = some (kyC k) := (HUB.out.ext HWW3.out).all rfl (by omega)
      have kg_0_37 : rowOf W3 g 0 37 = some (cfC c) := HRg.out.all rfl (by omega)
      have HUR3 := lh (HUR.out.ext HWW3.out)
      clear HUB HUR HC0 hfc
      go_upto_region 4 with (fail)
      refine wp_region_soft 5 (softsL [.eq (.agg (kyC k)), .eq (.agg (cfC c)), readS (cfParts c), .eq (.agg (dgC D)), .eq (.pointer (some ⟨g, 21, none⟩))]) (by kernel_rfl) (by kernel_rfl) (lt_cons ?_ (lt_cons ?_ (lt_cons ?_ (lt_cons ?_ (lt_cons ?_ (lt_none)))))) ?_
      any_goals (refine sop rfl fun xs W HW hsW HD Q' HQ => ?_; simp only [fillAt, dstOf, lc0, lcs, obs, Act.put, lsa, lsz, lss, nz, Nat.reduceAdd] at HQ ⊢)
      ·
       have hc := (row_extW HW.out (b := B) (by omega) 0 5).trans kB_0_5
       go_wp2
       exact HQ.out _ _ (eR _) rfl
      ·
       have hc := (row_extW HW.out (b := g) (by omega) 0 37).trans kg_0_37
       go_wp2
       exact HQ.out _ _ (eR _) rfl
      ·
       have hd1 : xs 1 = .agg (cfC c) := (HD.out 1 (dk (by kernel_rfl)))
       generalize xs 1 = x1 at hd1 HQ ⊢; subst hd1
       go_wp2_with (go_at_call 60; refine (HPt'.out _).mono ?_; rintro e w1 ⟨A, c, rfl, h1, h2, hx⟩)
       exact HQ.out _ _ hx ⟨A, c, rfl, h1, h2⟩
      ·
       have hd0 : xs 0 = .agg (kyC k) := (HD.out 0 (dk (by kernel_rfl)))
       generalize xs 0 = x0 at hd0 HQ ⊢; subst hd0
       obtain ⟨A2, c2, h2, hr2, hz2⟩ : (readS (cfParts c)).S (xs 2) W := (HD.out 2 (dk (by kernel_rfl)))
       generalize xs 2 = x2 at h2 HQ ⊢; subst h2
       go_wp2_with (go_at_call 59; refine (HMk'.out A2 c2 _ hr2 hz2 (HW3.out.trans HW.out)).mono ?_; rintro e w1 ⟨rfl, hx⟩)
       exact HQ.out _ _ hx rfl
      ·
       go_wp2
       exact HQ.out _ _ (eR _) rfl
      intro xs W4 hW hS
      have h3 : xs 3 = .agg (dgC D) := hS 3 (by omega)
      have h4 : xs 4 = .pointer (some ⟨g, 21, none⟩) := hS 4 (by omega)
      simp only [fillAt, dstOf, lc0, lcs, obs, Act.put, lsa, lsz, lss, nz, Nat.reduceAdd, List.drop_succ_cons, List.drop_zero, List.drop_nil]
      generalize xs 3 = x3 at *; subst h3
      generalize xs 4 = x4 at *; subst h4
      have HW4 := lh (HW3.out.trans hW)
      have HWW4 := lh hW
      clear hS hW kB_0_5 kg_0_37
      have HU13 := lh (HRg.out.ext HWW4.out)
      have HUR4 := lh (HUR3.out.ext HWW4.out)
      have m1 : roomOf W4 g 21 16 = true := by rw [HU13.out.room]; rfl
      have hl4 := HWW4.out.size
      go_upto_region 5 with (fail)
      refine wp_world (fun W => Ext w W ∧ RowAt W g (cfC { c with sl := D }) ∧ RowAt W (B+1+1+1) (cfC noCf)) ⟨?_, ?_, ?_⟩ ?_
      ·exact HW4.out.setCells (by have := HX1.out.size; omega) _ _
      ·have h := HU13.out.sets 21 (dgC D).toList
       rw [cf_seal_set] at h
       exact h
      ·exact HUR4.out.others (by omega) _ _
      rintro W5 ⟨x5, u5, ur5⟩
      have HW5 := lh x5
      have HUR5 := lh ur5
      have k1 : rowOf W5 g 0 37 = some (cfC { c with sl := D }) := u5.all rfl (by omega)
      have m2 : roomOf W5 (B+1+1+1) 0 37 = true := by rw [ur5.room]; rfl
      have hl5 := u5.lt
      have hl5r := ur5.lt
      clear x5 u5 ur5 m1 HU13 HUR4
      have hft := cf_fits { c with sl := D }
      go_wp2
      rw [HR.out, HSl.out]
      refine post_two (v1 := .agg (cfC { c with sl := D })) (v2 := .int .i64 0) Tryz.results17 rfl ⟨_, rfl, cf_loaded ((HUR5.out.store (ds := cfC { c with sl := D }) rfl).all rfl (by omega))⟩ rfl ⟨rfl, (by (with_reducible repeat first|exact HW5.out|exact eR _|apply eD|apply eN|apply eA|apply eO|apply eS|apply eC);all_goals first|omega|simp <;> omega)⟩
   ·have e0 : (k.party != 1000 + n) = true := by simpa using bp
    have HR := lh (HNo.out (by rw [HB.out, decide_eq_false bp]; simp))
    rw [bs] at HS
    rw [bk] at HKv
    clear bp
    generalize confirmN k n e p = R at *
    clear HPt HMk HO HB HNo HNm
    obtain ⟨p0, p1⟩ := p
    go_enter Tryz.func17, Tryz.ntmps17
    go_upto_region 2 with (first
     | (go_at_call 56; refine (HS.out _).mono ?_; rintro e w' ⟨rfl, hxl⟩; obtain ⟨xm, rfl⟩ := hxl.asLater; clear hxl)
     | (go_at_call 48; refine (HKv.out _).mono ?_; rintro e w' ⟨rfl, hxl⟩; obtain ⟨xn, rfl⟩ := hxl.asLater; clear hxl)
     | (go_at_call 57; refine (HEv.out _ (by (with_reducible repeat first|exact eR _|apply eD|apply eN|apply eA|apply eO|apply eS|apply eC);all_goals first|omega|simp <;> omega)).mono ?_; rintro e w' ⟨rfl, hxl⟩; obtain ⟨xo, rfl⟩ := hxl.asLater; clear hxl)
     | (go_at_call 49; refine (HCv.out _).mono ?_; rintro e w' ⟨rfl, hxl⟩; obtain ⟨xp, rfl⟩ := hxl.asLater; clear hxl))
    refine wp_world (fun W => Ext w W ∧ RowAt W (w.heap.size + 1 + 1 + 1) (cfC noCf)) ⟨(by (with_reducible repeat first|exact eR _|apply eD|apply eN|apply eA|apply eO|apply eS|apply eC);all_goals first|omega|simp <;> omega), (RowAt.newAt (by simp)).later _⟩ ?_
    rintro W1 ⟨x1, uR⟩
    have HX1 := lh x1
    have HUR := lh uR
    have hlr := uR.lt
    have hrm : roomOf W1 (w.heap.size + 1 + 1 + 1) 0 37 = true := by rw [uR.room]; rfl
    clear x1 uR
    go_wp2
    rw [HR.out]
    refine post_two (v1 := .agg (cfC noCf)) (v2 := .int .i64 1) Tryz.results17 rfl ⟨_, rfl, cf_loaded ((HUR.out.store (ds := cfC noCf) rfl).all rfl (by omega))⟩ rfl ⟨rfl, (by (with_reducible repeat first|exact HX1.out|exact eR _|apply eD|apply eN|apply eA|apply eO|apply eS|apply eC);all_goals first|omega|simp <;> omega)⟩
def bestS {α : Type} (z : α) (p : α → Bool) (q : α → α → Bool) (l : List α) : α × Bool := l.foldl (fun o x => if p x && (!o.2 || q x o.1) then (x, true) else o) (z, false)
theorem best_snoc {α : Type} (z : α) (p : α → Bool) (q : α → α → Bool) (l : List α) (k : Nat) (h : k < l.length) : bestS z p q (l.take (k + 1)) = if p l[k] && (!(bestS z p q (l.take k)).2 || q l[k] (bestS z p q (l.take k)).1) then (l[k], true) else bestS z p q (l.take k) := by
 unfold bestS
 rw [List.take_succ_eq_append_getElem h, List.foldl_append]
 rfl
theorem le_loaded {w : World} {b : Nat} {x : Le} (h : rowOf w b 0 20 = some (leC x)) : (loadVar 87 ⟨b, 0, none⟩).run Tryz.prog w = .ok (.agg (leC x)) w := run_loadVar_row le_ty h
theorem ln_loaded {w : World} {b : Nat} {x : Ln} (h : rowOf w b 0 59 = some (lnC x)) : (loadVar 89 ⟨b, 0, none⟩).run Tryz.prog w = .ok (.agg (lnC x)) w := run_loadVar_row ln_ty h
theorem bestCf_any (A : Option Addr) (c : Nat) (l : List Cf) (p : Cf → Bool) (q : Cf → Cf → Bool) (bg be : Nat) (w : World) (hl : l.length ≤ 9223372036854775807) (hr : Reads 37 cfL w w.heap.size A l)
  (hp : ∀ (k : Nat) (h : k < l.length) (W : World), Ext w W → Calls Tryz.prog 70 #[.agg (cfC l[k]), .pointer (some ⟨bg, 0, none⟩), .pointer (some ⟨be, 0, none⟩)] W fun e w' => e = .returned (.bool (p l[k])) ∧ Ext W w')
  (hq : ∀ (x y : Cf) (W : World), Ext w W → Calls Tryz.prog 72 #[.agg (cfC x), .agg (cfC y)] W fun e w' => e = .returned (.bool (q x y)) ∧ Ext W w') :
  Calls Tryz.prog 71 #[.slice A l.length c, .func (.func 70) #[] #[.pointer (some ⟨bg, 0, none⟩), .pointer (some ⟨be, 0, none⟩)], .func (.func 72) #[] #[]] w fun e w' => e = .returned (.tuple #[.agg (cfC (bestS noCf p q l).1), .bool (bestS noCf p q l).2]) ∧ Ext w w' := by
 have HR := lh hr
 have HP := lh hp
 have HQf := lh hq
 have hf0 := cf_fits noCf
 clear hr hp hq
 go_enter Tryz.func71, Tryz.ntmps71
 go_wp2
 refine wp_world (fun W => Ext w W ∧ RowAt W w.heap.size (cfC noCf) ∧ W.heap.size = w.heap.size + 1) ⟨(by (with_reducible repeat first|exact eR _|apply eD|apply eN|apply eA|apply eO|apply eS|apply eC);all_goals first|omega|simp <;> omega), RowAt.new _ _ _, by simp⟩ ?_
 obtain ⟨B, hB⟩ : ∃ B, w.heap.size = B := ⟨_, rfl⟩
 rw [hB]
 rintro W1 ⟨x1, u0, hs1⟩
 have HX1 := lh x1
 have HU0 := lh u0
 clear x1 u0
 go_loopw [7, 12] (fun t i wr => ∃ k : Nat, k ≤ l.length ∧ t = .bool (bestS noCf p q (l.take k)).2 ∧ i = .int .i64 k ∧ Hid (RowAt wr B (cfC (bestS noCf p q (l.take k)).1)) ∧ Hid (Ext w wr)) (fun _ i _ => l.length - (intOf i).toNat)
 case atStart => exact ⟨0, Nat.zero_le _, rfl, rfl, HU0, HX1⟩
 case round =>
  obtain ⟨k, hk, rfl, rfl, HK, HX⟩ := hrel
  have hsz := HX.out.size
  have hBl := HK.out.lt
  by_cases hlt : k < l.length
  ·obtain ⟨b, off, rfl, hb, hrow⟩ := reads_row cfE (HR.out.ext HX.out (Nat.le_refl _)) k hlt
   have hb2 : b < wr.heap.size := by omega
   have HP1 := lh (HP.out k hlt)
   have HS := lh (best_snoc noCf p q l k hlt)
   change rowOf wr b (off + k * 37) 37 = some (cfC l[k]) at hrow
   have hfx := cf_fits l[k]
   generalize bestS noCf p q (l.take k) = o at *
   obtain ⟨cur, is⟩ := o
   generalize l[k] = x at *
   have HQ1 := lh (fun W hx => HQf.out x cur W hx)
   have hfc := cf_fits cur
   simp only at *
   go_upto_region 4 with (fail)
   refine wp_world (fun W => Ext w W ∧ RowAt W B (cfC cur) ∧ RowAt W wr.heap.size (cfC x)) ⟨(by (with_reducible repeat first|exact HX.out|exact eR _|apply eD|apply eN|apply eA|apply eO|apply eS|apply eC);all_goals first|omega|simp <;> omega), (HK.out.alloc _).others (by omega) _ _, (RowAt.newAt (by simp)).store rfl⟩ ?_
   generalize hg : wr.heap.size = g
   rintro W5 ⟨x5, uo, ug⟩
   have HX5 := lh x5
   have HUo := lh uo
   have hl5 := ug.lt
   have hlo := uo.lt
   have hs5 := x5.size
   have kg : rowOf W5 g 0 37 = some (cfC x) := ug.all rfl (by omega)
   have ko : rowOf W5 B 0 37 = some (cfC cur) := uo.all rfl (by omega)
   have hBg : B < g := by omega
   clear ug uo x5 hrow HK
   cases hpx : p x with
   | false =>
    rw [hpx] at HP1
    have HS1 : Hid (bestS noCf p q (l.take (k + 1)) = (cur, is)) := lh (by rw [HS.out, hpx]; rfl)
    clear HS hpx
    go_wp2_with (first
     | (go_at_call 70; refine (HP1.out _ (by (with_reducible repeat first|exact HX5.out|exact eR _|apply eD|apply eN|apply eA|apply eO|apply eS|apply eC);all_goals first|omega|simp <;> omega)).mono ?_; rintro e w' ⟨rfl, hxl⟩; obtain ⟨xm, rfl⟩ := hxl.asLater; clear hxl))
    go_roundw
    case rel => exact ⟨k + 1, by omega, by rw [HS1.out], by go_num, by rw [HS1.out]; exact lh (HUo.out.later _), lh (by (with_reducible repeat first|exact HX5.out|exact eR _|apply eD|apply eN|apply eA|apply eO|apply eS|apply eC);all_goals first|omega|simp <;> omega)⟩
    case measure => simp [intOf]; omega
   | true =>
    rw [hpx] at HP1
    cases is with
    | false =>
     have HS1 : Hid (bestS noCf p q (l.take (k + 1)) = (x, true)) := lh (by rw [HS.out, hpx]; rfl)
     have hm : roomOf W5 B 0 37 = true := by rw [HUo.out.room]; rfl
     clear HS hpx
     go_wp2_with (first
      | (go_at_call 70; refine (HP1.out _ (by (with_reducible repeat first|exact HX5.out|exact eR _|apply eD|apply eN|apply eA|apply eO|apply eS|apply eC);all_goals first|omega|simp <;> omega)).mono ?_; rintro e w' ⟨rfl, hxl⟩; obtain ⟨xm, rfl⟩ := hxl.asLater; clear hxl))
     go_roundw
     case rel => exact ⟨k + 1, by omega, by rw [HS1.out], by go_num, by rw [HS1.out]; exact lh ((HUo.out.later _).store rfl), lh (Ext.setCells (HX5.out.onto _) (by omega) _ _)⟩
     case measure => simp [intOf]; omega
    | true =>
     cases hqx : q x cur with
     | false =>
      rw [hqx] at HQ1
      have HS1 : Hid (bestS noCf p q (l.take (k + 1)) = (cur, true)) := lh (by rw [HS.out]; simp [hpx, hqx])
      clear HS hpx hqx
      go_wp2_with (first
       | (go_at_call 70; refine (HP1.out _ (by (with_reducible repeat first|exact HX5.out|exact eR _|apply eD|apply eN|apply eA|apply eO|apply eS|apply eC);all_goals first|omega|simp <;> omega)).mono ?_; rintro e w' ⟨rfl, hxl⟩; obtain ⟨xm, rfl⟩ := hxl.asLater; clear hxl)
       | (go_at_call 72; refine (HQ1.out _ (by (with_reducible repeat first|exact HX5.out|exact eR _|apply eD|apply eN|apply eA|apply eO|apply eS|apply eC);all_goals first|omega|simp <;> omega)).mono ?_; rintro e w' ⟨rfl, hxl⟩; obtain ⟨xn, rfl⟩ := hxl.asLater; clear hxl))
      go_roundw
      case rel => exact ⟨k + 1, by omega, by rw [HS1.out], by go_num, by rw [HS1.out]; exact lh (HUo.out.later _), lh (by (with_reducible repeat first|exact HX5.out|exact eR _|apply eD|apply eN|apply eA|apply eO|apply eS|apply eC);all_goals first|omega|simp <;> omega)⟩
      case measure => simp [intOf]; omega
     | true =>
      rw [hqx] at HQ1
      have HS1 : Hid (bestS noCf p q (l.take (k + 1)) = (x, true)) := lh (by rw [HS.out]; simp [hpx, hqx])
      have hm : roomOf W5 B 0 37 = true := by rw [HUo.out.room]; rfl
      clear HS hpx hqx
      go_wp2_with (first
       | (go_at_call 70; refine (HP1.out _ (by (with_reducible repeat first|exact HX5.out|exact eR _|apply eD|apply eN|apply eA|apply eO|apply eS|apply eC);all_goals first|omega|simp <;> omega)).mono ?_; rintro e w' ⟨rfl, hxl⟩; obtain ⟨xm, rfl⟩ := hxl.asLater; clear hxl)
       | (go_at_call 72; refine (HQ1.out _ (by (with_reducible repeat first|exact HX5.out|exact eR _|apply eD|apply eN|apply eA|apply eO|apply eS|apply eC);all_goals first|omega|simp <;> omega)).mono ?_; rintro e w' ⟨rfl, hxl⟩; obtain ⟨xn, rfl⟩ := hxl.asLater; clear hxl))
      go_roundw
      case rel => exact ⟨k + 1, by omega, by rw [HS1.out], by go_num, by rw [HS1.out]; exact lh ((HUo.out.later _).store rfl), lh (Ext.setCells (HX5.out.onto _) (by omega) _ _)⟩
      case measure => simp [intOf]; omega
  ·have e1 : k = l.length := by omega
   subst e1
   rw [List.take_of_length_le (Nat.le_refl _)] at HK ⊢
   obtain ⟨o, ho⟩ : ∃ o, bestS noCf p q l = o := ⟨_, rfl⟩
   have HO := lh ho
   rw [ho] at HK ⊢
   clear ho
   have kB : rowOf wr B 0 37 = some (cfC o.1) := HK.out.all rfl (by omega)
   have hm : roomOf wr B 0 37 = true := by rw [HK.out.room]; rfl
   have hfo := cf_fits o.1
   go_wp2
   refine post_two (v1 := .agg (cfC o.1)) (v2 := .bool o.2) Tryz.results71 rfl ⟨_, rfl, cf_loaded ((HK.out.store (ds := cfC o.1) rfl).all rfl (by omega))⟩ rfl ⟨by rw [HO.out], Ext.setCells HX.out (by omega) _ _⟩
theorem bestLe_any (A : Option Addr) (c : Nat) (l : List Le) (p : Le → Bool) (q : Le → Le → Bool) (bg : Nat) (w : World) (hl : l.length ≤ 9223372036854775807) (hr : Reads 20 leL w w.heap.size A l)
  (hp : ∀ (k : Nat) (h : k < l.length) (W : World), Ext w W → Calls Tryz.prog 73 #[.agg (leC l[k]), .pointer (some ⟨bg, 0, none⟩)] W fun e w' => e = .returned (.bool (p l[k])) ∧ Ext W w')
  (hq : ∀ (x y : Le) (W : World), Ext w W → Calls Tryz.prog 75 #[.agg (leC x), .agg (leC y)] W fun e w' => e = .returned (.bool (q x y)) ∧ Ext W w') :
  Calls Tryz.prog 74 #[.slice A l.length c, .func (.func 73) #[] #[.pointer (some ⟨bg, 0, none⟩)], .func (.func 75) #[] #[]] w fun e w' => e = .returned (.tuple #[.agg (leC (bestS noLe p q l).1), .bool (bestS noLe p q l).2]) ∧ Ext w w' := by
 have HR := lh hr
 have HP := lh hp
 have HQf := lh hq
 have hf0 := le_fits noLe
 clear hr hp hq
 go_enter Tryz.func74, Tryz.ntmps74
 go_wp2
 refine wp_world (fun W => Ext w W ∧ RowAt W w.heap.size (leC noLe) ∧ W.heap.size = w.heap.size + 1) ⟨(by (with_reducible repeat first|exact eR _|apply eD|apply eN|apply eA|apply eO|apply eS|apply eC);all_goals first|omega|simp <;> omega), RowAt.new _ _ _, by simp⟩ ?_
 obtain ⟨B, hB⟩ : ∃ B, w.heap.size = B := ⟨_, rfl⟩
 rw [hB]
 rintro W1 ⟨x1, u0, hs1⟩
 have HX1 := lh x1
 have HU0 := lh u0
 clear x1 u0
 go_loopw [7, 12] (fun t i wr => ∃ k : Nat, k ≤ l.length ∧ t = .bool (bestS noLe p q (l.take k)).2 ∧ i = .int .i64 k ∧ Hid (RowAt wr B (leC (bestS noLe p q (l.take k)).1)) ∧ Hid (Ext w wr)) (fun _ i _ => l.length - (intOf i).toNat)
 case atStart => exact ⟨0, Nat.zero_le _, rfl, rfl, HU0, HX1⟩
 case round =>
  obtain ⟨k, hk, rfl, rfl, HK, HX⟩ := hrel
  have hsz := HX.out.size
  have hBl := HK.out.lt
  by_cases hlt : k < l.length
  ·obtain ⟨b, off, rfl, hb, hrow⟩ := reads_row leE (HR.out.ext HX.out (Nat.le_refl _)) k hlt
   have hb2 : b < wr.heap.size := by omega
   have HP1 := lh (HP.out k hlt)
   have HS := lh (best_snoc noLe p q l k hlt)
   change rowOf wr b (off + k * 20) 20 = some (leC l[k]) at hrow
   have hfx := le_fits l[k]
   generalize bestS noLe p q (l.take k) = o at *
   obtain ⟨cur, is⟩ := o
   generalize l[k] = x at *
   have HQ1 := lh (fun W hx => HQf.out x cur W hx)
   have hfc := le_fits cur
   simp only at *
   go_upto_region 4 with (fail)
   refine wp_world (fun W => Ext w W ∧ RowAt W B (leC cur) ∧ RowAt W wr.heap.size (leC x)) ⟨(by (with_reducible repeat first|exact HX.out|exact eR _|apply eD|apply eN|apply eA|apply eO|apply eS|apply eC);all_goals first|omega|simp <;> omega), (HK.out.alloc _).others (by omega) _ _, (RowAt.newAt (by simp)).store rfl⟩ ?_
   generalize hg : wr.heap.size = g
   rintro W5 ⟨x5, uo, ug⟩
   have HX5 := lh x5
   have HUo := lh uo
   have hl5 := ug.lt
   have hlo := uo.lt
   have hs5 := x5.size
   have kg : rowOf W5 g 0 20 = some (leC x) := ug.all rfl (by omega)
   have ko : rowOf W5 B 0 20 = some (leC cur) := uo.all rfl (by omega)
   have hBg : B < g := by omega
   clear ug uo x5 hrow HK
   cases hpx : p x with
   | false =>
    rw [hpx] at HP1
    have HS1 : Hid (bestS noLe p q (l.take (k + 1)) = (cur, is)) := lh (by rw [HS.out, hpx]; rfl)
    clear HS hpx
    go_wp2_with (first
     | (go_at_call 73; refine (HP1.out _ (by (with_reducible repeat first|exact HX5.out|exact eR _|apply eD|apply eN|apply eA|apply eO|apply eS|apply eC);all_goals first|omega|simp <;> omega)).mono ?_; rintro e w' ⟨rfl, hxl⟩; obtain ⟨xm, rfl⟩ := hxl.asLater; clear hxl))
    go_roundw
    case rel => exact ⟨k + 1, by omega, by rw [HS1.out], by go_num, by rw [HS1.out]; exact lh (HUo.out.later _), lh (by (with_reducible repeat first|exact HX5.out|exact eR _|apply eD|apply eN|apply eA|apply eO|apply eS|apply eC);all_goals first|omega|simp <;> omega)⟩
    case measure => simp [intOf]; omega
   | true =>
    rw [hpx] at HP1
    cases is with
    | false =>
     have HS1 : Hid (bestS noLe p q (l.take (k + 1)) = (x, true)) := lh (by rw [HS.out, hpx]; rfl)
     have hm : roomOf W5 B 0 20 = true := by rw [HUo.out.room]; rfl
     clear HS hpx
     go_wp2_with (first
      | (go_at_call 73; refine (HP1.out _ (by (with_reducible repeat first|exact HX5.out|exact eR _|apply eD|apply eN|apply eA|apply eO|apply eS|apply eC);all_goals first|omega|simp <;> omega)).mono ?_; rintro e w' ⟨rfl, hxl⟩; obtain ⟨xm, rfl⟩ := hxl.asLater; clear hxl))
     go_roundw
     case rel => exact ⟨k + 1, by omega, by rw [HS1.out], by go_num, by rw [HS1.out]; exact lh ((HUo.out.later _).store rfl), lh (Ext.setCells (HX5.out.onto _) (by omega) _ _)⟩
     case measure => simp [intOf]; omega
    | true =>
     cases hqx : q x cur with
     | false =>
      rw [hqx] at HQ1
      have HS1 : Hid (bestS noLe p q (l.take (k + 1)) = (cur, true)) := lh (by rw [HS.out]; simp [hpx, hqx])
      clear HS hpx hqx
      go_wp2_with (first
       | (go_at_call 73; refine (HP1.out _ (by (with_reducible repeat first|exact HX5.out|exact eR _|apply eD|apply eN|apply eA|apply eO|apply eS|apply eC);all_goals first|omega|simp <;> omega)).mono ?_; rintro e w' ⟨rfl, hxl⟩; obtain ⟨xm, rfl⟩ := hxl.asLater; clear hxl)
       | (go_at_call 75; refine (HQ1.out _ (by (with_reducible repeat first|exact HX5.out|exact eR _|apply eD|apply eN|apply eA|apply eO|apply eS|apply eC);all_goals first|omega|simp <;> omega)).mono ?_; rintro e w' ⟨rfl, hxl⟩; obtain ⟨xn, rfl⟩ := hxl.asLater; clear hxl))
      go_roundw
      case rel => exact ⟨k + 1, by omega, by rw [HS1.out], by go_num, by rw [HS1.out]; exact lh (HUo.out.later _), lh (by (with_reducible repeat first|exact HX5.out|exact eR _|apply eD|apply eN|apply eA|apply eO|apply eS|apply eC);all_goals first|omega|simp <;> omega)⟩
      case measure => simp [intOf]; omega
     | true =>
      rw [hqx] at HQ1
      have HS1 : Hid (bestS noLe p q (l.take (k + 1)) = (x, true)) := lh (by rw [HS.out]; simp [hpx, hqx])
      have hm : roomOf W5 B 0 20 = true := by rw [HUo.out.room]; rfl
      clear HS hpx hqx
      go_wp2_with (first
       | (go_at_call 73; refine (HP1.out _ (by (with_reducible repeat first|exact HX5.out|exact eR _|apply eD|apply eN|apply eA|apply eO|apply eS|apply eC);all_goals first|omega|simp <;> omega)).mono ?_; rintro e w' ⟨rfl, hxl⟩; obtain ⟨xm, rfl⟩ := hxl.asLater; clear hxl)
       | (go_at_call 75; refine (HQ1.out _ (by (with_reducible repeat first|exact HX5.out|exact eR _|apply eD|apply eN|apply eA|apply eO|apply eS|apply eC);all_goals first|omega|simp <;> omega)).mono ?_; rintro e w' ⟨rfl, hxl⟩; obtain ⟨xn, rfl⟩ := hxl.asLater; clear hxl))
      go_roundw
      case rel => exact ⟨k + 1, by omega, by rw [HS1.out], by go_num, by rw [HS1.out]; exact lh ((HUo.out.later _).store rfl), lh (Ext.setCells (HX5.out.onto _) (by omega) _ _)⟩
      case measure => simp [intOf]; omega
  ·have e1 : k = l.length := by omega
   subst e1
   rw [List.take_of_length_le (Nat.le_refl _)] at HK ⊢
   obtain ⟨o, ho⟩ : ∃ o, bestS noLe p q l = o := ⟨_, rfl⟩
   have HO := lh ho
   rw [ho] at HK ⊢
   clear ho
   have kB : rowOf wr B 0 20 = some (leC o.1) := HK.out.all rfl (by omega)
   have hm : roomOf wr B 0 20 = true := by rw [HK.out.room]; rfl
   have hfo := le_fits o.1
   go_wp2
   refine post_two (v1 := .agg (leC o.1)) (v2 := .bool o.2) Tryz.results74 rfl ⟨_, rfl, le_loaded ((HK.out.store (ds := leC o.1) rfl).all rfl (by omega))⟩ rfl ⟨by rw [HO.out], Ext.setCells HX.out (by omega) _ _⟩
theorem bestLn_any (A : Option Addr) (c : Nat) (l : List Ln) (p : Ln → Bool) (q : Ln → Ln → Bool) (bg : Nat) (w : World) (hl : l.length ≤ 9223372036854775807) (hr : Reads 59 lnL w w.heap.size A l)
  (hp : ∀ (k : Nat) (h : k < l.length) (W : World), Ext w W → Calls Tryz.prog 85 #[.agg (lnC l[k]), .pointer (some ⟨bg, 0, none⟩)] W fun e w' => e = .returned (.bool (p l[k])) ∧ Ext W w')
  (hq : ∀ (x y : Ln) (W : World), Ext w W → Calls Tryz.prog 86 #[.agg (lnC x), .agg (lnC y)] W fun e w' => e = .returned (.bool (q x y)) ∧ Ext W w') :
  Calls Tryz.prog 84 #[.slice A l.length c, .func (.func 85) #[] #[.pointer (some ⟨bg, 0, none⟩)], .func (.func 86) #[] #[]] w fun e w' => e = .returned (.tuple #[.agg (lnC (bestS noLn p q l).1), .bool (bestS noLn p q l).2]) ∧ Ext w w' := by
 have HR := lh hr
 have HP := lh hp
 have HQf := lh hq
 have hf0 := ln_fits noLn
 clear hr hp hq
 go_enter Tryz.func84, Tryz.ntmps84
 go_wp2
 refine wp_world (fun W => Ext w W ∧ RowAt W w.heap.size (lnC noLn) ∧ W.heap.size = w.heap.size + 1) ⟨(by (with_reducible repeat first|exact eR _|apply eD|apply eN|apply eA|apply eO|apply eS|apply eC);all_goals first|omega|simp <;> omega), RowAt.new _ _ _, by simp⟩ ?_
 obtain ⟨B, hB⟩ : ∃ B, w.heap.size = B := ⟨_, rfl⟩
 rw [hB]
 rintro W1 ⟨x1, u0, hs1⟩
 have HX1 := lh x1
 have HU0 := lh u0
 clear x1 u0
 go_loopw [7, 12] (fun t i wr => ∃ k : Nat, k ≤ l.length ∧ t = .bool (bestS noLn p q (l.take k)).2 ∧ i = .int .i64 k ∧ Hid (RowAt wr B (lnC (bestS noLn p q (l.take k)).1)) ∧ Hid (Ext w wr)) (fun _ i _ => l.length - (intOf i).toNat)
 case atStart => exact ⟨0, Nat.zero_le _, rfl, rfl, HU0, HX1⟩
 case round =>
  obtain ⟨k, hk, rfl, rfl, HK, HX⟩ := hrel
  have hsz := HX.out.size
  have hBl := HK.out.lt
  by_cases hlt : k < l.length
  ·obtain ⟨b, off, rfl, hb, hrow⟩ := reads_row lnE (HR.out.ext HX.out (Nat.le_refl _)) k hlt
   have hb2 : b < wr.heap.size := by omega
   have HP1 := lh (HP.out k hlt)
   have HS := lh (best_snoc noLn p q l k hlt)
   change rowOf wr b (off + k * 59) 59 = some (lnC l[k]) at hrow
   have hfx := ln_fits l[k]
   generalize bestS noLn p q (l.take k) = o at *
   obtain ⟨cur, is⟩ := o
   generalize l[k] = x at *
   have HQ1 := lh (fun W hx => HQf.out x cur W hx)
   have hfc := ln_fits cur
   simp only at *
   go_upto_region 4 with (fail)
   refine wp_world (fun W => Ext w W ∧ RowAt W B (lnC cur) ∧ RowAt W wr.heap.size (lnC x)) ⟨(by (with_reducible repeat first|exact HX.out|exact eR _|apply eD|apply eN|apply eA|apply eO|apply eS|apply eC);all_goals first|omega|simp <;> omega), (HK.out.alloc _).others (by omega) _ _, (RowAt.newAt (by simp)).store rfl⟩ ?_
   generalize hg : wr.heap.size = g
   rintro W5 ⟨x5, uo, ug⟩
   have HX5 := lh x5
   have HUo := lh uo
   have hl5 := ug.lt
   have hlo := uo.lt
   have hs5 := x5.size
   have kg : rowOf W5 g 0 59 = some (lnC x) := ug.all rfl (by omega)
   have ko : rowOf W5 B 0 59 = some (lnC cur) := uo.all rfl (by omega)
   have hBg : B < g := by omega
   clear ug uo x5 hrow HK
   cases hpx : p x with
   | false =>
    rw [hpx] at HP1
    have HS1 : Hid (bestS noLn p q (l.take (k + 1)) = (cur, is)) := lh (by rw [HS.out, hpx]; rfl)
    clear HS hpx
    go_wp2_with (first
     | (go_at_call 85; refine (HP1.out _ (by (with_reducible repeat first|exact HX5.out|exact eR _|apply eD|apply eN|apply eA|apply eO|apply eS|apply eC);all_goals first|omega|simp <;> omega)).mono ?_; rintro e w' ⟨rfl, hxl⟩; obtain ⟨xm, rfl⟩ := hxl.asLater; clear hxl))
    go_roundw
    case rel => exact ⟨k + 1, by omega, by rw [HS1.out], by go_num, by rw [HS1.out]; exact lh (HUo.out.later _), lh (by (with_reducible repeat first|exact HX5.out|exact eR _|apply eD|apply eN|apply eA|apply eO|apply eS|apply eC);all_goals first|omega|simp <;> omega)⟩
    case measure => simp [intOf]; omega
   | true =>
    rw [hpx] at HP1
    cases is with
    | false =>
     have HS1 : Hid (bestS noLn p q (l.take (k + 1)) = (x, true)) := lh (by rw [HS.out, hpx]; rfl)
     have hm : roomOf W5 B 0 59 = true := by rw [HUo.out.room]; rfl
     clear HS hpx
     go_wp2_with (first
      | (go_at_call 85; refine (HP1.out _ (by (with_reducible repeat first|exact HX5.out|exact eR _|apply eD|apply eN|apply eA|apply eO|apply eS|apply eC);all_goals first|omega|simp <;> omega)).mono ?_; rintro e w' ⟨rfl, hxl⟩; obtain ⟨xm, rfl⟩ := hxl.asLater; clear hxl))
     go_roundw
     case rel => exact ⟨k + 1, by omega, by rw [HS1.out], by go_num, by rw [HS1.out]; exact lh ((HUo.out.later _).store rfl), lh (Ext.setCells (HX5.out.onto _) (by omega) _ _)⟩
     case measure => simp [intOf]; omega
    | true =>
     cases hqx : q x cur with
     | false =>
      rw [hqx] at HQ1
      have HS1 : Hid (bestS noLn p q (l.take (k + 1)) = (cur, true)) := lh (by rw [HS.out]; simp [hpx, hqx])
      clear HS hpx hqx
      go_wp2_with (first
       | (go_at_call 85; refine (HP1.out _ (by (with_reducible repeat first|exact HX5.out|exact eR _|apply eD|apply eN|apply eA|apply eO|apply eS|apply eC);all_goals first|omega|simp <;> omega)).mono ?_; rintro e w' ⟨rfl, hxl⟩; obtain ⟨xm, rfl⟩ := hxl.asLater; clear hxl)
       | (go_at_call 86; refine (HQ1.out _ (by (with_reducible repeat first|exact HX5.out|exact eR _|apply eD|apply eN|apply eA|apply eO|apply eS|apply eC);all_goals first|omega|simp <;> omega)).mono ?_; rintro e w' ⟨rfl, hxl⟩; obtain ⟨xn, rfl⟩ := hxl.asLater; clear hxl))
      go_roundw
      case rel => exact ⟨k + 1, by omega, by rw [HS1.out], by go_num, by rw [HS1.out]; exact lh (HUo.out.later _), lh (by (with_reducible repeat first|exact HX5.out|exact eR _|apply eD|apply eN|apply eA|apply eO|apply eS|apply eC);all_goals first|omega|simp <;> omega)⟩
      case measure => simp [intOf]; omega
     | true =>
      rw [hqx] at HQ1
      have HS1 : Hid (bestS noLn p q (l.take (k + 1)) = (x, true)) := lh (by rw [HS.out]; simp [hpx, hqx])
      have hm : roomOf W5 B 0 59 = true := by rw [HUo.out.room]; rfl
      clear HS hpx hqx
      go_wp2_with (first
       | (go_at_call 85; refine (HP1.out _ (by (with_reducible repeat first|exact HX5.out|exact eR _|apply eD|apply eN|apply eA|apply eO|apply eS|apply eC);all_goals first|omega|simp <;> omega)).mono ?_; rintro e w' ⟨rfl, hxl⟩; obtain ⟨xm, rfl⟩ := hxl.asLater; clear hxl)
       | (go_at_call 86; refine (HQ1.out _ (by (with_reducible repeat first|exact HX5.out|exact eR _|apply eD|apply eN|apply eA|apply eO|apply eS|apply eC);all_goals first|omega|simp <;> omega)).mono ?_; rintro e w' ⟨rfl, hxl⟩; obtain ⟨xn, rfl⟩ := hxl.asLater; clear hxl))
      go_roundw
      case rel => exact ⟨k + 1, by omega, by rw [HS1.out], by go_num, by rw [HS1.out]; exact lh ((HUo.out.later _).store rfl), lh (Ext.setCells (HX5.out.onto _) (by omega) _ _)⟩
      case measure => simp [intOf]; omega
  ·have e1 : k = l.length := by omega
   subst e1
   rw [List.take_of_length_le (Nat.le_refl _)] at HK ⊢
   obtain ⟨o, ho⟩ : ∃ o, bestS noLn p q l = o := ⟨_, rfl⟩
   have HO := lh ho
   rw [ho] at HK ⊢
   clear ho
   have kB : rowOf wr B 0 59 = some (lnC o.1) := HK.out.all rfl (by omega)
   have hm : roomOf wr B 0 59 = true := by rw [HK.out.room]; rfl
   have hfo := ln_fits o.1
   go_wp2
   refine post_two (v1 := .agg (lnC o.1)) (v2 := .bool o.2) Tryz.results84 rfl ⟨_, rfl, ln_loaded ((HK.out.store (ds := lnC o.1) rfl).all rfl (by omega))⟩ rfl ⟨by rw [HO.out], Ext.setCells HX.out (by omega) _ _⟩
def lnB2 (a b c : Value) : Sem Next := do pure (.value (← Instr.build 89 #[(0, a), (1, b), (2, c)]))
theorem lnB2_x (ρ : Operand → Value) (dst : Option Tmp) (a b c : Operand) (t : TypeId) (pos : String) (after : Array Edge) (guard : Option (Nat × Bool)) : execOp ρ { dst, op := .build 89 #[(0, a), (1, b), (2, c)], type := t, pos, after, guard } = lnB2 (ρ a) (ρ b) (ρ c) := by kernel_rfl
attribute [go_sem ↓] lnB2_x
theorem lnB2_run (s k : Int) (c : Cf) (W : World) : (lnB2 (.int .i64 s) (.int .i64 k) (.agg (cfC c))).run Tryz.prog W = .ok (.value (.agg (lnC ⟨s, k, c, noLe⟩))) W := by kernel_rfl
def lnB3 (a b c : Value) : Sem Next := do pure (.value (← Instr.build 89 #[(0, a), (1, b), (3, c)]))
theorem lnB3_x (ρ : Operand → Value) (dst : Option Tmp) (a b c : Operand) (t : TypeId) (pos : String) (after : Array Edge) (guard : Option (Nat × Bool)) : execOp ρ { dst, op := .build 89 #[(0, a), (1, b), (3, c)], type := t, pos, after, guard } = lnB3 (ρ a) (ρ b) (ρ c) := by kernel_rfl
attribute [go_sem ↓] lnB3_x
theorem lnB3_run (s k : Int) (l : Le) (W : World) : (lnB3 (.int .i64 s) (.int .i64 k) (.agg (leC l))).run Tryz.prog W = .ok (.value (.agg (lnC ⟨s, k, noCf, l⟩))) W := by kernel_rfl
attribute [go_sem] lnB2_run lnB3_run
def cfHit (site num : Int) (c : Cf) : Bool := decide (c.site = site) && decide (num ≤ c.epoch)
def leHit (site : Int) (l : Le) : Bool := decide (l.site = site)
def leMore (a b : Le) : Bool := decide (b.until_ < a.until_)
def cfNone (_ _ : Cf) : Bool := false
def lineN (x : Gr) (num : Int) (cs : List Cf) (ls : List Le) (lo : Int) : Ln :=
 if (bestS noCf (cfHit x.site num) cfNone cs).2 = true then ⟨x.site, 1, (bestS noCf (cfHit x.site num) cfNone cs).1, noLe⟩
 else ⟨x.site, if (if (bestS noLe (leHit x.site) leMore ls).2 = true then (bestS noLe (leHit x.site) leMore ls).1.until_ else x.until_) ≤ lo then 2 else 3, noCf, (bestS noLe (leHit x.site) leMore ls).1⟩
theorem mk11_any (c : Cf) (site num : Int) (bg be : Nat) (w : World) (h1 : w.cell? ⟨bg, 0, none⟩ = some (.int .i64 site)) (h2 : w.cell? ⟨be, 0, none⟩ = some (.int .i64 num)) (l1 : bg < w.heap.size) (l2 : be < w.heap.size) :
  Calls Tryz.prog 70 #[.agg (cfC c), .pointer (some ⟨bg, 0, none⟩), .pointer (some ⟨be, 0, none⟩)] w fun e w' => e = .returned (.bool (cfHit site num c)) ∧ Ext w w' := by
 have HF : Hid (cfHit site num c = (decide (c.site = site) && decide (num ≤ c.epoch))) := lh rfl
 have hft := cf_fits c
 generalize cfHit site num c = R at *
 go_enter Tryz.func70, Tryz.ntmps70
 go_wp2
 all_goals
  go_ret
  exact ⟨ret_bool (by have h := HF.out; clear HF; subst h; first | rfl | (simp [*]; done) | (simp [*]; omega) | omega), (by (with_reducible repeat first|exact eR _|apply eD|apply eN|apply eA|apply eO|apply eS|apply eC);all_goals first|omega|simp <;> omega)⟩
theorem mk12_any (a b : Cf) (w : World) : Calls Tryz.prog 72 #[.agg (cfC a), .agg (cfC b)] w fun e w' => e = .returned (.bool (cfNone a b)) ∧ Ext w w' := by
 have hfa := cf_fits a
 have hfb := cf_fits b
 go_enter Tryz.func72, Tryz.ntmps72
 go_wp2
 go_ret
 exact ⟨rfl, (by (with_reducible repeat first|exact eR _|apply eD|apply eN|apply eA|apply eO|apply eS|apply eC);all_goals first|omega|simp <;> omega)⟩
theorem mk13_any (l : Le) (site : Int) (bg : Nat) (w : World) (h1 : w.cell? ⟨bg, 0, none⟩ = some (.int .i64 site)) (l1 : bg < w.heap.size) :
  Calls Tryz.prog 73 #[.agg (leC l), .pointer (some ⟨bg, 0, none⟩)] w fun e w' => e = .returned (.bool (leHit site l)) ∧ Ext w w' := by
 have HF : Hid (leHit site l = decide (l.site = site)) := lh rfl
 have hft := le_fits l
 generalize leHit site l = R at *
 go_enter Tryz.func73, Tryz.ntmps73
 go_wp2
 all_goals
  go_ret
  exact ⟨ret_bool (by have h := HF.out; clear HF; subst h; first | rfl | (simp [*]; done) | (simp [*]; omega) | omega), (by (with_reducible repeat first|exact eR _|apply eD|apply eN|apply eA|apply eO|apply eS|apply eC);all_goals first|omega|simp <;> omega)⟩
theorem mk14_any (a b : Le) (w : World) : Calls Tryz.prog 75 #[.agg (leC a), .agg (leC b)] w fun e w' => e = .returned (.bool (leMore a b)) ∧ Ext w w' := by
 have HF : Hid (leMore a b = decide (b.until_ < a.until_)) := lh rfl
 have hfa := le_fits a
 have hfb := le_fits b
 generalize leMore a b = R at *
 go_enter Tryz.func75, Tryz.ntmps75
 go_wp2
 all_goals
  go_ret
  exact ⟨ret_bool (by have h := HF.out; clear HF; subst h; first | rfl | (simp [*]; done) | (simp [*]; omega) | omega), (by (with_reducible repeat first|exact eR _|apply eD|apply eN|apply eA|apply eO|apply eS|apply eC);all_goals first|omega|simp <;> omega)⟩
theorem mkline_any (x : Gr) (num lo : Int) (CA LA : Option Addr) (cc lc : Nat) (cs : List Cf) (ls : List Le) (b1 b2 b3 b4 : Nat) (w : World)
  (h1 : w.cell? ⟨b1, 0, none⟩ = some (.int .i64 num)) (h2 : w.cell? ⟨b2, 0, none⟩ = some (.slice CA cs.length cc)) (h3 : w.cell? ⟨b3, 0, none⟩ = some (.slice LA ls.length lc)) (h4 : w.cell? ⟨b4, 0, none⟩ = some (.int .i64 lo))
  (l1 : b1 < w.heap.size) (l2 : b2 < w.heap.size) (l3 : b3 < w.heap.size) (l4 : b4 < w.heap.size) (hc : cs.length ≤ 100000) (hl : ls.length ≤ 100000) (hrc : Reads 37 cfL w w.heap.size CA cs) (hrl : Reads 20 leL w w.heap.size LA ls) :
  Calls Tryz.prog 69 #[.agg (grC x), .pointer (some ⟨b1, 0, none⟩), .pointer (some ⟨b2, 0, none⟩), .pointer (some ⟨b3, 0, none⟩), .pointer (some ⟨b4, 0, none⟩)] w fun e w' => e = .returned (.agg (lnC (lineN x num cs ls lo))) ∧ Ext w w' := by
 have HBc : Hid (∀ (bg : Nat) (W : World), Ext w W → bg < W.heap.size → W.cell? ⟨bg, 0, none⟩ = some (.int .i64 x.site) → Calls Tryz.prog 71 #[.slice CA cs.length cc, .func (.func 70) #[] #[.pointer (some ⟨bg, 0, none⟩), .pointer (some ⟨b1, 0, none⟩)], .func (.func 72) #[] #[]] W fun e w' => e = .returned (.tuple #[.agg (cfC (bestS noCf (cfHit x.site num) cfNone cs).1), .bool (bestS noCf (cfHit x.site num) cfNone cs).2]) ∧ Ext W w') := lh (fun bg W hx hb hg =>
  bestCf_any CA cc cs (cfHit x.site num) cfNone bg b1 W (by omega) (hrc.on hx) (fun k hk W' hx' => mk11_any cs[k] x.site num bg b1 W' ((hx'.cell (p := ⟨bg, 0, none⟩) hb).trans hg) (((hx.trans hx').cell (p := ⟨b1, 0, none⟩) l1).trans h1) (by have := hx'.size; omega) (by have := hx'.size; have := hx.size; omega)) (fun a b W' _ => mk12_any a b W'))
 have HBl : Hid (∀ (bg : Nat) (W : World), Ext w W → bg < W.heap.size → W.cell? ⟨bg, 0, none⟩ = some (.int .i64 x.site) → Calls Tryz.prog 74 #[.slice LA ls.length lc, .func (.func 73) #[] #[.pointer (some ⟨bg, 0, none⟩)], .func (.func 75) #[] #[]] W fun e w' => e = .returned (.tuple #[.agg (leC (bestS noLe (leHit x.site) leMore ls).1), .bool (bestS noLe (leHit x.site) leMore ls).2]) ∧ Ext W w') := lh (fun bg W hx hb hg =>
  bestLe_any LA lc ls (leHit x.site) leMore bg W (by omega) (hrl.on hx) (fun k hk W' hx' => mk13_any ls[k] x.site bg W' ((hx'.cell (p := ⟨bg, 0, none⟩) hb).trans hg) (by have := hx'.size; omega)) (fun a b W' _ => mk14_any a b W'))
 have HO : Hid (lineN x num cs ls lo = if (bestS noCf (cfHit x.site num) cfNone cs).2 = true then ⟨x.site, 1, (bestS noCf (cfHit x.site num) cfNone cs).1, noLe⟩
  else ⟨x.site, if (if (bestS noLe (leHit x.site) leMore ls).2 = true then (bestS noLe (leHit x.site) leMore ls).1.until_ else x.until_) ≤ lo then 2 else 3, noCf, (bestS noLe (leHit x.site) leMore ls).1⟩) := lh rfl
 have hfx := gr_fits x
 generalize lineN x num cs ls lo = O at *
 generalize bestS noCf (cfHit x.site num) cfNone cs = bc at *
 generalize bestS noLe (leHit x.site) leMore ls = bl at *
 obtain ⟨c, ic⟩ := bc
 obtain ⟨l, il⟩ := bl
 simp only at *
 have hfc := cf_fits c
 have hfl := le_fits l
 have hf0 := ln_fits noLn
 clear hrc hrl
 go_enter Tryz.func69, Tryz.ntmps69
 go_upto_region 1 with (fail)
 refine wp_world (fun W => Ext w W ∧ RowAt W w.heap.size (grC x) ∧ RowAt W (w.heap.size + 1) (lnC noLn)) ⟨(by (with_reducible repeat first|exact eR _|apply eD|apply eN|apply eA|apply eO|apply eS|apply eC);all_goals first|omega|simp <;> omega), (RowAt.new _ _ _).alloc _, RowAt.newAt (by simp)⟩ ?_
 obtain ⟨B, hB⟩ : ∃ B, w.heap.size = B := ⟨_, rfl⟩
 rw [hB]
 rintro W1 ⟨x1, ug, ur⟩
 have hs1 := x1.size
 have HX1 := lh x1
 have HUR := lh ur
 have hlr := ur.lt
 have qg_0 : W1.cell? ⟨B, 0, none⟩ = some (.int .i64 x.site) := (ug.cell 0).trans (gr_g0 x)
 have qg_2 : W1.cell? ⟨B, 2, none⟩ = some (.int .i64 x.until_) := (ug.cell 2).trans (gr_g2 x)
 have k2 : W1.cell? ⟨b2, 0, none⟩ = some (.slice CA cs.length cc) := (x1.cell (p := ⟨b2, 0, none⟩) (by omega)).trans h2
 have k3 : W1.cell? ⟨b3, 0, none⟩ = some (.slice LA ls.length lc) := (x1.cell (p := ⟨b3, 0, none⟩) (by omega)).trans h3
 have k4 : W1.cell? ⟨b4, 0, none⟩ = some (.int .i64 lo) := (x1.cell (p := ⟨b4, 0, none⟩) (by omega)).trans h4
 have hm : roomOf W1 (B + 1) 0 59 = true := by rw [ur.room]; rfl
 have HG0 := lh qg_0
 clear x1 ug ur h1 h2 h3 h4
 cases ic with
 | true =>
  have HO' : Hid (O = ⟨x.site, 1, c, noLe⟩) := lh (by rw [HO.out]; rfl)
  have hfo := ln_fits ⟨x.site, 1, c, noLe⟩
  clear HO
  go_wp2_with (first
   | (go_at_call 71; refine (HBc.out _ _ (by (with_reducible repeat first|exact HX1.out|exact eR _|apply eD|apply eN|apply eA|apply eO|apply eS|apply eC);all_goals first|omega|simp <;> omega) (by omega) HG0.out).mono ?_; rintro e w' ⟨rfl, hxl⟩; obtain ⟨xm, rfl⟩ := hxl.asLater; clear hxl))
  rw [HO'.out]
  exact post_row ln_ty Tryz.results69 rfl rfl (RowAt.stored (n := 59) (ds := lnC ⟨x.site, 1, c, noLe⟩) (((HUR.out.later _).alloc _).others (by omega) _ _) rfl rfl (by omega)) ⟨rfl, Ext.setCells (Ext.setCells ((HX1.out.onto _).alloc _) (by omega) _ _) (by omega) _ _⟩
 | false =>
  have HO1 : Hid (O = ⟨x.site, if (if il = true then l.until_ else x.until_) ≤ lo then 2 else 3, noCf, l⟩) := lh (by rw [HO.out]; rfl)
  clear HO
  go_upto_region 7 with (first
   | (go_at_call 71; refine (HBc.out _ _ (by (with_reducible repeat first|exact HX1.out|exact eR _|apply eD|apply eN|apply eA|apply eO|apply eS|apply eC);all_goals first|omega|simp <;> omega) (by omega) HG0.out).mono ?_; rintro e w' ⟨rfl, hxl⟩; obtain ⟨xm, rfl⟩ := hxl.asLater; clear hxl))
  refine wp_world (fun W => Ext W1 W) (Ext.setCells (((Ext.refl W1).onto xm).alloc _) (by omega) _ _) ?_
  rintro W2 x2
  have HX2 := lh (HX1.out.trans x2)
  have HG2 : Hid (W2.cell? ⟨B, 0, none⟩ = some (.int .i64 x.site)) := lh ((x2.cell (p := ⟨B, 0, none⟩) (by show B < _; omega)).trans qg_0)
  have p0 := HG2.out
  have p2 : W2.cell? ⟨B, 2, none⟩ = some (.int .i64 x.until_) := (x2.cell (p := ⟨B, 2, none⟩) (by show B < _; omega)).trans qg_2
  have p3 : W2.cell? ⟨b3, 0, none⟩ = some (.slice LA ls.length lc) := (x2.cell (p := ⟨b3, 0, none⟩) (by show b3 < _; omega)).trans k3
  have p4 : W2.cell? ⟨b4, 0, none⟩ = some (.int .i64 lo) := (x2.cell (p := ⟨b4, 0, none⟩) (by show b4 < _; omega)).trans k4
  have HU2 := lh (HUR.out.ext x2)
  have hm2 : roomOf W2 (B + 1) 0 59 = true := by rw [HU2.out.room]; rfl
  have hs2 := x2.size
  have hlB : B < W2.heap.size := by omega
  clear x2 k2 k3 k4 qg_0 qg_2 hm HUR HBc HG0
  go_upto_region 8 with (go_at_call 74; refine (HBl.out _ _ HX2.out hlB HG2.out).mono ?_; rintro e w' ⟨rfl, hxl⟩; obtain ⟨xn, rfl⟩ := hxl.asLater; clear hxl)
  refine wp_world (fun W => Ext W2 W ∧ RowAt W (W2.heap.size + xn.n) (leC l)) ⟨Ext.setCells (((Ext.refl W2).onto xn).alloc _) (by omega) _ _, (RowAt.newAt (by simp [later_size])).store rfl⟩ ?_
  generalize hq : W2.heap.size + xn.n = q
  rintro W3 ⟨x3, uq⟩
  have hq2 : W2.heap.size ≤ q := by omega
  have HX3 := lh (HX2.out.trans x3)
  have p0 : W3.cell? ⟨B, 0, none⟩ = some (.int .i64 x.site) := (x3.cell (p := ⟨B, 0, none⟩) (by show B < _; omega)).trans p0
  have p4 : W3.cell? ⟨b4, 0, none⟩ = some (.int .i64 lo) := (x3.cell (p := ⟨b4, 0, none⟩) (by show b4 < _; omega)).trans p4
  have qq_2 : W3.cell? ⟨q, 2, none⟩ = some (.int .i64 l.until_) := (uq.cell 2).trans (le_g2 l)
  have kq : rowOf W3 q 0 20 = some (leC l) := uq.all rfl (by omega)
  have HU3 := lh (HU2.out.ext x3)
  have hm3 : roomOf W3 (B + 1) 0 59 = true := by rw [HU3.out.room]; rfl
  have hs3 := x3.size
  have hlq := uq.lt
  clear x3 uq p2 p3 hm2 HU2 HBl HG2 hq
  cases il with
  | true =>
   by_cases hu : l.until_ ≤ lo
   ·have HO' : Hid (O = ⟨x.site, 2, noCf, l⟩) := lh (by rw [HO1.out]; simp [hu])
    have hfo := ln_fits ⟨x.site, 2, noCf, l⟩
    clear HO1
    go_wp2
    rw [HO'.out]
    exact post_row ln_ty Tryz.results69 rfl rfl (RowAt.stored (n := 59) (ds := lnC ⟨x.site, 2, noCf, l⟩) HU3.out rfl rfl (by omega)) ⟨rfl, Ext.setCells HX3.out (by omega) _ _⟩
   ·have HO' : Hid (O = ⟨x.site, 3, noCf, l⟩) := lh (by rw [HO1.out]; simp [hu])
    have hfo := ln_fits ⟨x.site, 3, noCf, l⟩
    clear HO1
    go_wp2
    rw [HO'.out]
    exact post_row ln_ty Tryz.results69 rfl rfl (RowAt.stored (n := 59) (ds := lnC ⟨x.site, 3, noCf, l⟩) HU3.out rfl rfl (by omega)) ⟨rfl, Ext.setCells HX3.out (by omega) _ _⟩
  | false =>
   by_cases hu : x.until_ ≤ lo
   ·have HO' : Hid (O = ⟨x.site, 2, noCf, l⟩) := lh (by rw [HO1.out]; simp [hu])
    have hfo := ln_fits ⟨x.site, 2, noCf, l⟩
    clear HO1
    go_wp2
    rw [HO'.out]
    exact post_row ln_ty Tryz.results69 rfl rfl (RowAt.stored (n := 59) (ds := lnC ⟨x.site, 2, noCf, l⟩) HU3.out rfl rfl (by omega)) ⟨rfl, Ext.setCells HX3.out (by omega) _ _⟩
   ·have HO' : Hid (O = ⟨x.site, 3, noCf, l⟩) := lh (by rw [HO1.out]; simp [hu])
    have hfo := ln_fits ⟨x.site, 3, noCf, l⟩
    clear HO1
    go_wp2
    rw [HO'.out]
    exact post_row ln_ty Tryz.results69 rfl rfl (RowAt.stored (n := 59) (ds := lnC ⟨x.site, 3, noCf, l⟩) HU3.out rfl rfl (by omega)) ⟨rfl, Ext.setCells HX3.out (by omega) _ _⟩
end Go.Proofs.YtpfhmcdcmepfdaaGreatDoor