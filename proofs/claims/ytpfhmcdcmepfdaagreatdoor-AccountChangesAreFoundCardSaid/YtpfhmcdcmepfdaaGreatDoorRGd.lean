
import Derived.WalkKit
import Derived.WalkSpells
import Derived.WalkLawsBesides
import Derived.Deep.QuietTactic
import Derived.BigQuiet
import Derived.Test.YtpfhmcdcmepfdaaGreatDoorRJh
set_option maxRecDepth 100000
set_option maxHeartbeats 64000000
set_option linter.unusedVariables false
set_option linter.unusedSimpArgs false
namespace Go.Proofs.YtpfhmcdcmepfdaaGreatDoor
open Go.RowKit Go.Shelf
open Go.Proofs
theorem flat_snoc {α β : Type} (f : α → List β) (l : List α) (k : Nat) (h : k < l.length) : (l.take (k + 1)).flatMap f = (l.take k).flatMap f ++ f l[k] := by
 rw [List.take_succ_eq_append_getElem h, List.flatMap_append]
 simp
theorem map_snoc {α β : Type} (f : α → β) (l : List α) (k : Nat) (h : k < l.length) : (l.take (k + 1)).map f = (l.take k).map f ++ [f l[k]] := by
 rw [List.take_succ_eq_append_getElem h, List.map_append]
 rfl
theorem owns_fresh {α : Type} {e : TypeId} {size : Nat} {enc : α → List Value} (E : EncTy enc size) (l : List α) (W : World) (cs : Array Value) (b base : Nat) (hb : b = W.heap.size) (hbase : base ≤ W.heap.size) (h : cs.toList = l.flatMap enc) (hl : l.length ≤ 1000000) : Owns e size enc base (W.alloc (.cells cs e)) (some ⟨b, 0, none⟩) l.length l := by
 subst hb
 refine Owns.mk E hbase (heap_alloc_new W _) (Nat.le_refl _) (by unfold maxLen; omega) ?_ ?_
 ·have := congrArg List.length h
  rw [E.flat_len] at this
  simpa using this
 ·rw [h, List.take_of_length_le]
  rw [E.flat_len]
  exact Nat.le_refl _
def EPOut (e : Ep) (base : Nat) (r : Ending) (w' : World) : Prop := ∃ A c l', r = .returned (.slice A l'.length c) ∧ Hid (l' = epParts e) ∧ OwnsStr base w' A c l'
theorem eparts_any (e : Ep) (w : World) (hok : EpOk e) (hs : EpShort e) (ha : EpAt w e) :
  Calls Tryz.prog 117 #[.agg (epC e)] w fun r w' => EPOut e w.heap.size r w' ∧ Ext w w' := by
 have HI0 := lh (fun (A : Option Addr) (c : Nat) (W : World) (hr : ReadsInt W W.heap.size A [e.num, e.lo, e.hi, e.serial, (e.pu.length : Int)]) => sints_ok A c [e.num, e.lo, e.hi, e.serial, (e.pu.length : Int)] W (by show 5 ≤ 100000; decide) hr (fun x hx => by
  have h1 := hok.ints x
  have h2 := hs.pu
  simp only [List.mem_cons, List.not_mem_nil, or_false] at hx h1
  rcases hx with rfl | rfl | rfl | rfl | rfl
  ·exact h1 (.inl rfl)
  ·exact h1 (.inr (.inl rfl))
  ·exact h1 (.inr (.inr (.inl rfl)))
  ·exact h1 (.inr (.inr (.inr rfl)))
  ·unfold i64; omega))
 have HIp := lh (fun (k : Nat) (h : k < e.pu.length) (A : Option Addr) (c : Nat) (W : World) (hr : ReadsInt W W.heap.size A [e.pu[k].kind, oneB e.pu[k].soft]) => sints_ok A c [e.pu[k].kind, oneB e.pu[k].soft] W (by show 2 ≤ 100000; decide) hr (fun x hx => by
  have h1 := (hok.pu _ (List.getElem_mem h)).1
  simp only [List.mem_cons, List.not_mem_nil, or_false] at hx
  rcases hx with rfl | rfl
  ·exact h1
  ·unfold i64 oneB; split <;> omega))
 have H16 := lh hok.prev.len
 have HRv := lh (fun (k : Nat) (h : k < e.rv.length) => (hok.rv _ (List.getElem_mem h)).len)
 have HAp := lh ha.pu
 have HAr := lh ha.rv
 have hpl := hs.pu
 have hrl := hs.rv
 have HE : Hid (epParts e = [strOfNums (encInts [e.num, e.lo, e.hi, e.serial, (e.pu.length : Int)]), strOfNums e.prev] ++ e.pu.flatMap puParts ++ e.rv.map strOfNums) := lh rfl
 have hft := ep_fits e
 clear hok hs ha
 go_enter Tryz.func117, Tryz.ntmps117
 go_wp2
 refine wp_world (fun W => Ext w W ∧ RowAt W w.heap.size (epC e) ∧ W.heap.size = w.heap.size + 1) ⟨(by (with_reducible repeat first|exact eR _|apply eD|apply eN|apply eA|apply eO|apply eS|apply eC);all_goals first|omega|simp <;> omega), RowAt.new _ _ _, by simp⟩ ?_
 obtain ⟨B, hB⟩ : ∃ B, w.heap.size = B := ⟨_, rfl⟩
 rw [hB]
 rintro W1 ⟨x1, uB, hs1⟩
 have HX1 := lh x1
 have hlu := uB.lt
 have qB_0 : W1.cell? ⟨B, 0, none⟩ = some (.int .i64 e.num) := (uB.cell 0).trans (ep_g0 e)
 have qB_17 : W1.cell? ⟨B, 17, none⟩ = some (.int .i64 e.lo) := (uB.cell 17).trans (ep_g17 e)
 have qB_18 : W1.cell? ⟨B, 18, none⟩ = some (.int .i64 e.hi) := (uB.cell 18).trans (ep_g18 e)
 have qB_21 : W1.cell? ⟨B, 21, none⟩ = some (.int .i64 e.serial) := (uB.cell 21).trans (ep_g21 e)
 have qB_19 : W1.cell? ⟨B, 19, none⟩ = some (.slice e.PA e.pu.length e.pc) := (uB.cell 19).trans (ep_g19 e)
 have HQ20 : Hid (W1.cell? ⟨B, 20, none⟩ = some (.slice e.RA e.rv.length e.rc)) := lh ((uB.cell 20).trans (ep_g20 e))
 have HQ19 := lh qB_19
 have rdB_1 := lh (arr_reads ((uB.row 1 16).trans (by rw [if_neg (by omega), ep_s1_16])) H16.out hlu)
 clear x1 uB
 generalize e.PA = PA at *
 generalize e.RA = RA at *
 refine wp_region_soft 18 (softsL [.eq (.pointer (some ⟨B, 0, none⟩)), .eq (.int .i64 e.num), .eq (.pointer (some ⟨B, 17, none⟩)), .eq (.pointer (some ⟨B, 17, none⟩)), .eq (.int .i64 e.lo), .eq (.pointer (some ⟨B, 17, none⟩)), .eq (.pointer (some ⟨B, 18, none⟩)), .eq (.int .i64 e.hi), .eq (.pointer (some ⟨B, 21, none⟩)), .eq (.int .i64 e.serial), .eq (.pointer (some ⟨B, 19, none⟩)), .eq (.slice PA e.pu.length e.pc), .eq (.int .i64 e.pu.length), readI ([e.num, e.lo, e.hi, e.serial, (e.pu.length : Int)]), .eq (.string (strOfNums (encInts [e.num, e.lo, e.hi, e.serial, (e.pu.length : Int)]))), .eq (.pointer (some ⟨B, 1, none⟩)), .eq (.slice (some ⟨B, 1, none⟩) 16 16), .eq (.string (strOfNums e.prev))]) (by kernel_rfl) (by kernel_rfl) (lt_cons ?_ (lt_cons ?_ (lt_cons ?_ (lt_cons ?_ (lt_cons ?_ (lt_cons ?_ (lt_cons ?_ (lt_cons ?_ (lt_cons ?_ (lt_cons ?_ (lt_cons ?_ (lt_cons ?_ (lt_cons ?_ (lt_cons ?_ (lt_cons ?_ (lt_cons ?_ (lt_cons ?_ (lt_cons ?_ (lt_none))))))))))))))))))) ?_
 any_goals (refine sop rfl fun xs W HW hsW HD Q' HQ => ?_; simp only [fillAt, dstOf, lc0, lcs, obs, Act.put, lsa, lsz, lss, nz, Nat.reduceAdd] at HQ ⊢)
 ·
  go_wp2
  exact HQ.out _ _ (eR _) rfl
 ·
  have hd0 : xs 0 = .pointer (some ⟨B, 0, none⟩) := (HD.out 0 (dk (by kernel_rfl)))
  generalize xs 0 = x0 at hd0 HQ ⊢; subst hd0
  have hc : W.cell? ⟨B, 0, none⟩ = some (.int .i64 e.num) := (HW.out.cell (p := ⟨B, 0, none⟩) (by show B < _; omega)).trans qB_0
  go_wp2
  exact HQ.out _ _ (eR _) rfl
 ·
  go_wp2
  exact HQ.out _ _ (eR _) rfl
 ·
  have hd2 : xs 2 = .pointer (some ⟨B, 17, none⟩) := (HD.out 2 (dk (by kernel_rfl)))
  generalize xs 2 = x2 at hd2 HQ ⊢; subst hd2
  go_wp2
  exact HQ.out _ _ (eR _) rfl
 ·
  have hd3 : xs 3 = .pointer (some ⟨B, 17, none⟩) := (HD.out 3 (dk (by kernel_rfl)))
  generalize xs 3 = x3 at hd3 HQ ⊢; subst hd3
  have hc : W.cell? ⟨B, 17, none⟩ = some (.int .i64 e.lo) := (HW.out.cell (p := ⟨B, 17, none⟩) (by show B < _; omega)).trans qB_17
  go_wp2
  exact HQ.out _ _ (eR _) rfl
 ·
  go_wp2
  exact HQ.out _ _ (eR _) rfl
 ·
  have hd5 : xs 5 = .pointer (some ⟨B, 17, none⟩) := (HD.out 5 (dk (by kernel_rfl)))
  generalize xs 5 = x5 at hd5 HQ ⊢; subst hd5
  go_wp2
  exact HQ.out _ _ (eR _) rfl
 ·
  have hd6 : xs 6 = .pointer (some ⟨B, 18, none⟩) := (HD.out 6 (dk (by kernel_rfl)))
  generalize xs 6 = x6 at hd6 HQ ⊢; subst hd6
  have hc : W.cell? ⟨B, 18, none⟩ = some (.int .i64 e.hi) := (HW.out.cell (p := ⟨B, 18, none⟩) (by show B < _; omega)).trans qB_18
  go_wp2
  exact HQ.out _ _ (eR _) rfl
 ·
  go_wp2
  exact HQ.out _ _ (eR _) rfl
 ·
  have hd8 : xs 8 = .pointer (some ⟨B, 21, none⟩) := (HD.out 8 (dk (by kernel_rfl)))
  generalize xs 8 = x8 at hd8 HQ ⊢; subst hd8
  have hc : W.cell? ⟨B, 21, none⟩ = some (.int .i64 e.serial) := (HW.out.cell (p := ⟨B, 21, none⟩) (by show B < _; omega)).trans qB_21
  go_wp2
  exact HQ.out _ _ (eR _) rfl
 ·
  go_wp2
  exact HQ.out _ _ (eR _) rfl
 ·
  have hd10 : xs 10 = .pointer (some ⟨B, 19, none⟩) := (HD.out 10 (dk (by kernel_rfl)))
  generalize xs 10 = x10 at hd10 HQ ⊢; subst hd10
  have hc : W.cell? ⟨B, 19, none⟩ = some (.slice PA e.pu.length e.pc) := (HW.out.cell (p := ⟨B, 19, none⟩) (by show B < _; omega)).trans qB_19
  go_wp2
  exact HQ.out _ _ (eR _) rfl
 ·
  have hd11 : xs 11 = .slice PA e.pu.length e.pc := (HD.out 11 (dk (by kernel_rfl)))
  generalize xs 11 = x11 at hd11 HQ ⊢; subst hd11
  go_wp2
  exact HQ.out _ _ (eR _) rfl
 ·
  have hd1 : xs 1 = .int .i64 e.num := (HD.out 1 (dk (by kernel_rfl)))
  generalize xs 1 = x1 at hd1 HQ ⊢; subst hd1
  have hd4 : xs 4 = .int .i64 e.lo := (HD.out 4 (dk (by kernel_rfl)))
  generalize xs 4 = x4 at hd4 HQ ⊢; subst hd4
  have hd7 : xs 7 = .int .i64 e.hi := (HD.out 7 (dk (by kernel_rfl)))
  generalize xs 7 = x7 at hd7 HQ ⊢; subst hd7
  have hd9 : xs 9 = .int .i64 e.serial := (HD.out 9 (dk (by kernel_rfl)))
  generalize xs 9 = x9 at hd9 HQ ⊢; subst hd9
  have hd12 : xs 12 = .int .i64 e.pu.length := (HD.out 12 (dk (by kernel_rfl)))
  generalize xs 12 = x12 at hd12 HQ ⊢; subst hd12
  go_wp2
  exact HQ.out _ _ ((eR _).alloc _) ⟨_, _, rfl, reads_fresh zE ([e.num, e.lo, e.hi, e.serial, (e.pu.length : Int)]) W _ _ rfl⟩
 ·
  obtain ⟨A13, c13, h13, hr13⟩ : (readI ([e.num, e.lo, e.hi, e.serial, (e.pu.length : Int)])).S (xs 13) W := (HD.out 13 (dk (by kernel_rfl)))
  generalize xs 13 = x13 at h13 HQ ⊢; subst h13
  go_wp2_with (go_at_call 156; refine (HI0.out A13 c13 _ hr13).mono ?_; rintro e w1 ⟨rfl, hx⟩)
  exact HQ.out _ _ hx rfl
 ·
  go_wp2
  exact HQ.out _ _ (eR _) rfl
 ·
  have hd15 : xs 15 = .pointer (some ⟨B, 1, none⟩) := (HD.out 15 (dk (by kernel_rfl)))
  generalize xs 15 = x15 at hd15 HQ ⊢; subst hd15
  go_wp2
  exact HQ.out _ _ (eR _) rfl
 ·
  have hd16 : xs 16 = .slice (some ⟨B, 1, none⟩) 16 16 := (HD.out 16 (dk (by kernel_rfl)))
  generalize xs 16 = x16 at hd16 HQ ⊢; subst hd16
  have hcv := conv_bytes 16 (rdB_1.out.on HW.out) (by rw [H16.out]; omega)
  rw [H16.out] at hcv
  go_wp2
  exact HQ.out _ _ (eR _) rfl
 intro xs W3 hW hS
 have h14 : xs 14 = .string (strOfNums (encInts [e.num, e.lo, e.hi, e.serial, (e.pu.length : Int)])) := hS 14 (by omega)
 have h17 : xs 17 = .string (strOfNums e.prev) := hS 17 (by omega)
 simp only [fillAt, dstOf, lc0, lcs, obs, Act.put, lsa, lsz, lss, nz, Nat.reduceAdd, List.drop_succ_cons, List.drop_zero, List.drop_nil]
 generalize xs 14 = x14 at *; subst h14
 generalize xs 17 = x17 at *; subst h17
 have HW3 := lh (HX1.out.trans hW)
 have HWW3 := lh hW
 clear hS hW qB_0 qB_17 qB_18 qB_21 qB_19
 have hls3 := HWW3.out.size
 generalize strOfNums (encInts [e.num, e.lo, e.hi, e.serial, (e.pu.length : Int)]) = T0 at *
 generalize strOfNums e.prev = T1 at *
 go_upto_region 2 with (fail)
 refine wp_world (fun W => Ext W1 W ∧ OwnsStr W1.heap.size W (some ⟨W3.heap.size, 0, none⟩) 2 [T0, T1]) ⟨HWW3.out.alloc _, owns_fresh (e := 9) sE [T0, T1] W3 _ _ _ rfl hls3 rfl (by simp)⟩ ?_
 generalize W3.heap.size = g3
 rintro W4 ⟨x4, o4⟩
 have HX4 := lh x4
 have HO4 := lh o4
 have hs4 := x4.size
 have qB_19 : W4.cell? ⟨B, 19, none⟩ = some (.slice PA e.pu.length e.pc) := (x4.cell (p := ⟨B, 19, none⟩) hlu).trans HQ19.out
 clear x4 o4 HI0 rdB_1 HW3 HWW3
 go_wp2
 go_loopw [3, 31] (fun o i wr => ∃ (A2 : Option Addr) (c2 : Nat) (out : List ByteArray) (k : Nat), o = .slice A2 out.length c2 ∧ i = .int .i64 k ∧ k ≤ e.pu.length ∧ out.length ≤ 2 + 2 * k ∧ Hid (out = [T0, T1] ++ (e.pu.take k).flatMap puParts) ∧ Hid (OwnsStr W1.heap.size wr A2 c2 out) ∧ Hid (Ext W1 wr)) (fun _ i _ => e.pu.length - (intOf i).toNat)
 case atStart => exact ⟨_, 2, [T0, T1], 0, rfl, rfl, Nat.zero_le _, Nat.le_refl _, lh (by simp), HO4, HX4⟩
 case round =>
  obtain ⟨A2, c2, out, k, rfl, rfl, hk, hol, HOu, HOw, HX⟩ := hrel
  have hsz := HX.out.size
  by_cases hlt : k < e.pu.length
  ·obtain ⟨b, off, rfl, hb, hrow⟩ := reads_row puE (HAp.out.ext (HX1.out.trans HX.out) (Nat.le_refl _)) k hlt
   have hb2 : b < wr.heap.size := by omega
   have HI1 := lh (HIp.out k hlt)
   have HN := lh (flat_snoc puParts e.pu k hlt)
   have hft2 := pu_fits e.pu[k]
   change rowOf wr b (off + k * 3) 3 = some (puC e.pu[k]) at hrow
   clear HIp
   generalize e.pu[k] = p at *
   cases hsf : p.soft with
   | true =>
    have e1 : oneB p.soft = 1 := by rw [hsf]; rfl
    have HPP : Hid (puParts p = [strOfNums (encInts [p.kind, 1]), p.what]) := lh (by rw [puParts, e1])
    rw [e1] at HI1
    clear e1
    go_upto_region 8 with (fail)
    refine wp_world (fun W => Ext wr W ∧ RowAt W wr.heap.size (puC p)) ⟨(by (with_reducible repeat first|exact eR _|apply eD|apply eN|apply eA|apply eO|apply eS|apply eC);all_goals first|omega|simp <;> omega), (RowAt.newAt (by simp)).store rfl⟩ ?_
    generalize hg : wr.heap.size = g
    rintro W5 ⟨x5, ug⟩
    have HX5 := lh x5
    have hl5 := ug.lt
    have hs5 := x5.size
    have qg_0 : W5.cell? ⟨g, 0, none⟩ = some (.int .i64 p.kind) := (ug.cell 0).trans (pu_g0 p)
    have qg_1 : W5.cell? ⟨g, 1, none⟩ = some (.string p.what) := (ug.cell 1).trans (pu_g1 p)
    clear ug x5 hrow
    refine wp_region_soft 9 (softsL [.eq (.slice A2 out.length c2), .eq (.pointer (some ⟨g, 0, none⟩)), .eq (.int .i64 p.kind), .eq (.int .i64 1), readI ([p.kind, 1]), .eq (.string (strOfNums (encInts [p.kind, 1]))), .eq (.pointer (some ⟨g, 1, none⟩)), .eq (.string p.what), readS ([strOfNums (encInts [p.kind, 1]), p.what])]) (by kernel_rfl) (by kernel_rfl) (lt_cons ?_ (lt_cons ?_ (lt_cons ?_ (lt_cons ?_ (lt_cons ?_ (lt_cons ?_ (lt_cons ?_ (lt_cons ?_ (lt_cons ?_ (lt_none)))))))))) ?_
    any_goals (refine sop rfl fun xs W HW hsW HD Q' HQ => ?_; simp only [fillAt, dstOf, lc0, lcs, obs, Act.put, lsa, lsz, lss, nz, Nat.reduceAdd] at HQ ⊢)
    ·
     go_wp2
     exact HQ.out _ _ (eR _) rfl
    ·
     go_wp2
     exact HQ.out _ _ (eR _) rfl
    ·
     have hd1 : xs 1 = .pointer (some ⟨g, 0, none⟩) := (HD.out 1 (dk (by kernel_rfl)))
     generalize xs 1 = x1 at hd1 HQ ⊢; subst hd1
     have hc : W.cell? ⟨g, 0, none⟩ = some (.int .i64 p.kind) := (HW.out.cell (p := ⟨g, 0, none⟩) (by show g < _; omega)).trans qg_0
     go_wp2
     exact HQ.out _ _ (eR _) rfl
    ·
     go_wp2
     exact HQ.out _ _ (eR _) rfl
    ·
     have hd2 : xs 2 = .int .i64 p.kind := (HD.out 2 (dk (by kernel_rfl)))
     generalize xs 2 = x2 at hd2 HQ ⊢; subst hd2
     have hd3 : xs 3 = .int .i64 1 := (HD.out 3 (dk (by kernel_rfl)))
     generalize xs 3 = x3 at hd3 HQ ⊢; subst hd3
     go_wp2
     exact HQ.out _ _ ((eR _).alloc _) ⟨_, _, rfl, reads_fresh zE ([p.kind, 1]) W _ _ rfl⟩
    ·
     obtain ⟨A4, c4, h4, hr4⟩ : (readI ([p.kind, 1])).S (xs 4) W := (HD.out 4 (dk (by kernel_rfl)))
     generalize xs 4 = x4 at h4 HQ ⊢; subst h4
     go_wp2_with (go_at_call 156; refine (HI1.out A4 c4 _ hr4).mono ?_; rintro e w1 ⟨rfl, hx⟩)
     exact HQ.out _ _ hx rfl
    ·
     go_wp2
     exact HQ.out _ _ (eR _) rfl
    ·
     have hd6 : xs 6 = .pointer (some ⟨g, 1, none⟩) := (HD.out 6 (dk (by kernel_rfl)))
     generalize xs 6 = x6 at hd6 HQ ⊢; subst hd6
     have hc : W.cell? ⟨g, 1, none⟩ = some (.string p.what) := (HW.out.cell (p := ⟨g, 1, none⟩) (by show g < _; omega)).trans qg_1
     go_wp2
     exact HQ.out _ _ (eR _) rfl
    ·
     have hd5 : xs 5 = .string (strOfNums (encInts [p.kind, 1])) := (HD.out 5 (dk (by kernel_rfl)))
     generalize xs 5 = x5 at hd5 HQ ⊢; subst hd5
     have hd7 : xs 7 = .string p.what := (HD.out 7 (dk (by kernel_rfl)))
     generalize xs 7 = x7 at hd7 HQ ⊢; subst hd7
     go_wp2
     exact HQ.out _ _ ((eR _).alloc _) ⟨_, _, rfl, reads_fresh sE ([strOfNums (encInts [p.kind, 1]), p.what]) W _ _ rfl, fun h => (by cases h)⟩
    intro xs W6 hW hS
    have h0 : xs 0 = .slice A2 out.length c2 := hS 0 (by omega)
    obtain ⟨A8, c8, h8, hr8, hz8⟩ : (readS ([strOfNums (encInts [p.kind, 1]), p.what])).S (xs 8) W6 := hS 8 (by omega)
    simp only [fillAt, dstOf, lc0, lcs, obs, Act.put, lsa, lsz, lss, nz, Nat.reduceAdd, List.drop_succ_cons, List.drop_zero, List.drop_nil]
    generalize xs 0 = x0 at *; subst h0
    generalize xs 8 = x8 at *; subst h8
    have HW6 := lh (HX5.out.trans hW)
    have HWW6 := lh hW
    clear hS hW qg_0 qg_1
    generalize strOfNums (encInts [p.kind, 1]) = T2 at *
    generalize p.what = T3 at *
    have hs6 := HWW6.out.size
    go_wp2_with (at_builtin; refine app_reads strT sE rfl _ _ rfl W1.heap.size _ _ out rfl (HOw.out.ext (by (with_reducible repeat first|exact HW6.out|exact eR _|apply eD|apply eN|apply eA|apply eO|apply eS|apply eC);all_goals first|omega|simp <;> omega)) W6.heap.size _ _ [T2, T3] rfl hr8 hz8 (by first | omega | (simp; omega)) (by first | omega | (simp; omega)) (by first | omega | (simp; omega)) ?_; intro A7 c7 l7 w7 HL HO5 hB hl1 hl2 _; have HO5' := lh HO5; have HB5 := lh hB; clear HO5 hB)
    go_roundw
    case rel => exact ⟨A7, c7, l7, k + 1, rfl, by go_num, by omega, by (try simp at hl1 hl2); omega, lh (by rw [HL.out, HN.out, HOu.out, HPP.out, List.append_assoc]), HO5', lh ((HX.out.trans HW6.out).grown HB5.out (Nat.le_refl _))⟩
    case measure => simp [intOf]; omega
   | false =>
    have e1 : oneB p.soft = 0 := by rw [hsf]; rfl
    have HPP : Hid (puParts p = [strOfNums (encInts [p.kind, 0]), p.what]) := lh (by rw [puParts, e1])
    rw [e1] at HI1
    clear e1
    go_upto_region 8 with (fail)
    refine wp_world (fun W => Ext wr W ∧ RowAt W wr.heap.size (puC p)) ⟨(by (with_reducible repeat first|exact eR _|apply eD|apply eN|apply eA|apply eO|apply eS|apply eC);all_goals first|omega|simp <;> omega), (RowAt.newAt (by simp)).store rfl⟩ ?_
    generalize hg : wr.heap.size = g
    rintro W5 ⟨x5, ug⟩
    have HX5 := lh x5
    have hl5 := ug.lt
    have hs5 := x5.size
    have qg_0 : W5.cell? ⟨g, 0, none⟩ = some (.int .i64 p.kind) := (ug.cell 0).trans (pu_g0 p)
    have qg_1 : W5.cell? ⟨g, 1, none⟩ = some (.string p.what) := (ug.cell 1).trans (pu_g1 p)
    clear ug x5 hrow
    refine wp_region_soft 9 (softsL [.eq (.slice A2 out.length c2), .eq (.pointer (some ⟨g, 0, none⟩)), .eq (.int .i64 p.kind), .eq (.int .i64 0), readI ([p.kind, 0]), .eq (.string (strOfNums (encInts [p.kind, 0]))), .eq (.pointer (some ⟨g, 1, none⟩)), .eq (.string p.what), readS ([strOfNums (encInts [p.kind, 0]), p.what])]) (by kernel_rfl) (by kernel_rfl) (lt_cons ?_ (lt_cons ?_ (lt_cons ?_ (lt_cons ?_ (lt_cons ?_ (lt_cons ?_ (lt_cons ?_ (lt_cons ?_ (lt_cons ?_ (lt_none)))))))))) ?_
    any_goals (refine sop rfl fun xs W HW hsW HD Q' HQ => ?_; simp only [fillAt, dstOf, lc0, lcs, obs, Act.put, lsa, lsz, lss, nz, Nat.reduceAdd] at HQ ⊢)
    ·
     go_wp2
     exact HQ.out _ _ (eR _) rfl
    ·
     go_wp2
     exact HQ.out _ _ (eR _) rfl
    ·
     have hd1 : xs 1 = .pointer (some ⟨g, 0, none⟩) := (HD.out 1 (dk (by kernel_rfl)))
     generalize xs 1 = x1 at hd1 HQ ⊢; subst hd1
     have hc : W.cell? ⟨g, 0, none⟩ = some (.int .i64 p.kind) := (HW.out.cell (p := ⟨g, 0, none⟩) (by show g < _; omega)).trans qg_0
     go_wp2
     exact HQ.out _ _ (eR _) rfl
    ·
     go_wp2
     exact HQ.out _ _ (eR _) rfl
    ·
     have hd2 : xs 2 = .int .i64 p.kind := (HD.out 2 (dk (by kernel_rfl)))
     generalize xs 2 = x2 at hd2 HQ ⊢; subst hd2
     have hd3 : xs 3 = .int .i64 0 := (HD.out 3 (dk (by kernel_rfl)))
     generalize xs 3 = x3 at hd3 HQ ⊢; subst hd3
     go_wp2
     exact HQ.out _ _ ((eR _).alloc _) ⟨_, _, rfl, reads_fresh zE ([p.kind, 0]) W _ _ rfl⟩
    ·
     obtain ⟨A4, c4, h4, hr4⟩ : (readI ([p.kind, 0])).S (xs 4) W := (HD.out 4 (dk (by kernel_rfl)))
     generalize xs 4 = x4 at h4 HQ ⊢; subst h4
     go_wp2_with (go_at_call 156; refine (HI1.out A4 c4 _ hr4).mono ?_; rintro e w1 ⟨rfl, hx⟩)
     exact HQ.out _ _ hx rfl
    ·
     go_wp2
     exact HQ.out _ _ (eR _) rfl
    ·
     have hd6 : xs 6 = .pointer (some ⟨g, 1, none⟩) := (HD.out 6 (dk (by kernel_rfl)))
     generalize xs 6 = x6 at hd6 HQ ⊢; subst hd6
     have hc : W.cell? ⟨g, 1, none⟩ = some (.string p.what) := (HW.out.cell (p := ⟨g, 1, none⟩) (by show g < _; omega)).trans qg_1
     go_wp2
     exact HQ.out _ _ (eR _) rfl
    ·
     have hd5 : xs 5 = .string (strOfNums (encInts [p.kind, 0])) := (HD.out 5 (dk (by kernel_rfl)))
     generalize xs 5 = x5 at hd5 HQ ⊢; subst hd5
     have hd7 : xs 7 = .string p.what := (HD.out 7 (dk (by kernel_rfl)))
     generalize xs 7 = x7 at hd7 HQ ⊢; subst hd7
     go_wp2
     exact HQ.out _ _ ((eR _).alloc _) ⟨_, _, rfl, reads_fresh sE ([strOfNums (encInts [p.kind, 0]), p.what]) W _ _ rfl, fun h => (by cases h)⟩
    intro xs W6 hW hS
    have h0 : xs 0 = .slice A2 out.length c2 := hS 0 (by omega)
    obtain ⟨A8, c8, h8, hr8, hz8⟩ : (readS ([strOfNums (encInts [p.kind, 0]), p.what])).S (xs 8) W6 := hS 8 (by omega)
    simp only [fillAt, dstOf, lc0, lcs, obs, Act.put, lsa, lsz, lss, nz, Nat.reduceAdd, List.drop_succ_cons, List.drop_zero, List.drop_nil]
    generalize xs 0 = x0 at *; subst h0
    generalize xs 8 = x8 at *; subst h8
    have HW6 := lh (HX5.out.trans hW)
    have HWW6 := lh hW
    clear hS hW qg_0 qg_1
    generalize strOfNums (encInts [p.kind, 0]) = T2 at *
    generalize p.what = T3 at *
    have hs6 := HWW6.out.size
    go_wp2_with (at_builtin; refine app_reads strT sE rfl _ _ rfl W1.heap.size _ _ out rfl (HOw.out.ext (by (with_reducible repeat first|exact HW6.out|exact eR _|apply eD|apply eN|apply eA|apply eO|apply eS|apply eC);all_goals first|omega|simp <;> omega)) W6.heap.size _ _ [T2, T3] rfl hr8 hz8 (by first | omega | (simp; omega)) (by first | omega | (simp; omega)) (by first | omega | (simp; omega)) ?_; intro A7 c7 l7 w7 HL HO5 hB hl1 hl2 _; have HO5' := lh HO5; have HB5 := lh hB; clear HO5 hB)
    go_roundw
    case rel => exact ⟨A7, c7, l7, k + 1, rfl, by go_num, by omega, by (try simp at hl1 hl2); omega, lh (by rw [HL.out, HN.out, HOu.out, HPP.out, List.append_assoc]), HO5', lh ((HX.out.trans HW6.out).grown HB5.out (Nat.le_refl _))⟩
    case measure => simp [intOf]; omega
  ·have e1 : k = e.pu.length := by omega
   subst e1
   have HOu' : Hid (out = [T0, T1] ++ e.pu.flatMap puParts) := lh (by rw [HOu.out, List.take_of_length_le (Nat.le_refl _)])
   have q20 : wr.cell? ⟨B, 20, none⟩ = some (.slice RA e.rv.length e.rc) := (HX.out.cell (p := ⟨B, 20, none⟩) hlu).trans HQ20.out
   have hlw : B < wr.heap.size := by omega
   clear HIp HQ19 HOu HQ20 qB_19 hs4
   go_wp2
   generalize hPre : [T0, T1] ++ e.pu.flatMap puParts = pre at *
   have hol2 : out.length ≤ 22 := by omega
   clear hPre hol HO4
   go_loopw [3, 51] (fun o i wr => ∃ (A3 : Option Addr) (c3 : Nat) (ou : List ByteArray) (k : Nat), o = .slice A3 ou.length c3 ∧ i = .int .i64 k ∧ k ≤ e.rv.length ∧ ou.length ≤ 22 + k ∧ Hid (ou = pre ++ (e.rv.take k).map strOfNums) ∧ Hid (OwnsStr W1.heap.size wr A3 c3 ou) ∧ Hid (Ext W1 wr)) (fun _ i _ => e.rv.length - (intOf i).toNat)
   case atStart => exact ⟨A2, c2, out, 0, rfl, rfl, Nat.zero_le _, by omega, lh (by rw [HOu'.out]; simp), HOw, HX⟩
   case round =>
    clear HOu' HOw HX hol2 q20 hlw hsz
    obtain ⟨A3, c3, ou, k, rfl, rfl, hk, hol, HOu, HOw, HX⟩ := hrel
    have hsz := HX.out.size
    by_cases hlt : k < e.rv.length
    ·obtain ⟨b, off, rfl, hb, hrow⟩ := reads_row dgE (HAr.out.ext (HX1.out.trans HX.out) (Nat.le_refl _)) k hlt
     have hb2 : b < wr.heap.size := by omega
     have HN := lh (map_snoc strOfNums e.rv k hlt)
     have H16d := lh (HRv.out k hlt)
     change rowOf wr b (off + k * 16) 16 = some (dgC e.rv[k]) at hrow
     generalize e.rv[k] = d at *
     have hfd : fitsRow 16 (dgC d) = true := by simp [fitsRow, dgC, Value.oneCell']
     go_upto_region 13 with (fail)
     refine wp_world (fun W => Ext wr W ∧ RowAt W wr.heap.size (dgC d)) ⟨(by (with_reducible repeat first|exact eR _|apply eD|apply eN|apply eA|apply eO|apply eS|apply eC);all_goals first|omega|simp <;> omega), (RowAt.newAt (by simp)).store rfl⟩ ?_
     generalize hg : wr.heap.size = g
     rintro W5 ⟨x5, u5⟩
     have HX5 := lh x5
     have hl5 := u5.lt
     have hs5 := x5.size
     have hcv := conv_bytes 16 (arr_reads (u5.all (n := 16) rfl (by omega)) H16d.out hl5) (by rw [H16d.out]; omega)
     rw [H16d.out] at hcv
     clear u5 x5 hrow
     go_wp2_with (at_builtin; refine app_from strT sE rfl _ _ rfl W1.heap.size _ _ ou rfl (HOw.out.ext (by (with_reducible repeat first|exact HX5.out|exact eR _|apply eD|apply eN|apply eA|apply eO|apply eS|apply eC);all_goals first|omega|simp <;> omega)) _ 1 _ [strOfNums d] rfl rfl (new_cellsAt rfl _ _) (by omega) (by omega) (by first | omega | (simp; omega)) ?_; intro A4 c4 l4 w4 HL HO5 hB hl1 hl2 _; have HO5' := lh HO5; have HB5 := lh hB; clear HO5 hB)
     go_roundw
     case rel => exact ⟨A4, c4, l4, k + 1, rfl, by go_num, by omega, by omega, lh (by rw [HL.out, HN.out, HOu.out, List.append_assoc]), HO5', lh ((HX.out.trans (HX5.out.alloc _)).grown HB5.out (Nat.le_refl _))⟩
     case measure => simp [intOf]; omega
    ·have e1 : k = e.rv.length := by omega
     subst e1
     have HOf : Hid (ou = epParts e) := lh (by rw [HOu.out, List.take_of_length_le (Nat.le_refl _), HE.out])
     go_wp2
     go_ret
     exact ⟨⟨A3, c3, ou, rfl, HOf, HOw.out.lower (by omega)⟩, HX1.out.trans HX.out⟩
def ownS (base : Nat) (ls : List ByteArray) : Soft := ⟨fun v w => ∃ A c, v = .slice A ls.length c ∧ OwnsStr base w A c ls, fun v w w' ⟨A, c, h1, h2⟩ hx => ⟨A, c, h1, h2.ext hx⟩⟩
theorem ename_any (e : Ep) (w : World) (hok : EpOk e) (hs : EpShort e) (ha : EpAt w e) (hk : KonstP w) :
  Calls Tryz.prog 58 #[.agg (epC e)] w fun r w' => r = .returned (.agg (dgC (epName e))) ∧ Ext w w' := by
 have hln := epName_lens hok hs
 have h16 := epName_len e
 have HD0 : Hid (epName e = Wire.digest 31 ((epParts e ++ [strOfNums e.sl]).map bts)) := lh rfl
 have HP0 := fun (W : World) (hx : Ext w W) => eparts_any e W hok hs (ha.on hx)
 unfold EPOut at HP0
 generalize epName e = D at *
 generalize epParts e = L at *
 have hLl : L.length ≤ 20000 := by
  have := lens_length (L ++ [strOfNums e.sl])
  rw [List.length_append] at this
  omega
 have HP : Hid (∀ W, Ext w W → Calls Tryz.prog 117 #[.agg (epC e)] W fun r w' => ∃ A c, r = .returned (.slice A L.length c) ∧ OwnsStr W.heap.size w' A c L ∧ Ext W w') := lh (fun W hx => (HP0 W hx).mono (fun r w' h => by
  obtain ⟨⟨A, c, l', h1, h2, h3⟩, h4⟩ := h
  obtain rfl := h2.out
  exact ⟨A, c, h1, h3, h4⟩))
 have HOf : Hid (∀ (A : Option Addr) (c : Nat) (l : List ByteArray) (W : World), l = L ++ [strOfNums e.sl] → KonstP W → ReadsStr W W.heap.size A l → Calls Tryz.prog 95 #[.int .i64 31, .slice A l.length c] W fun r w' => r = .returned (.agg (dgC D)) ∧ Ext W w') := lh (fun A c l W he h1 h2 => by
  subst he
  have h := of_ok 31 A c _ W h1 h2 (by omega)
  rw [← HD0.out, ← dgC_cells h16] at h
  exact h)
 have H16 := lh hok.sl.len
 have HK := lh hk
 have hft := ep_fits e
 have hfd : fitsRow 16 (dgC D) = true := by simp [fitsRow, dgC, Value.oneCell']
 have hfs : fitsRow 16 (dgC e.sl) = true := by simp [fitsRow, dgC, Value.oneCell']
 clear HP0 hok hs ha hk HD0 hln h16
 go_enter Tryz.func58, Tryz.ntmps58
 go_upto_region 1 with (fail)
 refine wp_world (fun W => Ext w W ∧ W.heap.size = w.heap.size + 2 ∧ RowAt W w.heap.size (epC e) ∧ RowAt W (w.heap.size + 1) (cells8 (zeros32 16))) ⟨(by (with_reducible repeat first|exact eR _|apply eD|apply eN|apply eA|apply eO|apply eS|apply eC);all_goals first|omega|simp <;> omega), by simp, (RowAt.new _ _ _).alloc _, RowAt.newAt (by simp)⟩ ?_
 obtain ⟨B, hB⟩ : ∃ B, w.heap.size = B := ⟨_, rfl⟩
 rw [hB]
 rintro W1 ⟨x1, hs1, uB, u2⟩
 have HX1 := lh x1
 have HRs := lh u2
 have hlu := uB.lt
 have kB_0_38 : rowOf W1 B 0 38 = some (epC e) := uB.all rfl (by omega)
 have kB_22_16 : rowOf W1 B 22 16 = some (dgC e.sl) := by rw [uB.row, if_neg (by omega), ep_s22_16]
 have rdB_22 := lh (arr_reads kB_22_16 H16.out hlu)
 clear x1 uB u2
 refine wp_region_soft 6 (softsL [.eq (.agg (epC e)), ownS W1.heap.size L, .eq (.pointer (some ⟨B, 22, none⟩)), .eq (.slice (some ⟨B, 22, none⟩) 16 16), .eq (.string (strOfNums e.sl)), readS ([strOfNums e.sl])]) (by kernel_rfl) (by kernel_rfl) (lt_cons ?_ (lt_cons ?_ (lt_cons ?_ (lt_cons ?_ (lt_cons ?_ (lt_cons ?_ (lt_none))))))) ?_
 any_goals (refine sop rfl fun xs W HW hsW HD Q' HQ => ?_; simp only [fillAt, dstOf, lc0, lcs, obs, Act.put, lsa, lsz, lss, nz, Nat.reduceAdd] at HQ ⊢)
 ·
  have hc := (row_extW HW.out (b := B) (by omega) 0 38).trans kB_0_38
  go_wp2
  exact HQ.out _ _ (eR _) rfl
 ·
  have hd0 : xs 0 = .agg (epC e) := (HD.out 0 (dk (by kernel_rfl)))
  generalize xs 0 = x0 at hd0 HQ ⊢; subst hd0
  go_wp2_with (go_at_call 117; refine (HP.out _ (HX1.out.trans HW.out)).mono ?_; rintro e w1 ⟨A, c, rfl, ho, hx⟩)
  exact HQ.out _ _ hx ⟨A, c, rfl, ho.lower hsW⟩
 ·
  go_wp2
  exact HQ.out _ _ (eR _) rfl
 ·
  have hd2 : xs 2 = .pointer (some ⟨B, 22, none⟩) := (HD.out 2 (dk (by kernel_rfl)))
  generalize xs 2 = x2 at hd2 HQ ⊢; subst hd2
  go_wp2
  exact HQ.out _ _ (eR _) rfl
 ·
  have hd3 : xs 3 = .slice (some ⟨B, 22, none⟩) 16 16 := (HD.out 3 (dk (by kernel_rfl)))
  generalize xs 3 = x3 at hd3 HQ ⊢; subst hd3
  have hcv := conv_bytes 16 (rdB_22.out.on HW.out) (by rw [H16.out]; omega)
  rw [H16.out] at hcv
  go_wp2
  exact HQ.out _ _ (eR _) rfl
 ·
  have hd4 : xs 4 = .string (strOfNums e.sl) := (HD.out 4 (dk (by kernel_rfl)))
  generalize xs 4 = x4 at hd4 HQ ⊢; subst hd4
  go_wp2
  exact HQ.out _ _ ((eR _).alloc _) ⟨_, _, rfl, reads_fresh sE ([strOfNums e.sl]) W _ _ rfl, fun h => (by cases h)⟩
 intro xs W3 hW hS
 have h1 : (ownS W1.heap.size L).S (xs 1) W3 := hS 1 (by omega)
 obtain ⟨A5, c5, h5, hr5, hz5⟩ : (readS ([strOfNums e.sl])).S (xs 5) W3 := hS 5 (by omega)
 simp only [fillAt, dstOf, lc0, lcs, obs, Act.put, lsa, lsz, lss, nz, Nat.reduceAdd, List.drop_succ_cons, List.drop_zero, List.drop_nil]
 generalize xs 5 = x5 at *; subst h5
 have HW3 := lh (HX1.out.trans hW)
 have HWW3 := lh hW
 clear hS hW kB_0_38 kB_22_16
 obtain ⟨A1, c1, hx1, ho1⟩ := h1
 generalize xs 1 = x1 at *
 subst hx1
 have HOn := lh ho1
 have hs3 := HWW3.out.size
 have HRs3 := lh (HRs.out.ext HWW3.out)
 clear ho1 HRs HP
 go_wp2_with (at_builtin; refine (show Hid _ from ?_).out)
 refine lh ?_
 refine app_reads strT sE rfl _ _ rfl W1.heap.size _ _ L rfl HOn.out W3.heap.size _ _ [strOfNums e.sl] rfl hr5 hz5 (by simp; omega) (by simp; omega) hs3 ?_
 intro A2 c2 l2 w2 HL2 hO9 hB9 hl1 hl2 _
 have HO2 := lh hO9
 have HX2 : Hid (Ext w w2) := lh (HW3.out.grown hB9 (by omega))
 have HRs2 : Hid (RowAt w2 (B + 1) (cells8 (zeros32 16))) := lh (HRs3.out.below hB9 (by omega))
 have hm2 : roomOf w2 (B + 1) 0 16 = true := by rw [HRs2.out.room]; rfl
 have hlr := HRs2.out.lt
 clear hO9 hB9 hl1 hl2
 go_wp2_with (go_at_call 95; refine (HOf.out _ _ l2 _ HL2.out (RowAt.ext HK.out HX2.out) (HO2.out.reads sE)).mono ?_; rintro e w' ⟨rfl, hxl⟩; obtain ⟨xo, rfl⟩ := hxl.asLater; clear hxl)
 exact post_row dig_ty Tryz.results58 rfl rfl (RowAt.stored (n := 16) (ds := dgC D) (HRs2.out.later _) (by rw [cells8_size]; rfl) rfl (by omega)) ⟨rfl, (by (with_reducible repeat first|exact HX2.out|exact eR _|apply eD|apply eN|apply eA|apply eO|apply eS|apply eC);all_goals first|omega|simp <;> omega)⟩
end Go.Proofs.YtpfhmcdcmepfdaaGreatDoor