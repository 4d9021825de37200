/- The sanity of law 31 answers true. -/
import Derived.WalkKit
import Derived.WalkSpells
import Derived.WalkLawsBesides
import Derived.Deep.QuietTactic
import Derived.BigQuiet
import Derived.Test.YtpojnhikgjcgmaaGreatDoorENt
import Derived.Test.YtpojnhikgjcgmaaGreatDoorENk
set_option maxRecDepth 100000
set_option maxHeartbeats 64000000
set_option linter.unusedVariables false
set_option linter.unusedSimpArgs false
namespace Go.Proofs.YtpojnhikgjcgmaaGreatDoor
open Go.RowKit Go.Shelf
open Go.Proofs
theorem flat_snoc {α β : Type} (f : α → List β) (l : List α) (k : Nat) (h : k < l.length) : (l.take (k + 1)).flatMap f = (l.take k).flatMap f ++ f l[k] := by
 rw [List.take_succ_eq_append_getElem h, List.flatMap_append]
 simp
theorem map_snoc {α β : Type} (f : α → β) (l : List α) (k : Nat) (h : k < l.length) : (l.take (k + 1)).map f = (l.take k).map f ++ [f l[k]] := by
 rw [List.take_succ_eq_append_getElem h, List.map_append]
 rfl
theorem owns_fresh {α : Type} {e : TypeId} {size : Nat} {enc : α → List Value} (E : EncTy enc size) (l : List α) (W : World) (cs : Array Value) (b base : Nat) (hb : b = W.heap.size) (hbase : base ≤ W.heap.size) (h : cs.toList = l.flatMap enc) (hl : l.length ≤ 1000000) : Owns e size enc base (W.alloc (.cells cs e)) (some ⟨b, 0, none⟩) l.length l := by
 subst hb
 refine Owns.mk E hbase (heap_alloc_new W _) (Nat.le_refl _) (by unfold maxLen; omega) ?_ ?_
 ·have := congrArg List.length h
  rw [E.flat_len] at this
  simpa using this
 ·rw [h, List.take_of_length_le]
  rw [E.flat_len]
  exact Nat.le_refl _
def EPOut (e : Ep) (base : Nat) (r : Ending) (w' : World) : Prop := ∃ A c l', r = .returned (.slice A l'.length c) ∧ Hid (l' = epParts e) ∧ OwnsStr base w' A c l'
theorem eparts_any (e : Ep) (w : World) (hok : EpOk e) (hs : EpShort e) (ha : EpAt w e) :
  Calls Tryz.prog 60 #[.agg (epC e)] w fun r w' => EPOut e w.heap.size r w' ∧ Ext w w' := by
 have HI0 := lh (fun (A : Option Addr) (c : Nat) (W : World) (hr : ReadsInt W W.heap.size A [e.num, e.lo, e.hi, e.serial, (e.pu.length : Int)]) => sints_ok A c [e.num, e.lo, e.hi, e.serial, (e.pu.length : Int)] W (by show 5 ≤ 100000; decide) hr (fun x hx => by
  have h1 := hok.ints x
  have h2 := hs.pu
  simp only [List.mem_cons, List.not_mem_nil, or_false] at hx h1
  rcases hx with rfl | rfl | rfl | rfl | rfl
  ·exact h1 (.inl rfl)
  ·exact h1 (.inr (.inl rfl))
  ·exact h1 (.inr (.inr (.inl rfl)))
  ·exact h1 (.inr (.inr (.inr rfl)))
  ·unfold i64; omega))
 have HIp := lh (fun (k : Nat) (h : k < e.pu.length) (A : Option Addr) (c : Nat) (W : World) (hr : ReadsInt W W.heap.size A [e.pu[k].kind, oneB e.pu[k].soft]) => sints_ok A c [e.pu[k].kind, oneB e.pu[k].soft] W (by show 2 ≤ 100000; decide) hr (fun x hx => by
  have h1 := (hok.pu _ (List.getElem_mem h)).1
  simp only [List.mem_cons, List.not_mem_nil, or_false] at hx
  rcases hx with rfl | rfl
  ·exact h1
  ·unfold i64 oneB; split <;> omega))
 have H16 := lh hok.prev.len
 have HRv := lh (fun (k : Nat) (h : k < e.rv.length) => (hok.rv _ (List.getElem_mem h)).len)
 have HAp := lh ha.pu
 have HAr := lh ha.rv
 have hpl := hs.pu
 have hrl := hs.rv
 have HE : Hid (epParts e = [strOfNums (encInts [e.num, e.lo, e.hi, e.serial, (e.pu.length : Int)]), strOfNums e.prev] ++ e.pu.flatMap puParts ++ e.rv.map strOfNums) := lh rfl
 have hft := ep_fits e
 clear hok hs ha
 go_enter Tryz.func60, Tryz.ntmps60
 go_wp2
 refine wp_world (fun W => Ext w W ∧ RowAt W w.heap.size (epC e) ∧ W.heap.size = w.heap.size + 1) ⟨(by (with_reducible repeat first|exact eR _|apply eD|apply eN|apply eA|apply eO|apply eS|apply eC);all_goals first|omega|simp <;> omega), RowAt.new _ _ _, by simp⟩ ?_
 obtain ⟨B, hB⟩ : ∃ B, w.heap.size = B := ⟨_, rfl⟩
 rw [hB]
 rintro W1 ⟨x1, uB, hs1⟩
 have HX1 := lh x1
 have hlu := uB.lt
 have qB_0 : W1.cell? ⟨B, 0, none⟩ = some (.int .i64 e.num) := (uB.cell 0).trans (ep_g0 e)
 have qB_17 : W1.cell? ⟨B, 17, none⟩ = some (.int .i64 e.lo) := (uB.cell 17).trans (ep_g17 e)
 have qB_18 : W1.cell? ⟨B, 18, none⟩ = some (.int .i64 e.hi) := (uB.cell 18).trans (ep_g18 e)
 have qB_21 : W1.cell? ⟨B, 21, none⟩ = some (.int .i64 e.serial) := (uB.cell 21).trans (ep_g21 e)
 have qB_19 : W1.cell? ⟨B, 19, none⟩ = some (.slice e.PA e.pu.length e.pc) := (uB.cell 19).trans (ep_g19 e)
 have HQ20 : Hid (W1.cell? ⟨B, 20, none⟩ = some (.slice e.RA e.rv.length e.rc)) := lh ((uB.cell 20).trans (ep_g20 e))
 have HQ19 := lh qB_19
 have rdB_1 := lh (arr_reads ((uB.row 1 16).trans (by rw [if_neg (by omega), ep_s1_16])) H16.out hlu)
 clear x1 uB
 generalize e.PA = PA at *
 generalize e.RA = RA at *
 refine wp_region_soft 18 (softsL [.eq (.pointer (some ⟨B, 0, none⟩)), .eq (.int .i64 e.num), .eq (.pointer (some ⟨B, 17, none⟩)), .eq (.pointer (some ⟨B, 17, none⟩)), .eq (.int .i64 e.lo), .eq (.pointer (some ⟨B, 17, none⟩)), .eq (.pointer (some ⟨B, 18, none⟩)), .eq (.int .i64 e.hi), .eq (.pointer (some ⟨B, 21, none⟩)), .eq (.int .i64 e.serial), .eq (.pointer (some ⟨B, 19, none⟩)), .eq (.slice PA e.pu.length e.pc), .eq (.int .i64 e.pu.length), readI ([e.num, e.lo, e.hi, e.serial, (e.pu.length : Int)]), .eq (.string (strOfNums (encInts [e.num, e.lo, e.hi, e.serial, (e.pu.length : Int)]))), .eq (.pointer (some ⟨B, 1, none⟩)), .eq (.slice (some ⟨B, 1, none⟩) 16 16), .eq (.string (strOfNums e.prev))]) (by kernel_rfl) (by kernel_rfl) (lt_cons ?_ (lt_cons ?_ (lt_cons ?_ (lt_cons ?_ (lt_cons ?_ (lt_cons ?_ (lt_cons ?_ (lt_cons ?_ (lt_cons ?_ (lt_cons ?_ (lt_cons ?_ (lt_cons ?_ (lt_cons ?_ (lt_cons ?_ (lt_cons ?_ (lt_cons ?_ (lt_cons ?_ (lt_cons ?_ (lt_none))))))))))))))))))) ?_
 any_goals (refine sop rfl fun xs W HW hsW HD Q' HQ => ?_; simp only [fillAt, dstOf, lc0, lcs, obs, Act.put, lsa, lsz, lss, nz, Nat.reduceAdd] at HQ ⊢)
 ·
  go_wp2
  exact HQ.out _ _ (eR _) rfl
 ·
  have hd0 : xs 0 = .pointer (some ⟨B, 0, none⟩) := (HD.out 0 (dk (by kernel_rfl)))
  generalize xs 0 = x0 at hd0 HQ ⊢; subst hd0
  have hc : W.cell? ⟨B, 0, none⟩ = some (.int .i64 e.num) := (HW.out.cell (p := ⟨B, 0, none⟩) (by show B < _; omega)).trans qB_0
  go_wp2
  exact HQ.out _ _ (eR _) rfl
 ·
  go_wp2
  exact HQ.out _ _ (eR _) rfl
 ·
  have hd2 : xs 2 = .pointer (some ⟨B, 17, none⟩) := (HD.out 2 (dk (by kernel_rfl)))
  generalize xs 2 = x2 at hd2 HQ ⊢; subst hd2
  go_wp2
  exact HQ.out _ _ (eR _) rfl
 ·
  have hd3 : xs 3 = .pointer (some ⟨B, 17, none⟩) := (HD.out 3 (dk (by kernel_rfl)))
  generalize xs 3 = x3 at hd3 HQ ⊢; subst hd3
  have hc : W.cell? ⟨B, 17, none⟩ = some (.int .i64 e.lo) := (HW.out.cell (p := ⟨B, 17, none⟩) (by show B < _; omega)).trans qB_17
  go_wp2
  exact HQ.out _ _ (eR _) rfl
 ·
  go_wp2
  exact HQ.out _ _ (eR _) rfl
 ·
  have hd5 : xs 5 = .pointer (some ⟨B, 17, none⟩) := (HD.out 5 (dk (by kernel_rfl)))
  generalize xs 5 = x5 at hd5 HQ ⊢; subst hd5
  go_wp2
  exact HQ.out _ _ (eR _) rfl
 ·
  have hd6 : xs 6 = .pointer (some ⟨B, 18, none⟩) := (HD.out 6 (dk (by kernel_rfl)))
  generalize xs 6 = x6 at hd6 HQ ⊢; subst hd6
  have hc : W.cell? ⟨B, 18, none⟩ = some (.int .i64 e.hi) := (HW.out.cell (p := ⟨B, 18, none⟩) (by show B < _; omega)).trans qB_18
  go_wp2
  exact HQ.out _ _ (eR _) rfl
 ·
  go_wp2
  exact HQ.out _ _ (eR _) rfl
 ·
  have hd8 : xs 8 = .pointer (some ⟨B, 21, none⟩) := (HD.out 8 (dk (by kernel_rfl)))
  generalize xs 8 = x8 at hd8 HQ ⊢; subst hd8
  have hc : W.cell? ⟨B, 21, none⟩ = some (.int .i64 e.serial) := (HW.out.cell (p := ⟨B, 21, none⟩) (by show B < _; omega)).trans qB_21
  go_wp2
  exact HQ.out _ _ (eR _) rfl
 ·
  go_wp2
  exact HQ.out _ _ (eR _) rfl
 ·
  have hd10 : xs 10 = .pointer (some ⟨B, 19, none⟩) := (HD.out 10 (dk (by kernel_rfl)))
  generalize xs 10 = x10 at hd10 HQ ⊢; subst hd10
  have hc : W.cell? ⟨B, 19, none⟩ = some (.slice PA e.pu.length e.pc) := (HW.out.cell (p := ⟨B, 19, none⟩) (by show B < _; omega)).trans qB_19
  go_wp2
  exact HQ.out _ _ (eR _) rfl
 ·
  have hd11 : xs 11 = .slice PA e.pu.length e.pc := (HD.out 11 (dk (by kernel_rfl)))
  generalize xs 11 = x11 at hd11 HQ ⊢; subst hd11
  go_wp2
  exact HQ.out _ _ (eR _) rfl
 ·
  have hd1 : xs 1 = .int .i64 e.num := (HD.out 1 (dk (by kernel_rfl)))
  generalize xs 1 = x1 at hd1 HQ ⊢; subst hd1
  have hd4 : xs 4 = .int .i64 e.lo := (HD.out 4 (dk (by kernel_rfl)))
  generalize xs 4 = x4 at hd4 HQ ⊢; subst hd4
  have hd7 : xs 7 = .int .i64 e.hi := (HD.out 7 (dk (by kernel_rfl)))
  generalize xs 7 = x7 at hd7 HQ ⊢; subst hd7
  have hd9 : xs 9 = .int .i64 e.serial := (HD.out 9 (dk (by kernel_rfl)))
  generalize xs 9 = x9 at hd9 HQ ⊢; subst hd9
  have hd12 : xs 12 = .int .i64 e.pu.length := (HD.out 12 (dk (by kernel_rfl)))
  generalize xs 12 = x12 at hd12 HQ ⊢; subst hd12
  go_wp2
  exact HQ.out _ _ ((eR _).alloc _) ⟨_, _, rfl, reads_fresh zE ([e.num, e.lo, e.hi, e.serial, (e.pu.length : Int)]) W _ _ rfl⟩
 ·
  obtain ⟨A13, c13, h13, hr13⟩ : (readI ([e.num, e.lo, e.hi, e.serial, (e.pu.length : Int)])).S (xs 13) W := (HD.out 13 (dk (by kernel_rfl)))
  generalize xs 13 = x13 at h13 HQ ⊢; subst h13
  go_wp2_with (go_at_call 115; refine (HI0.out A13 c13 _ hr13).mono ?_; rintro e w1 ⟨rfl, hx⟩)
  exact HQ.out _ _ hx rfl
 ·
  go_wp2
  exact HQ.out _ _ (eR _) rfl
 ·
  have hd15 : xs 15 = .pointer (some ⟨B, 1, none⟩) := (HD.out 15 (dk (by kernel_rfl)))
  generalize xs 15 = x15 at hd15 HQ ⊢; subst hd15
  go_wp2
  exact HQ.out _ _ (eR _) rfl
 ·
  have hd16 : xs 16 = .slice (some ⟨B, 1, none⟩) 16 16 := (HD.out 16 (dk (by kernel_rfl)))
  generalize xs 16 = x16 at hd16 HQ ⊢; subst hd16
  have hcv := conv_bytes 16 (rdB_1.out.on HW.out) (by rw [H16.out]; omega)
  rw [H16.out] at hcv
  go_wp2
  exact HQ.out _ _ (eR _) rfl
 intro xs W3 hW hS
 have h14 : xs 14 = .string (strOfNums (encInts [e.num, e.lo, e.hi, e.serial, (e.pu.length : Int)])) := hS 14 (by omega)
 have h17 : xs 17 = .string (strOfNums e.prev) := hS 17 (by omega)
 simp only [fillAt, dstOf, lc0, lcs, obs, Act.put, lsa, lsz, lss, nz, Nat.reduceAdd, List.drop_succ_cons, List.drop_zero, List.drop_nil]
 generalize xs 14 = x14 at *; subst h14
 generalize xs 17 = x17 at *; subst h17
 have HW3 := lh (HX1.out.trans hW)
 have HWW3 := lh hW
 clear hS hW qB_0 qB_17 qB_18 qB_21 qB_19
 have hls3 := HWW3.out.size
 generalize strOfNums (encInts [e.num, e.lo, e.hi, e.serial, (e.pu.length : Int)]) = T0 at *
 generalize strOfNums e.prev = T1 at *
 go_upto_region 2 with (fail)
 refine wp_world (fun W => Ext W1 W ∧ OwnsStr W1.heap.size W (some ⟨W3.heap.size, 0, none⟩) 2 [T0, T1]) ⟨HWW3.out.alloc _, owns_fresh (e := 9) sE [T0, T1] W3 _ _ _ rfl hls3 rfl (by simp)⟩ ?_
 generalize W3.heap.size = g3
 rintro W4 ⟨x4, o4⟩
 have HX4 := lh x4
 have HO4 := lh o4
 have hs4 := x4.size
 have qB_19 : W4.cell? ⟨B, 19, none⟩ = some (.slice PA e.pu.length e.pc) := (x4.cell (p := ⟨B, 19, none⟩) hlu).trans HQ19.out
 clear x4 o4 HI0 rdB_1 HW3 HWW3
 go_wp2
 go_loopw [3, 31] (fun o i wr => ∃ (A2 : Option Addr) (c2 : Nat) (out : List ByteArray) (k : Nat), o = .slice A2 out.length c2 ∧ i = .int .i64 k ∧ k ≤ e.pu.length ∧ out.length ≤ 2 + 2 * k ∧ Hid (out = [T0, T1] ++ (e.pu.take k).flatMap puParts) ∧ Hid (OwnsStr W1.heap.size wr A2 c2 out) ∧ Hid (Ext W1 wr)) (fun _ i _ => e.pu.length - (intOf i).toNat)
 case atStart => exact ⟨_, 2, [T0, T1], 0, rfl, rfl, Nat.zero_le _, Nat.le_refl _, lh (by simp), HO4, HX4⟩
 case round =>
  obtain ⟨A2, c2, out, k, rfl, rfl, hk, hol, HOu, HOw, HX⟩ := hrel
  have hsz := HX.out.size
  by_cases hlt : k < e.pu.length
  ·obtain ⟨b, off, rfl, hb, hrow⟩ := reads_row puE (HAp.out.ext (HX1.out.trans HX.out) (Nat.le_refl _)) k hlt
   have hb2 : b < wr.heap.size := by omega
   have HI1 := lh (HIp.out k hlt)
   have HN := lh (flat_snoc puParts e.pu k hlt)
   have hft2 := pu_fits e.pu[k]
   change rowOf wr b (off + k * 3) 3 = some (puC e.pu[k]) at hrow
   clear HIp
   generalize e.pu[k] = p at *
   cases hsf : p.soft with
   | true =>
    have e1 : oneB p.soft = 1 := by rw [hsf]; rfl
    have HPP : Hid (puParts p = [strOfNums (encInts [p.kind, 1]), p.what]) := lh (by rw [puParts, e1])
    rw [e1] at HI1
    clear e1
    go_upto_region 8 with (fail)
    refine wp_world (fun W => Ext wr W ∧ RowAt W wr.heap.size (puC p)) ⟨(by (with_reducible repeat first|exact eR _|apply eD|apply eN|apply eA|apply eO|apply eS|apply eC);all_goals first|omega|simp <;> omega), (RowAt.newAt (by simp)).store rfl⟩ ?_
    generalize hg : wr.heap.size = g
    rintro W5 ⟨x5, ug⟩
    have HX5 := lh x5
    have hl5 := ug.lt
    have hs5 := x5.size
    have qg_0 : W5.cell? ⟨g, 0, none⟩ = some (.int .i64 p.kind) := (ug.cell 0).trans (pu_g0 p)
    have qg_1 : W5.cell? ⟨g, 1, none⟩ = some (.string p.what) := (ug.cell 1).trans (pu_g1 p)
    clear ug x5 hrow
    refine wp_region_soft 9 (softsL [.eq (.slice A2 out.length c2), .eq (.pointer (some ⟨g, 0, none⟩)), .eq (.int .i64 p.kind), .eq (.int .i64 1), readI ([p.kind, 1]), .eq (.string (strOfNums (encInts [p.kind, 1]))), .eq (.pointer (some ⟨g, 1, none⟩)), .eq (.string p.what), readS ([strOfNums (encInts [p.kind, 1]), p.what])]) (by kernel_rfl) (by kernel_rfl) (lt_cons ?_ (lt_cons ?_ (lt_cons ?_ (lt_cons ?_ (lt_cons ?_ (lt_cons ?_ (lt_cons ?_ (lt_cons ?_ (lt_cons ?_ (lt_none)))))))))) ?_
    any_goals (refine sop rfl fun xs W HW hsW HD Q' HQ => ?_; simp only [fillAt, dstOf, lc0, lcs, obs, Act.put, lsa, lsz, lss, nz, Nat.reduceAdd] at HQ ⊢)
    ·
     go_wp2
     exact HQ.out _ _ (eR _) rfl
    ·
     go_wp2
     exact HQ.out _ _ (eR _) rfl
    ·
     have hd1 : xs 1 = .pointer (some ⟨g, 0, none⟩) := (HD.out 1 (dk (by kernel_rfl)))
     generalize xs 1 = x1 at hd1 HQ ⊢; subst hd1
     have hc : W.cell? ⟨g, 0, none⟩ = some (.int .i64 p.kind) := (HW.out.cell (p := ⟨g, 0, none⟩) (by show g < _; omega)).trans qg_0
     go_wp2
     exact HQ.out _ _ (eR _) rfl
    ·
     go_wp2
     exact HQ.out _ _ (eR _) rfl
    ·
     have hd2 : xs 2 = .int .i64 p.kind := (HD.out 2 (dk (by kernel_rfl)))
     generalize xs 2 = x2 at hd2 HQ ⊢; subst hd2
     have hd3 : xs 3 = .int .i64 1 := (HD.out 3 (dk (by kernel_rfl)))
     generalize xs 3 = x3 at hd3 HQ ⊢; subst hd3
     go_wp2
     exact HQ.out _ _ ((eR _).alloc _) ⟨_, _, rfl, reads_fresh zE ([p.kind, 1]) W _ _ rfl⟩
    ·
     obtain ⟨A4, c4, h4, hr4⟩ : (readI ([p.kind, 1])).S (xs 4) W := (HD.out 4 (dk (by kernel_rfl)))
     generalize xs 4 = x4 at h4 HQ ⊢; subst h4
     go_wp2_with (go_at_call 115; refine (HI1.out A4 c4 _ hr4).mono ?_; rintro e w1 ⟨rfl, hx⟩)
     exact HQ.out _ _ hx rfl
    ·
     go_wp2
     exact HQ.out _ _ (eR _) rfl
    ·
     have hd6 : xs 6 = .pointer (some ⟨g, 1, none⟩) := (HD.out 6 (dk (by kernel_rfl)))
     generalize xs 6 = x6 at hd6 HQ ⊢; subst hd6
     have hc : W.cell? ⟨g, 1, none⟩ = some (.string p.what) := (HW.out.cell (p := ⟨g, 1, none⟩) (by show g < _; omega)).trans qg_1
     go_wp2
     exact HQ.out _ _ (eR _) rfl
    ·
     have hd5 : xs 5 = .string (strOfNums (encInts [p.kind, 1])) := (HD.out 5 (dk (by kernel_rfl)))
     generalize xs 5 = x5 at hd5 HQ ⊢; subst hd5
     have hd7 : xs 7 = .string p.what := (HD.out 7 (dk (by kernel_rfl)))
     generalize xs 7 = x7 at hd7 HQ ⊢; subst hd7
     go_wp2
     exact HQ.out _ _ ((eR _).alloc _) ⟨_, _, rfl, reads_fresh sE ([strOfNums (encInts [p.kind, 1]), p.what]) W _ _ rfl, fun h => (by cases h)⟩
    intro xs W6 hW hS
    have h0 : xs 0 = .slice A2 out.length c2 := hS 0 (by omega)
    obtain ⟨A8, c8, h8, hr8, hz8⟩ : (readS ([strOfNums (encInts [p.kind, 1]), p.what])).S (xs 8) W6 := hS 8 (by omega)
    simp only [fillAt, dstOf, lc0, lcs, obs, Act.put, lsa, lsz, lss, nz, Nat.reduceAdd, List.drop_succ_cons, List.drop_zero, List.drop_nil]
    generalize xs 0 = x0 at *; subst h0
    generalize xs 8 = x8 at *; subst h8
    have HW6 := lh (HX5.out.trans hW)
    have HWW6 := lh hW
    clear hS hW qg_0 qg_1
    generalize strOfNums (encInts [p.kind, 1]) = T2 at *
    generalize p.what = T3 at *
    have hs6 := HWW6.out.size
    go_wp2_with (at_builtin; refine app_reads strT sE rfl _ _ rfl W1.heap.size _ _ out rfl (HOw.out.ext (by (with_reducible repeat first|exact HW6.out|exact eR _|apply eD|apply eN|apply eA|apply eO|apply eS|apply eC);all_goals first|omega|simp <;> omega)) W6.heap.size _ _ [T2, T3] rfl hr8 hz8 (by first | omega | (simp; omega)) (by first | omega | (simp; omega)) (by first | omega | (simp; omega)) ?_; intro A7 c7 l7 w7 HL HO5 hB hl1 hl2 _; have HO5' := lh HO5; have HB5 := lh hB; clear HO5 hB)
    go_roundw
    case rel => exact ⟨A7, c7, l7, k + 1, rfl, by go_num, by omega, by (try simp at hl1 hl2); omega, lh (by rw [HL.out, HN.out, HOu.out, HPP.out, List.append_assoc]), HO5', lh ((HX.out.trans HW6.out).grown HB5.out (Nat.le_refl _))⟩
    case measure => simp [intOf]; omega
   | false =>
    have e1 : oneB p.soft = 0 := by rw [hsf]; rfl
    have HPP : Hid (puParts p = [strOfNums (encInts [p.kind, 0]), p.what]) := lh (by rw [puParts, e1])
    rw [e1] at HI1
    clear e1
    go_upto_region 8 with (fail)
    refine wp_world (fun W => Ext wr W ∧ RowAt W wr.heap.size (puC p)) ⟨(by (with_reducible repeat first|exact eR _|apply eD|apply eN|apply eA|apply eO|apply eS|apply eC);all_goals first|omega|simp <;> omega), (RowAt.newAt (by simp)).store rfl⟩ ?_
    generalize hg : wr.heap.size = g
    rintro W5 ⟨x5, ug⟩
    have HX5 := lh x5
    have hl5 := ug.lt
    have hs5 := x5.size
    have qg_0 : W5.cell? ⟨g, 0, none⟩ = some (.int .i64 p.kind) := (ug.cell 0).trans (pu_g0 p)
    have qg_1 : W5.cell? ⟨g, 1, none⟩ = some (.string p.what) := (ug.cell 1).trans (pu_g1 p)
    clear ug x5 hrow
    refine wp_region_soft 9 (softsL [.eq (.slice A2 out.length c2), .eq (.pointer (some ⟨g, 0, none⟩)), .eq (.int .i64 p.kind), .eq (.int .i64 0), readI ([p.kind, 0]), .eq (.string (strOfNums (encInts [p.kind, 0]))), .eq (.pointer (some ⟨g, 1, none⟩)), .eq (.string p.what), readS ([strOfNums (encInts [p.kind, 0]), p.what])]) (by kernel_rfl) (by kernel_rfl) (lt_cons ?_ (lt_cons ?_ (lt_cons ?_ (lt_cons ?_ (lt_cons ?_ (lt_cons ?_ (lt_cons ?_ (lt_cons ?_ (lt_cons ?_ (lt_none)))))))))) ?_
    any_goals (refine sop rfl fun xs W HW hsW HD Q' HQ => ?_; simp only [fillAt, dstOf, lc0, lcs, obs, Act.put, lsa, lsz, lss, nz, Nat.reduceAdd] at HQ ⊢)
    ·
     go_wp2
     exact HQ.out _ _ (eR _) rfl
    ·
     go_wp2
     exact HQ.out _ _ (eR _) rfl
    ·
     have hd1 : xs 1 = .pointer (some ⟨g, 0, none⟩) := (HD.out 1 (dk (by kernel_rfl)))
     generalize xs 1 = x1 at hd1 HQ ⊢; subst hd1
     have hc : W.cell? ⟨g, 0, none⟩ = some (.int .i64 p.kind) := (HW.out.cell (p := ⟨g, 0, none⟩) (by show g < _; omega)).trans qg_0
     go_wp2
     exact HQ.out _ _ (eR _) rfl
    ·
     go_wp2
     exact HQ.out _ _ (eR _) rfl
    ·
     have hd2 : xs 2 = .int .i64 p.kind := (HD.out 2 (dk (by kernel_rfl)))
     generalize xs 2 = x2 at hd2 HQ ⊢; subst hd2
     have hd3 : xs 3 = .int .i64 0 := (HD.out 3 (dk (by kernel_rfl)))
     generalize xs 3 = x3 at hd3 HQ ⊢; subst hd3
     go_wp2
     exact HQ.out _ _ ((eR _).alloc _) ⟨_, _, rfl, reads_fresh zE ([p.kind, 0]) W _ _ rfl⟩
    ·
     obtain ⟨A4, c4, h4, hr4⟩ : (readI ([p.kind, 0])).S (xs 4) W := (HD.out 4 (dk (by kernel_rfl)))
     generalize xs 4 = x4 at h4 HQ ⊢; subst h4
     go_wp2_with (go_at_call 115; refine (HI1.out A4 c4 _ hr4).mono ?_; rintro e w1 ⟨rfl, hx⟩)
     exact HQ.out _ _ hx rfl
    ·
     go_wp2
     exact HQ.out _ _ (eR _) rfl
    ·
     have hd6 : xs 6 = .pointer (some ⟨g, 1, none⟩) := (HD.out 6 (dk (by kernel_rfl)))
     generalize xs 6 = x6 at hd6 HQ ⊢; subst hd6
     have hc : W.cell? ⟨g, 1, none⟩ = some (.string p.what) := (HW.out.cell (p := ⟨g, 1, none⟩) (by show g < _; omega)).trans qg_1
     go_wp2
     exact HQ.out _ _ (eR _) rfl
    ·
     have hd5 : xs 5 = .string (strOfNums (encInts [p.kind, 0])) := (HD.out 5 (dk (by kernel_rfl)))
     generalize xs 5 = x5 at hd5 HQ ⊢; subst hd5
     have hd7 : xs 7 = .string p.what := (HD.out 7 (dk (by kernel_rfl)))
     generalize xs 7 = x7 at hd7 HQ ⊢; subst hd7
     go_wp2
     exact HQ.out _ _ ((eR _).alloc _) ⟨_, _, rfl, reads_fresh sE ([strOfNums (encInts [p.kind, 0]), p.what]) W _ _ rfl, fun h => (by cases h)⟩
    intro xs W6 hW hS
    have h0 : xs 0 = .slice A2 out.length c2 := hS 0 (by omega)
    obtain ⟨A8, c8, h8, hr8, hz8⟩ : (readS ([strOfNums (encInts [p.kind, 0]), p.what])).S (xs 8) W6 := hS 8 (by omega)
    simp only [fillAt, dstOf, lc0, lcs, obs, Act.put, lsa, lsz, lss, nz, Nat.reduceAdd, List.drop_succ_cons, List.drop_zero, List.drop_nil]
    generalize xs 0 = x0 at *; subst h0
    generalize xs 8 = x8 at *; subst h8
    have HW6 := lh (HX5.out.trans hW)
    have HWW6 := lh hW
    clear hS hW qg_0 qg_1
    generalize strOfNums (encInts [p.kind, 0]) = T2 at *
    generalize p.what = T3 at *
    have hs6 := HWW6.out.size
    go_wp2_with (at_builtin; refine app_reads strT sE rfl _ _ rfl W1.heap.size _ _ out rfl (HOw.out.ext (by (with_reducible repeat first|exact HW6.out|exact eR _|apply eD|apply eN|apply eA|apply eO|apply eS|apply eC);all_goals first|omega|simp <;> omega)) W6.heap.size _ _ [T2, T3] rfl hr8 hz8 (by first | omega | (simp; omega)) (by first | omega | (simp; omega)) (by first | omega | (simp; omega)) ?_; intro A7 c7 l7 w7 HL HO5 hB hl1 hl2 _; have HO5' := lh HO5; have HB5 := lh hB; clear HO5 hB)
    go_roundw
    case rel => exact ⟨A7, c7, l7, k + 1, rfl, by go_num, by omega, by (try simp at hl1 hl2); omega, lh (by rw [HL.out, HN.out, HOu.out, HPP.out, List.append_assoc]), HO5', lh ((HX.out.trans HW6.out).grown HB5.out (Nat.le_refl _))⟩
    case measure => simp [intOf]; omega
  ·have e1 : k = e.pu.length := by omega
   subst e1
   have HOu' : Hid (out = [T0, T1] ++ e.pu.flatMap puParts) := lh (by rw [HOu.out, List.take_of_length_le (Nat.le_refl _)])
   have q20 : wr.cell? ⟨B, 20, none⟩ = some (.slice RA e.rv.length e.rc) := (HX.out.cell (p := ⟨B, 20, none⟩) hlu).trans HQ20.out
   have hlw : B < wr.heap.size := by omega
   clear HIp HQ19 HOu HQ20 qB_19 hs4
   go_wp2
   generalize hPre : [T0, T1] ++ e.pu.flatMap puParts = pre at *
   have hol2 : out.length ≤ 22 := by omega
   clear hPre hol HO4
   go_loopw [3, 51] (fun o i wr => ∃ (A3 : Option Addr) (c3 : Nat) (ou : List ByteArray) (k : Nat), o = .slice A3 ou.length c3 ∧ i = .int .i64 k ∧ k ≤ e.rv.length ∧ ou.length ≤ 22 + k ∧ Hid (ou = pre ++ (e.rv.take k).map strOfNums) ∧ Hid (OwnsStr W1.heap.size wr A3 c3 ou) ∧ Hid (Ext W1 wr)) (fun _ i _ => e.rv.length - (intOf i).toNat)
   case atStart => exact ⟨A2, c2, out, 0, rfl, rfl, Nat.zero_le _, by omega, lh (by rw [HOu'.out]; simp), HOw, HX⟩
   case round =>
    clear HOu' HOw HX hol2 q20 hlw hsz
    obtain ⟨A3, c3, ou, k, rfl, rfl, hk, hol, HOu, HOw, HX⟩ := hrel
    have hsz := HX.out.size
    by_cases hlt : k < e.rv.length
    ·obtain ⟨b, off, rfl, hb, hrow⟩ := reads_row dgE (HAr.out.ext (HX1.out.trans HX.out) (Nat.le_refl _)) k hlt
     have hb2 : b < wr.heap.size := by omega
     have HN := lh (map_snoc strOfNums e.rv k hlt)
     have H16d := lh (HRv.out k hlt)
     change rowOf wr b (off + k * 16) 16 = some (dgC e.rv[k]) at hrow
     generalize e.rv[k] = d at *
     have hfd : fitsRow 16 (dgC d) = true := by simp [fitsRow, dgC, Value.oneCell']
     go_upto_region 13 with (fail)
     refine wp_world (fun W => Ext wr W ∧ RowAt W wr.heap.size (dgC d)) ⟨(by (with_reducible repeat first|exact eR _|apply eD|apply eN|apply eA|apply eO|apply eS|apply eC);all_goals first|omega|simp <;> omega), (RowAt.newAt (by simp)).store rfl⟩ ?_
     generalize hg : wr.heap.size = g
     rintro W5 ⟨x5, u5⟩
     have HX5 := lh x5
     have hl5 := u5.lt
     have hs5 := x5.size
     have hcv := conv_bytes 16 (arr_reads (u5.all (n := 16) rfl (by omega)) H16d.out hl5) (by rw [H16d.out]; omega)
     rw [H16d.out] at hcv
     clear u5 x5 hrow
     go_wp2_with (at_builtin; refine app_from strT sE rfl _ _ rfl W1.heap.size _ _ ou rfl (HOw.out.ext (by (with_reducible repeat first|exact HX5.out|exact eR _|apply eD|apply eN|apply eA|apply eO|apply eS|apply eC);all_goals first|omega|simp <;> omega)) _ 1 _ [strOfNums d] rfl rfl (new_cellsAt rfl _ _) (by omega) (by omega) (by first | omega | (simp; omega)) ?_; intro A4 c4 l4 w4 HL HO5 hB hl1 hl2 _; have HO5' := lh HO5; have HB5 := lh hB; clear HO5 hB)
     go_roundw
     case rel => exact ⟨A4, c4, l4, k + 1, rfl, by go_num, by omega, by omega, lh (by rw [HL.out, HN.out, HOu.out, List.append_assoc]), HO5', lh ((HX.out.trans (HX5.out.alloc _)).grown HB5.out (Nat.le_refl _))⟩
     case measure => simp [intOf]; omega
    ·have e1 : k = e.rv.length := by omega
     subst e1
     have HOf : Hid (ou = epParts e) := lh (by rw [HOu.out, List.take_of_length_le (Nat.le_refl _), HE.out])
     go_wp2
     go_ret
     exact ⟨⟨A3, c3, ou, rfl, HOf, HOw.out.lower (by omega)⟩, HX1.out.trans HX.out⟩
theorem rone_any (b : Bool) (w : World) : Calls Tryz.prog 120 #[.bool b] w fun e w' => e = .returned (.int .i64 (oneB b)) ∧ Ext w w' := by
 cases b
 all_goals
  go_enter Tryz.func120, Tryz.ntmps120
  go_wp2
  go_ret
  exact ⟨rfl, (by (with_reducible repeat first|exact eR _|apply eD|apply eN|apply eA|apply eO|apply eS|apply eC);all_goals first|omega|simp <;> omega)⟩
theorem reparts_any (e : Ep) (w : World) (hok : EpOk e) (hs : EpShort e) (ha : EpAt w e) :
  Calls Tryz.prog 62 #[.agg (epC e)] w fun r w' => EPOut e w.heap.size r w' ∧ Ext w w' := by
 have HI0 := lh (fun (A : Option Addr) (c : Nat) (W : World) (hr : ReadsInt W W.heap.size A [e.num, e.lo, e.hi, e.serial, (e.pu.length : Int)]) => rsints_ok A c [e.num, e.lo, e.hi, e.serial, (e.pu.length : Int)] W (by show 5 ≤ 100000; decide) hr (fun x hx => by
  have h1 := hok.ints x
  have h2 := hs.pu
  simp only [List.mem_cons, List.not_mem_nil, or_false] at hx h1
  rcases hx with rfl | rfl | rfl | rfl | rfl
  ·exact h1 (.inl rfl)
  ·exact h1 (.inr (.inl rfl))
  ·exact h1 (.inr (.inr (.inl rfl)))
  ·exact h1 (.inr (.inr (.inr rfl)))
  ·unfold i64; omega))
 have HIp := lh (fun (k : Nat) (h : k < e.pu.length) (A : Option Addr) (c : Nat) (W : World) (hr : ReadsInt W W.heap.size A [e.pu[k].kind, oneB e.pu[k].soft]) => rsints_ok A c [e.pu[k].kind, oneB e.pu[k].soft] W (by show 2 ≤ 100000; decide) hr (fun x hx => by
  have h1 := (hok.pu _ (List.getElem_mem h)).1
  simp only [List.mem_cons, List.not_mem_nil, or_false] at hx
  rcases hx with rfl | rfl
  ·exact h1
  ·unfold i64 oneB; split <;> omega))
 have HDp := lh (fun W => rdigest4_any e.prev W hok.prev.len)
 have HDr := lh (fun (k : Nat) (h : k < e.rv.length) (W : World) => rdigest4_any e.rv[k] W (hok.rv _ (List.getElem_mem h)).len)
 have HOne := lh rone_any
 have HAp := lh ha.pu
 have HAr := lh ha.rv
 have hpl := hs.pu
 have hrl := hs.rv
 have HE : Hid (epParts e = [strOfNums (encInts [e.num, e.lo, e.hi, e.serial, (e.pu.length : Int)]), strOfNums e.prev] ++ e.pu.flatMap puParts ++ e.rv.map strOfNums) := lh rfl
 have hft := ep_fits e
 have hfp : fitsRow 16 (dgC e.prev) = true := by simp [fitsRow, dgC, Value.oneCell']
 clear hok hs ha
 go_enter Tryz.func62, Tryz.ntmps62
 go_wp2
 refine wp_world (fun W => Ext w W ∧ RowAt W w.heap.size (epC e) ∧ W.heap.size = w.heap.size + 1) ⟨(by (with_reducible repeat first|exact eR _|apply eD|apply eN|apply eA|apply eO|apply eS|apply eC);all_goals first|omega|simp <;> omega), RowAt.new _ _ _, by simp⟩ ?_
 obtain ⟨B, hB⟩ : ∃ B, w.heap.size = B := ⟨_, rfl⟩
 rw [hB]
 rintro W1 ⟨x1, uB, hs1⟩
 have HX1 := lh x1
 have hlu := uB.lt
 have qB_0 : W1.cell? ⟨B, 0, none⟩ = some (.int .i64 e.num) := (uB.cell 0).trans (ep_g0 e)
 have qB_17 : W1.cell? ⟨B, 17, none⟩ = some (.int .i64 e.lo) := (uB.cell 17).trans (ep_g17 e)
 have qB_18 : W1.cell? ⟨B, 18, none⟩ = some (.int .i64 e.hi) := (uB.cell 18).trans (ep_g18 e)
 have qB_21 : W1.cell? ⟨B, 21, none⟩ = some (.int .i64 e.serial) := (uB.cell 21).trans (ep_g21 e)
 have qB_19 : W1.cell? ⟨B, 19, none⟩ = some (.slice e.PA e.pu.length e.pc) := (uB.cell 19).trans (ep_g19 e)
 have kB_1_16 : rowOf W1 B 1 16 = some (dgC e.prev) := by rw [uB.row, if_neg (by omega), ep_s1_16]
 have HQ20 : Hid (W1.cell? ⟨B, 20, none⟩ = some (.slice e.RA e.rv.length e.rc)) := lh ((uB.cell 20).trans (ep_g20 e))
 have HQ19 := lh qB_19
 clear x1 uB
 generalize e.PA = PA at *
 generalize e.RA = RA at *
 refine wp_region_soft 18 (softsL [.eq (.pointer (some ⟨B, 0, none⟩)), .eq (.int .i64 e.num), .eq (.pointer (some ⟨B, 17, none⟩)), .eq (.pointer (some ⟨B, 17, none⟩)), .eq (.int .i64 e.lo), .eq (.pointer (some ⟨B, 17, none⟩)), .eq (.pointer (some ⟨B, 18, none⟩)), .eq (.int .i64 e.hi), .eq (.pointer (some ⟨B, 21, none⟩)), .eq (.int .i64 e.serial), .eq (.pointer (some ⟨B, 19, none⟩)), .eq (.slice PA e.pu.length e.pc), .eq (.int .i64 e.pu.length), readI ([e.num, e.lo, e.hi, e.serial, (e.pu.length : Int)]), .eq (.string (strOfNums (encInts [e.num, e.lo, e.hi, e.serial, (e.pu.length : Int)]))), .eq (.pointer (some ⟨B, 1, none⟩)), .eq (.agg (dgC e.prev)), .eq (.string (strOfNums e.prev))]) (by kernel_rfl) (by kernel_rfl) (lt_cons ?_ (lt_cons ?_ (lt_cons ?_ (lt_cons ?_ (lt_cons ?_ (lt_cons ?_ (lt_cons ?_ (lt_cons ?_ (lt_cons ?_ (lt_cons ?_ (lt_cons ?_ (lt_cons ?_ (lt_cons ?_ (lt_cons ?_ (lt_cons ?_ (lt_cons ?_ (lt_cons ?_ (lt_cons ?_ (lt_none))))))))))))))))))) ?_
 any_goals (refine sop rfl fun xs W HW hsW HD Q' HQ => ?_; simp only [fillAt, dstOf, lc0, lcs, obs, Act.put, lsa, lsz, lss, nz, Nat.reduceAdd] at HQ ⊢)
 ·
  go_wp2
  exact HQ.out _ _ (eR _) rfl
 ·
  have hd0 : xs 0 = .pointer (some ⟨B, 0, none⟩) := (HD.out 0 (dk (by kernel_rfl)))
  generalize xs 0 = x0 at hd0 HQ ⊢; subst hd0
  have hc : W.cell? ⟨B, 0, none⟩ = some (.int .i64 e.num) := (HW.out.cell (p := ⟨B, 0, none⟩) (by show B < _; omega)).trans qB_0
  go_wp2
  exact HQ.out _ _ (eR _) rfl
 ·
  go_wp2
  exact HQ.out _ _ (eR _) rfl
 ·
  have hd2 : xs 2 = .pointer (some ⟨B, 17, none⟩) := (HD.out 2 (dk (by kernel_rfl)))
  generalize xs 2 = x2 at hd2 HQ ⊢; subst hd2
  go_wp2
  exact HQ.out _ _ (eR _) rfl
 ·
  have hd3 : xs 3 = .pointer (some ⟨B, 17, none⟩) := (HD.out 3 (dk (by kernel_rfl)))
  generalize xs 3 = x3 at hd3 HQ ⊢; subst hd3
  have hc : W.cell? ⟨B, 17, none⟩ = some (.int .i64 e.lo) := (HW.out.cell (p := ⟨B, 17, none⟩) (by show B < _; omega)).trans qB_17
  go_wp2
  exact HQ.out _ _ (eR _) rfl
 ·
  go_wp2
  exact HQ.out _ _ (eR _) rfl
 ·
  have hd5 : xs 5 = .pointer (some ⟨B, 17, none⟩) := (HD.out 5 (dk (by kernel_rfl)))
  generalize xs 5 = x5 at hd5 HQ ⊢; subst hd5
  go_wp2
  exact HQ.out _ _ (eR _) rfl
 ·
  have hd6 : xs 6 = .pointer (some ⟨B, 18, none⟩) := (HD.out 6 (dk (by kernel_rfl)))
  generalize xs 6 = x6 at hd6 HQ ⊢; subst hd6
  have hc : W.cell? ⟨B, 18, none⟩ = some (.int .i64 e.hi) := (HW.out.cell (p := ⟨B, 18, none⟩) (by show B < _; omega)).trans qB_18
  go_wp2
  exact HQ.out _ _ (eR _) rfl
 ·
  go_wp2
  exact HQ.out _ _ (eR _) rfl
 ·
  have hd8 : xs 8 = .pointer (some ⟨B, 21, none⟩) := (HD.out 8 (dk (by kernel_rfl)))
  generalize xs 8 = x8 at hd8 HQ ⊢; subst hd8
  have hc : W.cell? ⟨B, 21, none⟩ = some (.int .i64 e.serial) := (HW.out.cell (p := ⟨B, 21, none⟩) (by show B < _; omega)).trans qB_21
  go_wp2
  exact HQ.out _ _ (eR _) rfl
 ·
  go_wp2
  exact HQ.out _ _ (eR _) rfl
 ·
  have hd10 : xs 10 = .pointer (some ⟨B, 19, none⟩) := (HD.out 10 (dk (by kernel_rfl)))
  generalize xs 10 = x10 at hd10 HQ ⊢; subst hd10
  have hc : W.cell? ⟨B, 19, none⟩ = some (.slice PA e.pu.length e.pc) := (HW.out.cell (p := ⟨B, 19, none⟩) (by show B < _; omega)).trans qB_19
  go_wp2
  exact HQ.out _ _ (eR _) rfl
 ·
  have hd11 : xs 11 = .slice PA e.pu.length e.pc := (HD.out 11 (dk (by kernel_rfl)))
  generalize xs 11 = x11 at hd11 HQ ⊢; subst hd11
  go_wp2
  exact HQ.out _ _ (eR _) rfl
 ·
  have hd1 : xs 1 = .int .i64 e.num := (HD.out 1 (dk (by kernel_rfl)))
  generalize xs 1 = x1 at hd1 HQ ⊢; subst hd1
  have hd4 : xs 4 = .int .i64 e.lo := (HD.out 4 (dk (by kernel_rfl)))
  generalize xs 4 = x4 at hd4 HQ ⊢; subst hd4
  have hd7 : xs 7 = .int .i64 e.hi := (HD.out 7 (dk (by kernel_rfl)))
  generalize xs 7 = x7 at hd7 HQ ⊢; subst hd7
  have hd9 : xs 9 = .int .i64 e.serial := (HD.out 9 (dk (by kernel_rfl)))
  generalize xs 9 = x9 at hd9 HQ ⊢; subst hd9
  have hd12 : xs 12 = .int .i64 e.pu.length := (HD.out 12 (dk (by kernel_rfl)))
  generalize xs 12 = x12 at hd12 HQ ⊢; subst hd12
  go_wp2
  exact HQ.out _ _ ((eR _).alloc _) ⟨_, _, rfl, reads_fresh zE ([e.num, e.lo, e.hi, e.serial, (e.pu.length : Int)]) W _ _ rfl⟩
 ·
  obtain ⟨A13, c13, h13, hr13⟩ : (readI ([e.num, e.lo, e.hi, e.serial, (e.pu.length : Int)])).S (xs 13) W := (HD.out 13 (dk (by kernel_rfl)))
  generalize xs 13 = x13 at h13 HQ ⊢; subst h13
  go_wp2_with (go_at_call 118; refine (HI0.out A13 c13 _ hr13).mono ?_; rintro e w1 ⟨rfl, hx⟩)
  exact HQ.out _ _ hx rfl
 ·
  go_wp2
  exact HQ.out _ _ (eR _) rfl
 ·
  have hd15 : xs 15 = .pointer (some ⟨B, 1, none⟩) := (HD.out 15 (dk (by kernel_rfl)))
  generalize xs 15 = x15 at hd15 HQ ⊢; subst hd15
  have hc := (row_extW HW.out (b := B) (by omega) 1 16).trans kB_1_16
  go_wp2
  exact HQ.out _ _ (eR _) rfl
 ·
  have hd16 : xs 16 = .agg (dgC e.prev) := (HD.out 16 (dk (by kernel_rfl)))
  generalize xs 16 = x16 at hd16 HQ ⊢; subst hd16
  go_wp2_with (go_at_call 119; refine (HDp.out _).mono ?_; rintro e w1 ⟨rfl, hx⟩)
  exact HQ.out _ _ hx rfl
 intro xs W3 hW hS
 have h14 : xs 14 = .string (strOfNums (encInts [e.num, e.lo, e.hi, e.serial, (e.pu.length : Int)])) := hS 14 (by omega)
 have h17 : xs 17 = .string (strOfNums e.prev) := hS 17 (by omega)
 simp only [fillAt, dstOf, lc0, lcs, obs, Act.put, lsa, lsz, lss, nz, Nat.reduceAdd, List.drop_succ_cons, List.drop_zero, List.drop_nil]
 generalize xs 14 = x14 at *; subst h14
 generalize xs 17 = x17 at *; subst h17
 have HW3 := lh (HX1.out.trans hW)
 have HWW3 := lh hW
 clear hS hW qB_0 qB_17 qB_18 qB_21 qB_19 kB_1_16
 have hls3 := HWW3.out.size
 generalize strOfNums (encInts [e.num, e.lo, e.hi, e.serial, (e.pu.length : Int)]) = T0 at *
 generalize strOfNums e.prev = T1 at *
 go_upto_region 2 with (fail)
 refine wp_world (fun W => Ext W1 W ∧ OwnsStr W1.heap.size W (some ⟨W3.heap.size, 0, none⟩) 2 [T0, T1]) ⟨HWW3.out.alloc _, owns_fresh (e := 9) sE [T0, T1] W3 _ _ _ rfl hls3 rfl (by simp)⟩ ?_
 generalize W3.heap.size = g3
 rintro W4 ⟨x4, o4⟩
 have HX4 := lh x4
 have HO4 := lh o4
 have hs4 := x4.size
 clear x4 o4 HI0 HDp HW3 HWW3
 go_wp2
 go_loopw [3, 4] (fun o i wr => ∃ (A2 : Option Addr) (c2 : Nat) (out : List ByteArray) (k : Nat), o = .slice A2 out.length c2 ∧ i = .int .i64 k ∧ k ≤ e.pu.length ∧ out.length ≤ 2 + 2 * k ∧ Hid (out = [T0, T1] ++ (e.pu.take k).flatMap puParts) ∧ Hid (OwnsStr W1.heap.size wr A2 c2 out) ∧ Hid (Ext W1 wr)) (fun _ i _ => e.pu.length - (intOf i).toNat)
 case atStart => exact ⟨_, 2, [T0, T1], 0, rfl, rfl, Nat.zero_le _, Nat.le_refl _, lh (by simp), HO4, HX4⟩
 case round =>
  obtain ⟨A2, c2, out, k, rfl, rfl, hk, hol, HOu, HOw, HX⟩ := hrel
  have hsz := HX.out.size
  have qB_19 : wr.cell? ⟨B, 19, none⟩ = some (.slice PA e.pu.length e.pc) := (HX.out.cell (p := ⟨B, 19, none⟩) hlu).trans HQ19.out
  have hlw : B < wr.heap.size := by omega
  by_cases hlt : k < e.pu.length
  ·obtain ⟨b, off, rfl, hb, hrow⟩ := reads_row puE (HAp.out.ext (HX1.out.trans HX.out) (Nat.le_refl _)) k hlt
   have hb2 : b < wr.heap.size := by omega
   have HI1 := lh (HIp.out k hlt)
   have HN := lh (flat_snoc puParts e.pu k hlt)
   have q0 : wr.cell? ⟨b, off+k*3, none⟩ = some (.int .i64 e.pu[k].kind) := (rowOf_cell hrow (i := 0) (by omega)).trans (pu_g0 _)
   have q1 : wr.cell? ⟨b, off+k*3+1, none⟩ = some (.string e.pu[k].what) := (rowOf_cell hrow (i := 1) (by omega)).trans (pu_g1 _)
   have q2 : wr.cell? ⟨b, off+k*3+2, none⟩ = some (.bool e.pu[k].soft) := (rowOf_cell hrow (i := 2) (by omega)).trans (pu_g2 _)
   clear HIp hrow
   have HPP : Hid (puParts e.pu[k] = [strOfNums (encInts [e.pu[k].kind, oneB e.pu[k].soft]), e.pu[k].what]) := lh rfl
   generalize e.pu[k] = p at *
   go_upto_region 5 with (fail)
   refine wp_region_soft 23 (softsL [.eq (.slice A2 out.length c2), .eq (.pointer (some ⟨B, 19, none⟩)), .eq (.slice (some ⟨b, off, none⟩) e.pu.length e.pc), .eq (.int .i64 k), .eq (.pointer (some ⟨b, off+k*3, none⟩)), .eq (.pointer (some ⟨b, off+k*3, none⟩)), .eq (.int .i64 p.kind), .eq (.pointer (some ⟨B, 19, none⟩)), .eq (.slice (some ⟨b, off, none⟩) e.pu.length e.pc), .eq (.int .i64 k), .eq (.pointer (some ⟨b, off+k*3, none⟩)), .eq (.pointer (some ⟨b, off+k*3+2, none⟩)), .eq (.bool p.soft), .eq (.int .i64 (oneB p.soft)), readI ([p.kind, oneB p.soft]), .eq (.string (strOfNums (encInts [p.kind, oneB p.soft]))), .eq (.pointer (some ⟨B, 19, none⟩)), .eq (.slice (some ⟨b, off, none⟩) e.pu.length e.pc), .eq (.int .i64 k), .eq (.pointer (some ⟨b, off+k*3, none⟩)), .eq (.pointer (some ⟨b, off+k*3+1, none⟩)), .eq (.string p.what), readS ([strOfNums (encInts [p.kind, oneB p.soft]), p.what])]) (by kernel_rfl) (by kernel_rfl) (lt_cons ?_ (lt_cons ?_ (lt_cons ?_ (lt_cons ?_ (lt_cons ?_ (lt_cons ?_ (lt_cons ?_ (lt_cons ?_ (lt_cons ?_ (lt_cons ?_ (lt_cons ?_ (lt_cons ?_ (lt_cons ?_ (lt_cons ?_ (lt_cons ?_ (lt_cons ?_ (lt_cons ?_ (lt_cons ?_ (lt_cons ?_ (lt_cons ?_ (lt_cons ?_ (lt_cons ?_ (lt_cons ?_ (lt_none)))))))))))))))))))))))) ?_
   any_goals (refine sop rfl fun xs W HW hsW HD Q' HQ => ?_; simp only [fillAt, dstOf, lc0, lcs, obs, Act.put, lsa, lsz, lss, nz, Nat.reduceAdd] at HQ ⊢)
   ·
    go_wp2
    exact HQ.out _ _ (eR _) rfl
   ·
    go_wp2
    exact HQ.out _ _ (eR _) rfl
   ·
    have hd1 : xs 1 = .pointer (some ⟨B, 19, none⟩) := (HD.out 1 (dk (by kernel_rfl)))
    generalize xs 1 = x1 at hd1 HQ ⊢; subst hd1
    have hc : W.cell? ⟨B, 19, none⟩ = some (.slice (some ⟨b, off, none⟩) e.pu.length e.pc) := (HW.out.cell (p := ⟨B, 19, none⟩) (by show B < _; omega)).trans qB_19
    go_wp2
    exact HQ.out _ _ (eR _) rfl
   ·
    go_wp2
    exact HQ.out _ _ (eR _) rfl
   ·
    have hd2 : xs 2 = .slice (some ⟨b, off, none⟩) e.pu.length e.pc := (HD.out 2 (dk (by kernel_rfl)))
    generalize xs 2 = x2 at hd2 HQ ⊢; subst hd2
    have hd3 : xs 3 = .int .i64 k := (HD.out 3 (dk (by kernel_rfl)))
    generalize xs 3 = x3 at hd3 HQ ⊢; subst hd3
    go_wp2
    exact HQ.out _ _ (eR _) rfl
   ·
    have hd4 : xs 4 = .pointer (some ⟨b, off+k*3, none⟩) := (HD.out 4 (dk (by kernel_rfl)))
    generalize xs 4 = x4 at hd4 HQ ⊢; subst hd4
    go_wp2
    exact HQ.out _ _ (eR _) rfl
   ·
    have hd5 : xs 5 = .pointer (some ⟨b, off+k*3, none⟩) := (HD.out 5 (dk (by kernel_rfl)))
    generalize xs 5 = x5 at hd5 HQ ⊢; subst hd5
    have hc : W.cell? ⟨b, off+k*3, none⟩ = some (.int .i64 p.kind) := (HW.out.cell (p := ⟨b, off+k*3, none⟩) (by show b < _; omega)).trans q0
    go_wp2
    exact HQ.out _ _ (eR _) rfl
   ·
    go_wp2
    exact HQ.out _ _ (eR _) rfl
   ·
    have hd7 : xs 7 = .pointer (some ⟨B, 19, none⟩) := (HD.out 7 (dk (by kernel_rfl)))
    generalize xs 7 = x7 at hd7 HQ ⊢; subst hd7
    have hc : W.cell? ⟨B, 19, none⟩ = some (.slice (some ⟨b, off, none⟩) e.pu.length e.pc) := (HW.out.cell (p := ⟨B, 19, none⟩) (by show B < _; omega)).trans qB_19
    go_wp2
    exact HQ.out _ _ (eR _) rfl
   ·
    go_wp2
    exact HQ.out _ _ (eR _) rfl
   ·
    have hd8 : xs 8 = .slice (some ⟨b, off, none⟩) e.pu.length e.pc := (HD.out 8 (dk (by kernel_rfl)))
    generalize xs 8 = x8 at hd8 HQ ⊢; subst hd8
    have hd9 : xs 9 = .int .i64 k := (HD.out 9 (dk (by kernel_rfl)))
    generalize xs 9 = x9 at hd9 HQ ⊢; subst hd9
    go_wp2
    exact HQ.out _ _ (eR _) rfl
   ·
    have hd10 : xs 10 = .pointer (some ⟨b, off+k*3, none⟩) := (HD.out 10 (dk (by kernel_rfl)))
    generalize xs 10 = x10 at hd10 HQ ⊢; subst hd10
    go_wp2
    exact HQ.out _ _ (eR _) rfl
   ·
    have hd11 : xs 11 = .pointer (some ⟨b, off+k*3+2, none⟩) := (HD.out 11 (dk (by kernel_rfl)))
    generalize xs 11 = x11 at hd11 HQ ⊢; subst hd11
    have hc : W.cell? ⟨b, off+k*3+2, none⟩ = some (.bool p.soft) := (HW.out.cell (p := ⟨b, off+k*3+2, none⟩) (by show b < _; omega)).trans q2
    go_wp2
    exact HQ.out _ _ (eR _) rfl
   ·
    have hd12 : xs 12 = .bool p.soft := (HD.out 12 (dk (by kernel_rfl)))
    generalize xs 12 = x12 at hd12 HQ ⊢; subst hd12
    go_wp2_with (go_at_call 120; refine (HOne.out _ _).mono ?_; rintro e w1 ⟨rfl, hx⟩)
    exact HQ.out _ _ hx rfl
   ·
    have hd6 : xs 6 = .int .i64 p.kind := (HD.out 6 (dk (by kernel_rfl)))
    generalize xs 6 = x6 at hd6 HQ ⊢; subst hd6
    have hd13 : xs 13 = .int .i64 (oneB p.soft) := (HD.out 13 (dk (by kernel_rfl)))
    generalize xs 13 = x13 at hd13 HQ ⊢; subst hd13
    go_wp2
    exact HQ.out _ _ ((eR _).alloc _) ⟨_, _, rfl, reads_fresh zE ([p.kind, oneB p.soft]) W _ _ rfl⟩
   ·
    obtain ⟨A14, c14, h14, hr14⟩ : (readI ([p.kind, oneB p.soft])).S (xs 14) W := (HD.out 14 (dk (by kernel_rfl)))
    generalize xs 14 = x14 at h14 HQ ⊢; subst h14
    go_wp2_with (go_at_call 118; refine (HI1.out A14 c14 _ hr14).mono ?_; rintro e w1 ⟨rfl, hx⟩)
    exact HQ.out _ _ hx rfl
   ·
    go_wp2
    exact HQ.out _ _ (eR _) rfl
   ·
    have hd16 : xs 16 = .pointer (some ⟨B, 19, none⟩) := (HD.out 16 (dk (by kernel_rfl)))
    generalize xs 16 = x16 at hd16 HQ ⊢; subst hd16
    have hc : W.cell? ⟨B, 19, none⟩ = some (.slice (some ⟨b, off, none⟩) e.pu.length e.pc) := (HW.out.cell (p := ⟨B, 19, none⟩) (by show B < _; omega)).trans qB_19
    go_wp2
    exact HQ.out _ _ (eR _) rfl
   ·
    go_wp2
    exact HQ.out _ _ (eR _) rfl
   ·
    have hd17 : xs 17 = .slice (some ⟨b, off, none⟩) e.pu.length e.pc := (HD.out 17 (dk (by kernel_rfl)))
    generalize xs 17 = x17 at hd17 HQ ⊢; subst hd17
    have hd18 : xs 18 = .int .i64 k := (HD.out 18 (dk (by kernel_rfl)))
    generalize xs 18 = x18 at hd18 HQ ⊢; subst hd18
    go_wp2
    exact HQ.out _ _ (eR _) rfl
   ·
    have hd19 : xs 19 = .pointer (some ⟨b, off+k*3, none⟩) := (HD.out 19 (dk (by kernel_rfl)))
    generalize xs 19 = x19 at hd19 HQ ⊢; subst hd19
    go_wp2
    exact HQ.out _ _ (eR _) rfl
   ·
    have hd20 : xs 20 = .pointer (some ⟨b, off+k*3+1, none⟩) := (HD.out 20 (dk (by kernel_rfl)))
    generalize xs 20 = x20 at hd20 HQ ⊢; subst hd20
    have hc : W.cell? ⟨b, off+k*3+1, none⟩ = some (.string p.what) := (HW.out.cell (p := ⟨b, off+k*3+1, none⟩) (by show b < _; omega)).trans q1
    go_wp2
    exact HQ.out _ _ (eR _) rfl
   ·
    have hd15 : xs 15 = .string (strOfNums (encInts [p.kind, oneB p.soft])) := (HD.out 15 (dk (by kernel_rfl)))
    generalize xs 15 = x15 at hd15 HQ ⊢; subst hd15
    have hd21 : xs 21 = .string p.what := (HD.out 21 (dk (by kernel_rfl)))
    generalize xs 21 = x21 at hd21 HQ ⊢; subst hd21
    go_wp2
    exact HQ.out _ _ ((eR _).alloc _) ⟨_, _, rfl, reads_fresh sE ([strOfNums (encInts [p.kind, oneB p.soft]), p.what]) W _ _ rfl, fun h => (by cases h)⟩
   intro xs W6 hW hS
   have h0 : xs 0 = .slice A2 out.length c2 := hS 0 (by omega)
   obtain ⟨A22, c22, h22, hr22, hz22⟩ : (readS ([strOfNums (encInts [p.kind, oneB p.soft]), p.what])).S (xs 22) W6 := hS 22 (by omega)
   simp only [fillAt, dstOf, lc0, lcs, obs, Act.put, lsa, lsz, lss, nz, Nat.reduceAdd, List.drop_succ_cons, List.drop_zero, List.drop_nil]
   generalize xs 0 = x0 at *; subst h0
   generalize xs 22 = x22 at *; subst h22
   have HW6 := lh (HX.out.trans hW)
   have HWW6 := lh hW
   clear hS hW q0 q1 q2 qB_19
   generalize strOfNums (encInts [p.kind, oneB p.soft]) = T2 at *
   generalize p.what = T3 at *
   have hs6 := HWW6.out.size
   go_wp2_with (at_builtin; refine app_reads strT sE rfl _ _ rfl W1.heap.size _ _ out rfl (HOw.out.ext (by (with_reducible repeat first|exact HWW6.out|exact eR _|apply eD|apply eN|apply eA|apply eO|apply eS|apply eC);all_goals first|omega|simp <;> omega)) W6.heap.size _ _ [T2, T3] rfl hr22 hz22 (by first | omega | (simp; omega)) (by first | omega | (simp; omega)) (by first | omega | (simp; omega)) ?_; intro A7 c7 l7 w7 HL HO5 hB hl1 hl2 _; have HO5' := lh HO5; have HB5 := lh hB; clear HO5 hB)
   go_roundw
   case rel => exact ⟨A7, c7, l7, k + 1, rfl, by go_num, by omega, by (try simp at hl1 hl2); omega, lh (by rw [HL.out, HN.out, HOu.out, HPP.out, List.append_assoc]), HO5', lh (HW6.out.grown HB5.out (Nat.le_refl _))⟩
   case measure => simp [intOf]; omega
  ·have e1 : k = e.pu.length := by omega
   subst e1
   have HOu' : Hid (out = [T0, T1] ++ e.pu.flatMap puParts) := lh (by rw [HOu.out, List.take_of_length_le (Nat.le_refl _)])
   clear HIp HQ19 HOu hs4
   go_wp2
   generalize hPre : [T0, T1] ++ e.pu.flatMap puParts = pre at *
   have hol2 : out.length ≤ 22 := by omega
   clear hPre hol HO4
   go_loopw [3, 5] (fun o i wv => ∃ (A3 : Option Addr) (c3 : Nat) (ou : List ByteArray) (k : Nat), o = .slice A3 ou.length c3 ∧ i = .int .i64 k ∧ k ≤ e.rv.length ∧ ou.length ≤ 22 + k ∧ Hid (ou = pre ++ (e.rv.take k).map strOfNums) ∧ Hid (OwnsStr W1.heap.size wv A3 c3 ou) ∧ Hid (Ext W1 wv)) (fun _ i _ => e.rv.length - (intOf i).toNat)
   case atStart => exact ⟨A2, c2, out, 0, rfl, rfl, Nat.zero_le _, by omega, lh (by rw [HOu'.out]; simp), HOw, HX⟩
   case round =>
    clear HOu' HOw HX hol2 hlw hsz qB_19
    obtain ⟨A3, c3, ou, k, rfl, rfl, hk, hol, HOu, HOw, HX⟩ := hrel
    have hsz := HX.out.size
    have qB_20 : wr.cell? ⟨B, 20, none⟩ = some (.slice RA e.rv.length e.rc) := (HX.out.cell (p := ⟨B, 20, none⟩) hlu).trans HQ20.out
    have hlw : B < wr.heap.size := by omega
    by_cases hlt : k < e.rv.length
    ·obtain ⟨b, off, rfl, hb, hrow⟩ := reads_row dgE (HAr.out.ext (HX1.out.trans HX.out) (Nat.le_refl _)) k hlt
     have hb2 : b < wr.heap.size := by omega
     have HN := lh (map_snoc strOfNums e.rv k hlt)
     have HD1 := lh (HDr.out k hlt)
     change rowOf wr b (off + k * 16) 16 = some (dgC e.rv[k]) at hrow
     clear HDr
     generalize e.rv[k] = d at *
     have hfd : fitsRow 16 (dgC d) = true := by simp [fitsRow, dgC, Value.oneCell']
     go_wp2_with (first
      | (go_at_call 119; refine (HD1.out _).mono ?_; rintro e w' ⟨rfl, hxl⟩; obtain ⟨xl, rfl⟩ := hxl.asLater; clear hxl)
      | (at_builtin; refine app_from strT sE rfl _ _ rfl W1.heap.size _ _ ou rfl (HOw.out.ext (by (with_reducible repeat first|exact eR _|apply eD|apply eN|apply eA|apply eO|apply eS|apply eC);all_goals first|omega|simp <;> omega)) _ 1 _ [strOfNums d] rfl rfl (new_cellsAt (by simp [later_size]) _ _) (by omega) (by omega) (by simp [later_size]; omega) ?_; intro A4 c4 l4 w4 HL HO5 hB hl1 hl2 _; have HO5' := lh HO5; have HB5 := lh hB; clear HO5 hB))
     go_roundw
     case rel => exact ⟨A4, c4, l4, k + 1, rfl, by go_num, by omega, by omega, lh (by rw [HL.out, HN.out, HOu.out, List.append_assoc]), HO5', lh (Ext.grown (by (with_reducible repeat first|exact HX.out|exact eR _|apply eD|apply eN|apply eA|apply eO|apply eS|apply eC);all_goals first|omega|simp <;> omega) HB5.out (Nat.le_refl _))⟩
     case measure => simp [intOf]; omega
    ·have e1 : k = e.rv.length := by omega
     subst e1
     have HOf : Hid (ou = epParts e) := lh (by rw [HOu.out, List.take_of_length_le (Nat.le_refl _), HE.out])
     go_wp2
     go_ret
     exact ⟨⟨A3, c3, ou, rfl, HOf, HOw.out.lower (by omega)⟩, HX1.out.trans HX.out⟩
def ownS (base : Nat) (ls : List ByteArray) : Soft := ⟨fun v w => ∃ A c, v = .slice A ls.length c ∧ OwnsStr base w A c ls, fun v w w' ⟨A, c, h1, h2⟩ hx => ⟨A, c, h1, h2.ext hx⟩⟩
theorem ename_any (e : Ep) (w : World) (hok : EpOk e) (hs : EpShort e) (ha : EpAt w e) (hk : KonstP w) :
  Calls Tryz.prog 15 #[.agg (epC e)] w fun r w' => r = .returned (.agg (dgC (epName e))) ∧ Ext w w' := by
 have hln := epName_lens hok hs
 have h16 := epName_len e
 have HD0 : Hid (epName e = Wire.digest 31 ((epParts e ++ [strOfNums e.sl]).map bts)) := lh rfl
 have HP0 := fun (W : World) (hx : Ext w W) => eparts_any e W hok hs (ha.on hx)
 unfold EPOut at HP0
 generalize epName e = D at *
 generalize epParts e = L at *
 have hLl : L.length ≤ 20000 := by
  have := lens_length (L ++ [strOfNums e.sl])
  rw [List.length_append] at this
  omega
 have HP : Hid (∀ W, Ext w W → Calls Tryz.prog 60 #[.agg (epC e)] W fun r w' => ∃ A c, r = .returned (.slice A L.length c) ∧ OwnsStr W.heap.size w' A c L ∧ Ext W w') := lh (fun W hx => (HP0 W hx).mono (fun r w' h => by
  obtain ⟨⟨A, c, l', h1, h2, h3⟩, h4⟩ := h
  obtain rfl := h2.out
  exact ⟨A, c, h1, h3, h4⟩))
 have HOf : Hid (∀ (A : Option Addr) (c : Nat) (l : List ByteArray) (W : World), l = L ++ [strOfNums e.sl] → KonstP W → ReadsStr W W.heap.size A l → Calls Tryz.prog 59 #[.int .i64 31, .slice A l.length c] W fun r w' => r = .returned (.agg (dgC D)) ∧ Ext W w') := lh (fun A c l W he h1 h2 => by
  subst he
  have h := of_ok 31 A c _ W h1 h2 (by omega)
  rw [← HD0.out, ← dgC_cells h16] at h
  exact h)
 have H16 := lh hok.sl.len
 have HK := lh hk
 have hft := ep_fits e
 have hfd : fitsRow 16 (dgC D) = true := by simp [fitsRow, dgC, Value.oneCell']
 have hfs : fitsRow 16 (dgC e.sl) = true := by simp [fitsRow, dgC, Value.oneCell']
 clear HP0 hok hs ha hk HD0 hln h16
 go_enter Tryz.func15, Tryz.ntmps15
 go_upto_region 1 with (fail)
 refine wp_world (fun W => Ext w W ∧ W.heap.size = w.heap.size + 2 ∧ RowAt W w.heap.size (epC e) ∧ RowAt W (w.heap.size + 1) (cells8 (zeros32 16))) ⟨(by (with_reducible repeat first|exact eR _|apply eD|apply eN|apply eA|apply eO|apply eS|apply eC);all_goals first|omega|simp <;> omega), by simp, (RowAt.new _ _ _).alloc _, RowAt.newAt (by simp)⟩ ?_
 obtain ⟨B, hB⟩ : ∃ B, w.heap.size = B := ⟨_, rfl⟩
 rw [hB]
 rintro W1 ⟨x1, hs1, uB, u2⟩
 have HX1 := lh x1
 have HRs := lh u2
 have hlu := uB.lt
 have kB_0_38 : rowOf W1 B 0 38 = some (epC e) := uB.all rfl (by omega)
 have kB_22_16 : rowOf W1 B 22 16 = some (dgC e.sl) := by rw [uB.row, if_neg (by omega), ep_s22_16]
 have rdB_22 := lh (arr_reads kB_22_16 H16.out hlu)
 clear x1 uB u2
 refine wp_region_soft 6 (softsL [.eq (.agg (epC e)), ownS W1.heap.size L, .eq (.pointer (some ⟨B, 22, none⟩)), .eq (.slice (some ⟨B, 22, none⟩) 16 16), .eq (.string (strOfNums e.sl)), readS ([strOfNums e.sl])]) (by kernel_rfl) (by kernel_rfl) (lt_cons ?_ (lt_cons ?_ (lt_cons ?_ (lt_cons ?_ (lt_cons ?_ (lt_cons ?_ (lt_none))))))) ?_
 any_goals (refine sop rfl fun xs W HW hsW HD Q' HQ => ?_; simp only [fillAt, dstOf, lc0, lcs, obs, Act.put, lsa, lsz, lss, nz, Nat.reduceAdd] at HQ ⊢)
 ·
  have hc := (row_extW HW.out (b := B) (by omega) 0 38).trans kB_0_38
  go_wp2
  exact HQ.out _ _ (eR _) rfl
 ·
  have hd0 : xs 0 = .agg (epC e) := (HD.out 0 (dk (by kernel_rfl)))
  generalize xs 0 = x0 at hd0 HQ ⊢; subst hd0
  go_wp2_with (go_at_call 60; refine (HP.out _ (HX1.out.trans HW.out)).mono ?_; rintro e w1 ⟨A, c, rfl, ho, hx⟩)
  exact HQ.out _ _ hx ⟨A, c, rfl, ho.lower hsW⟩
 ·
  go_wp2
  exact HQ.out _ _ (eR _) rfl
 ·
  have hd2 : xs 2 = .pointer (some ⟨B, 22, none⟩) := (HD.out 2 (dk (by kernel_rfl)))
  generalize xs 2 = x2 at hd2 HQ ⊢; subst hd2
  go_wp2
  exact HQ.out _ _ (eR _) rfl
 ·
  have hd3 : xs 3 = .slice (some ⟨B, 22, none⟩) 16 16 := (HD.out 3 (dk (by kernel_rfl)))
  generalize xs 3 = x3 at hd3 HQ ⊢; subst hd3
  have hcv := conv_bytes 16 (rdB_22.out.on HW.out) (by rw [H16.out]; omega)
  rw [H16.out] at hcv
  go_wp2
  exact HQ.out _ _ (eR _) rfl
 ·
  have hd4 : xs 4 = .string (strOfNums e.sl) := (HD.out 4 (dk (by kernel_rfl)))
  generalize xs 4 = x4 at hd4 HQ ⊢; subst hd4
  go_wp2
  exact HQ.out _ _ ((eR _).alloc _) ⟨_, _, rfl, reads_fresh sE ([strOfNums e.sl]) W _ _ rfl, fun h => (by cases h)⟩
 intro xs W3 hW hS
 have h1 : (ownS W1.heap.size L).S (xs 1) W3 := hS 1 (by omega)
 obtain ⟨A5, c5, h5, hr5, hz5⟩ : (readS ([strOfNums e.sl])).S (xs 5) W3 := hS 5 (by omega)
 simp only [fillAt, dstOf, lc0, lcs, obs, Act.put, lsa, lsz, lss, nz, Nat.reduceAdd, List.drop_succ_cons, List.drop_zero, List.drop_nil]
 generalize xs 5 = x5 at *; subst h5
 have HW3 := lh (HX1.out.trans hW)
 have HWW3 := lh hW
 clear hS hW kB_0_38 kB_22_16
 obtain ⟨A1, c1, hx1, ho1⟩ := h1
 generalize xs 1 = x1 at *
 subst hx1
 have HOn := lh ho1
 have hs3 := HWW3.out.size
 have HRs3 := lh (HRs.out.ext HWW3.out)
 clear ho1 HRs HP
 go_wp2_with (at_builtin; refine (show Hid _ from ?_).out)
 refine lh ?_
 refine app_reads strT sE rfl _ _ rfl W1.heap.size _ _ L rfl HOn.out W3.heap.size _ _ [strOfNums e.sl] rfl hr5 hz5 (by simp; omega) (by simp; omega) hs3 ?_
 intro A2 c2 l2 w2 HL2 hO9 hB9 hl1 hl2 _
 have HO2 := lh hO9
 have HX2 : Hid (Ext w w2) := lh (HW3.out.grown hB9 (by omega))
 have HRs2 : Hid (RowAt w2 (B + 1) (cells8 (zeros32 16))) := lh (HRs3.out.below hB9 (by omega))
 have hm2 : roomOf w2 (B + 1) 0 16 = true := by rw [HRs2.out.room]; rfl
 have hlr := HRs2.out.lt
 clear hO9 hB9 hl1 hl2
 go_wp2_with (go_at_call 59; refine (HOf.out _ _ l2 _ HL2.out (RowAt.ext HK.out HX2.out) (HO2.out.reads sE)).mono ?_; rintro e w' ⟨rfl, hxl⟩; obtain ⟨xo, rfl⟩ := hxl.asLater; clear hxl)
 exact post_row dig_ty Tryz.results15 rfl rfl (RowAt.stored (n := 16) (ds := dgC D) (HRs2.out.later _) (by rw [cells8_size]; rfl) rfl (by omega)) ⟨rfl, (by (with_reducible repeat first|exact HX2.out|exact eR _|apply eD|apply eN|apply eA|apply eO|apply eS|apply eC);all_goals first|omega|simp <;> omega)⟩
theorem rename_any (e : Ep) (w : World) (hok : EpOk e) (hs : EpShort e) (ha : EpAt w e) (hk : RKonst w) :
  Calls Tryz.prog 16 #[.agg (epC e)] w fun r w' => r = .returned (.agg (dgC (epName e))) ∧ Ext w w' := by
 have hln := epName_lens hok hs
 have h16 := epName_len e
 have HD0 : Hid (epName e = Wire.digest 31 ((epParts e ++ [strOfNums e.sl]).map bts)) := lh rfl
 have HP0 := fun (W : World) (hx : Ext w W) => reparts_any e W hok hs (ha.on hx)
 unfold EPOut at HP0
 generalize epName e = D at *
 generalize epParts e = L at *
 have hLl : L.length ≤ 20000 := by
  have := lens_length (L ++ [strOfNums e.sl])
  rw [List.length_append] at this
  omega
 have HP : Hid (∀ W, Ext w W → Calls Tryz.prog 62 #[.agg (epC e)] W fun r w' => ∃ A c, r = .returned (.slice A L.length c) ∧ OwnsStr W.heap.size w' A c L ∧ Ext W w') := lh (fun W hx => (HP0 W hx).mono (fun r w' h => by
  obtain ⟨⟨A, c, l', h1, h2, h3⟩, h4⟩ := h
  obtain rfl := h2.out
  exact ⟨A, c, h1, h3, h4⟩))
 have HOf : Hid (∀ (A : Option Addr) (c : Nat) (l : List ByteArray) (W : World), l = L ++ [strOfNums e.sl] → RKonst W → ReadsStr W W.heap.size A l → Calls Tryz.prog 61 #[.int .i64 31, .slice A l.length c] W fun r w' => r = .returned (.agg (dgC D)) ∧ Ext W w') := lh (fun A c l W he h1 h2 => by
  subst he
  have h := rof_ok 31 A c _ W h1 h2 (by omega)
  rw [← HD0.out, ← dgC_cells h16] at h
  exact h)
 have H16 := lh hok.sl.len
 have HK := lh hk
 have hft := ep_fits e
 have hfd : fitsRow 16 (dgC D) = true := by simp [fitsRow, dgC, Value.oneCell']
 have hfs : fitsRow 16 (dgC e.sl) = true := by simp [fitsRow, dgC, Value.oneCell']
 clear HP0 hok hs ha hk HD0 hln h16
 go_enter Tryz.func16, Tryz.ntmps16
 go_upto_region 1 with (fail)
 refine wp_world (fun W => Ext w W ∧ W.heap.size = w.heap.size + 2 ∧ RowAt W w.heap.size (epC e) ∧ RowAt W (w.heap.size + 1) (cells8 (zeros32 16))) ⟨(by (with_reducible repeat first|exact eR _|apply eD|apply eN|apply eA|apply eO|apply eS|apply eC);all_goals first|omega|simp <;> omega), by simp, (RowAt.new _ _ _).alloc _, RowAt.newAt (by simp)⟩ ?_
 obtain ⟨B, hB⟩ : ∃ B, w.heap.size = B := ⟨_, rfl⟩
 rw [hB]
 rintro W1 ⟨x1, hs1, uB, u2⟩
 have HX1 := lh x1
 have HRs := lh u2
 have hlu := uB.lt
 have kB_0_38 : rowOf W1 B 0 38 = some (epC e) := uB.all rfl (by omega)
 have kB_22_16 : rowOf W1 B 22 16 = some (dgC e.sl) := by rw [uB.row, if_neg (by omega), ep_s22_16]
 have rdB_22 := lh (arr_reads kB_22_16 H16.out hlu)
 clear x1 uB u2
 have HTx := lh (fun W => rtext16_any e.sl W H16.out)
 refine wp_region_soft 6 (softsL [.eq (.agg (epC e)), ownS W1.heap.size L, .eq (.pointer (some ⟨B, 22, none⟩)), .eq (.agg (dgC e.sl)), .eq (.string (strOfNums e.sl)), readS ([strOfNums e.sl])]) (by kernel_rfl) (by kernel_rfl) (lt_cons ?_ (lt_cons ?_ (lt_cons ?_ (lt_cons ?_ (lt_cons ?_ (lt_cons ?_ (lt_none))))))) ?_
 any_goals (refine sop rfl fun xs W HW hsW HD Q' HQ => ?_; simp only [fillAt, dstOf, lc0, lcs, obs, Act.put, lsa, lsz, lss, nz, Nat.reduceAdd] at HQ ⊢)
 ·
  have hc := (row_extW HW.out (b := B) (by omega) 0 38).trans kB_0_38
  go_wp2
  exact HQ.out _ _ (eR _) rfl
 ·
  have hd0 : xs 0 = .agg (epC e) := (HD.out 0 (dk (by kernel_rfl)))
  generalize xs 0 = x0 at hd0 HQ ⊢; subst hd0
  go_wp2_with (go_at_call 62; refine (HP.out _ (HX1.out.trans HW.out)).mono ?_; rintro e w1 ⟨A, c, rfl, ho, hx⟩)
  exact HQ.out _ _ hx ⟨A, c, rfl, ho.lower hsW⟩
 ·
  go_wp2
  exact HQ.out _ _ (eR _) rfl
 ·
  have hd2 : xs 2 = .pointer (some ⟨B, 22, none⟩) := (HD.out 2 (dk (by kernel_rfl)))
  generalize xs 2 = x2 at hd2 HQ ⊢; subst hd2
  have hc := (row_extW HW.out (b := B) (by omega) 22 16).trans kB_22_16
  go_wp2
  exact HQ.out _ _ (eR _) rfl
 ·
  have hd3 : xs 3 = .agg (dgC e.sl) := (HD.out 3 (dk (by kernel_rfl)))
  generalize xs 3 = x3 at hd3 HQ ⊢; subst hd3
  go_wp2_with (go_at_call 63; refine (HTx.out _).mono ?_; rintro e w1 ⟨rfl, hx⟩)
  exact HQ.out _ _ hx rfl
 ·
  have hd4 : xs 4 = .string (strOfNums e.sl) := (HD.out 4 (dk (by kernel_rfl)))
  generalize xs 4 = x4 at hd4 HQ ⊢; subst hd4
  go_wp2
  exact HQ.out _ _ ((eR _).alloc _) ⟨_, _, rfl, reads_fresh sE ([strOfNums e.sl]) W _ _ rfl, fun h => (by cases h)⟩
 intro xs W3 hW hS
 have h1 : (ownS W1.heap.size L).S (xs 1) W3 := hS 1 (by omega)
 obtain ⟨A5, c5, h5, hr5, hz5⟩ : (readS ([strOfNums e.sl])).S (xs 5) W3 := hS 5 (by omega)
 simp only [fillAt, dstOf, lc0, lcs, obs, Act.put, lsa, lsz, lss, nz, Nat.reduceAdd, List.drop_succ_cons, List.drop_zero, List.drop_nil]
 generalize xs 5 = x5 at *; subst h5
 have HW3 := lh (HX1.out.trans hW)
 have HWW3 := lh hW
 clear hS hW kB_0_38 kB_22_16
 obtain ⟨A1, c1, hx1, ho1⟩ := h1
 generalize xs 1 = x1 at *
 subst hx1
 have HOn := lh ho1
 have hs3 := HWW3.out.size
 have HRs3 := lh (HRs.out.ext HWW3.out)
 clear ho1 HRs HP
 go_wp2_with (at_builtin; refine (show Hid _ from ?_).out)
 refine lh ?_
 refine app_reads strT sE rfl _ _ rfl W1.heap.size _ _ L rfl HOn.out W3.heap.size _ _ [strOfNums e.sl] rfl hr5 hz5 (by simp; omega) (by simp; omega) hs3 ?_
 intro A2 c2 l2 w2 HL2 hO9 hB9 hl1 hl2 _
 have HO2 := lh hO9
 have HX2 : Hid (Ext w w2) := lh (HW3.out.grown hB9 (by omega))
 have HRs2 : Hid (RowAt w2 (B + 1) (cells8 (zeros32 16))) := lh (HRs3.out.below hB9 (by omega))
 have hm2 : roomOf w2 (B + 1) 0 16 = true := by rw [HRs2.out.room]; rfl
 have hlr := HRs2.out.lt
 clear hO9 hB9 hl1 hl2
 go_wp2_with (go_at_call 61; refine (HOf.out _ _ l2 _ HL2.out (RowAt.ext HK.out HX2.out) (HO2.out.reads sE)).mono ?_; rintro e w' ⟨rfl, hxl⟩; obtain ⟨xo, rfl⟩ := hxl.asLater; clear hxl)
 exact post_row dig_ty Tryz.results16 rfl rfl (RowAt.stored (n := 16) (ds := dgC D) (HRs2.out.later _) (by rw [cells8_size]; rfl) rfl (by omega)) ⟨rfl, (by (with_reducible repeat first|exact HX2.out|exact eR _|apply eD|apply eN|apply eA|apply eO|apply eS|apply eC);all_goals first|omega|simp <;> omega)⟩
end Go.Proofs.YtpojnhikgjcgmaaGreatDoor

namespace Go.Proofs.YtpojnhikgjcgmaaGreatDoor
open Go.RowKit Go.Shelf Go.Maps
open Go.Proofs
structure ChAt (w : World) (A : Option Addr) (l : List Ep) : Prop where
 rd : Reads 38 epL w w.heap.size A l
 ok : ∀ e ∈ l, EpOk e ∧ EpShort e ∧ EpAt w e
theorem ChAt.on {w w' : World} {A : Option Addr} {l : List Ep} (h : ChAt w A l) (hx : Ext w w') : ChAt w' A l := ⟨h.rd.on hx, fun e he => ⟨(h.ok e he).1, (h.ok e he).2.1, (h.ok e he).2.2.on hx⟩⟩
theorem key_pu {e : Ep} (hok : EpOk e) (hs : EpShort e) : KeyPu e := fun p hp => ⟨wf_i64 (hok.pu p hp).1, by have := hs.what p hp; show p.what.size ≤ maxLen; unfold maxLen; omega⟩
theorem dk_of {d : List Int} (h : DgOk d) : dkOk d := ⟨h.len, fun x hx => by
 have := h.byt x hx
 simp [Lit.wf, IntKind.min, IntKind.max, IntKind.signed, IntKind.bits]
 omega⟩
theorem epr_at {w : World} {A : Option Addr} {l : List Ep} (h : Reads 38 epL w w.heap.size A l) (k : Nat) (hk : k < l.length) : ∃ b off, A = some ⟨b, off, none⟩ ∧ b < w.heap.size ∧ rowOf w b (off + k * 38) 38 = some (epC l[k]) := by
 obtain ⟨b, off, h1, h2, h3⟩ := reads_row epE h k hk
 exact ⟨b, off, h1, h2, h3⟩
theorem TabAt.sets {w : World} {l : List Ep} {v : Value} (h : TabAt w l v) {b : Nat} {ds : Array Value} (hb : RowAt w b ds) (vs : List Value) : TabAt (w.setCells b 0 vs) l v := by
 obtain ⟨T, hT⟩ := hb
 have key : ∀ {k : TypeId} {R : Value → Option (DataW Unit × List MemPlace)} {g n : Nat} {D : DataW Unit}, w.ownsMap Tryz.prog k R g n D → (w.setCells b 0 vs).ownsMap Tryz.prog k R g n D := by
  intro k R g n D ho
  refine ownsMap_block ho (heap_sets_other vs w b 0 g ?_)
  rintro rfl
  obtain ⟨es, cl, he, _⟩ := ho
  rw [hT] at he
  cases he
 rcases h with h | ⟨bu, nu, br, nr, Du, Dr, h1, h2, h3, h4, h5⟩
 ·exact .inl h
 ·exact .inr ⟨bu, nu, br, nr, Du, Dr, h1, h2, key h3, key h4, h5⟩
theorem TabAt.shape {w : World} {l : List Ep} {cs : Array Value} (h : TabAt w l (.agg cs)) : ∃ mu mr n, cs = tabC mu mr n := by
 obtain ⟨mu, mr, h1, _⟩ := tab_parts h
 exact ⟨mu, mr, _, h1⟩
theorem fold_any (A : Option Addr) (c : Nat) (l : List Ep) (w : World) (hl : l.length ≤ 100) (hc : ChAt w A l) :
  Calls Tryz.prog 25 #[.slice A l.length c] w fun r w' => (∃ cs, r = .returned (.agg cs) ∧ TabAt w' l (.agg cs)) ∧ Ext w w' := by
 have HC := lh hc
 clear hc
 go_enter Tryz.func25, Tryz.ntmps25
 go_wp2
 obtain ⟨B, hB⟩ : ∃ B, w.heap.size = B := ⟨_, rfl⟩
 rw [hB]
 go_loopw [8] (fun i wr => ∃ (k : Nat) (mu mr : Option Nat) (n : Int), i = .int .i64 k ∧ k ≤ l.length ∧ Hid (Ext w wr) ∧ Hid (RowAt wr B (tabC none none 0)) ∧ Hid (RowAt wr (B + 1) (tabC mu mr n)) ∧ Hid (TabAt wr (l.take k) (.agg (tabC mu mr n)))) (fun i _ => l.length - (intOf i).toNat)
 case atStart => exact ⟨0, none, none, 0, rfl, Nat.zero_le _, lh (by (with_reducible repeat first|exact eR _|apply eD|apply eN|apply eA|apply eO|apply eS|apply eC);all_goals first|omega|simp <;> omega), lh (by rw [← hB]; exact (RowAt.new _ _ _).alloc _), lh (RowAt.newAt (by simp [hB])), lh (TabAt.none _)⟩
 case round =>
  obtain ⟨k, mu, mr, n, rfl, hk, HX, HR0, HR1, HT⟩ := hrel
  have hsz := HX.out.size
  have hl1 := HR1.out.lt
  by_cases hlt : k < l.length
  ·obtain ⟨b, off, hA, hb, kr⟩ := epr_at (HC.out.rd.on HX.out) k hlt
   have HOk := lh (HC.out.ok _ (List.getElem_mem hlt))
   have HTk := lh (List.take_succ_eq_append_getElem hlt)
   generalize l[k] = e at *
   have hfe := ep_fits e
   go_upto_region 5 with (fail)
   refine wp_world (fun W => Ext wr W ∧ RowAt W wr.heap.size (epC e)) ⟨(by (with_reducible repeat first|exact eR _|apply eD|apply eN|apply eA|apply eO|apply eS|apply eC);all_goals first|omega|simp <;> omega), RowAt.store (RowAt.new _ _ _) rfl⟩ ?_
   obtain ⟨g, hg⟩ : ∃ g, wr.heap.size = g := ⟨_, rfl⟩
   rw [hg]
   rintro W5 ⟨x5, u5⟩
   have HX5 := lh x5
   have hs5 := x5.size
   have k5 : rowOf W5 g 0 38 = some (epC e) := u5.all rfl (by omega)
   have k1 : rowOf W5 (B + 1) 0 3 = some (tabC mu mr n) := (HR1.out.ext x5).all rfl (by omega)
   have HR15 := lh (HR1.out.ext x5)
   have HR05 := lh (HR0.out.ext x5)
   have HAd := lh (add_any (l.take k) e (tabC mu mr n) W5 (HT.out.on x5) (by rw [List.length_take]; omega) (HOk.out.2.2.on (HX.out.trans x5)) (by have := HOk.out.2.1.pu; omega) (by have := HOk.out.2.1.rv; omega) (HOk.out.1.ints _ (by simp)) (key_pu HOk.out.1 HOk.out.2.1) (fun d hd => dk_of (HOk.out.1.rv d hd)))
   clear x5 u5 kr hA hg HT HR1 HR0
   go_wp2_with (go_at_call 29; refine (show Hid _ from ?_).out)
   refine lh ?_
   refine HAd.out.mono ?_
   rintro r w6 ⟨⟨cs', rfl, hT'⟩, hx6⟩
   obtain ⟨mu', mr', n', rfl⟩ := hT'.shape
   have hft := tab_fits mu' mr' n'
   have hr6 := HR15.out.ext hx6
   have HR06 := lh (HR05.out.ext hx6)
   have HX6 := lh ((HX.out.trans HX5.out).trans hx6)
   have m1 : roomOf w6 (B + 1) 0 3 = true := by rw [hr6.room]; rfl
   have HR16 := lh hr6
   have HT6 := lh hT'
   have hs6 := hx6.size
   clear hT' hx6 hr6 HAd k5 k1
   go_wp2
   go_roundw
   case rel => exact ⟨k + 1, mu', mr', n', by go_num, by omega, lh (by (with_reducible repeat first|exact HX6.out|exact eR _|apply eD|apply eN|apply eA|apply eO|apply eS|apply eC);all_goals first|omega|simp <;> omega), lh (RowAt.others HR06.out (by omega) _ _), lh (RowAt.store HR16.out rfl), lh (by rw [HTk.out]; exact HT6.out.sets HR16.out _)⟩
   case measure => simp [intOf]; omega
  ·have HTe : Hid (TabAt wr l (.agg (tabC mu mr n))) := lh (by have h := HT.out; rwa [List.take_of_length_le (by omega)] at h)
   have k1 : rowOf wr (B + 1) 0 3 = some (tabC mu mr n) := HR1.out.all rfl (by omega)
   have hft := tab_fits mu mr n
   have m0 : roomOf wr B 0 3 = true := by rw [HR0.out.room]; rfl
   clear HT
   go_wp2
   exact post_row tab_ty Tryz.results25 rfl rfl (RowAt.stored (n := 3) HR0.out rfl rfl (by omega)) ⟨⟨_, rfl, HTe.out.sets HR0.out _⟩, (by (with_reducible repeat first|exact HX.out|exact eR _|apply eD|apply eN|apply eA|apply eO|apply eS|apply eC);all_goals first|omega|simp <;> omega)⟩
section
variable {P : Program} {id : Nat} {Q : Exit → Act → World → Prop} {a0 : Act} {w0 : World} {l : List Oper}
theorem wp_region_put2 (n : Nat) (hn : l.length = n) (is1 is2 : Nat) (vs : Nat → Value) (B1 B2 : Nat) (cs01 cs1 cs02 cs2 : Array Value) (hm : P.follows .mixedOrders = true) (hB : allB l = true) (hC : chainW l [is1, is2] = true) (hne : decide (is1 ≠ is2) = true) (hk : decide (is1 < n) && decide (is2 < n) = true)
  (hrow1 : RowAt w0 B1 cs01) (hrow2 : RowAt w0 B2 cs02) (hBne : B1 ≠ B2) (hsz1 : cs1.size = cs01.size) (hsz2 : cs2.size = cs02.size)
  (hread : ∀ i, i < n → i ≠ is1 → i ≠ is2 → ∀ o, l[i]? = some o → ∀ xs w, ButS (fun k => k = B1 ∨ k = B2) w0 w → ((i ∈ depsOf l is1 → Ext w0 w) ∧ ∀ j, j ∈ depsOf l i → j ≠ is1 → j ≠ is2 → xs j = vs j) → ∀ Q' : Exit → Act → World → Prop, (∀ v w', Ext w w' → v = vs i → Q' .normal ((fillAt l a0 xs n).put o.dst v) w') → wpList P l.toArray Q' [o] (fillAt l a0 xs n) w)
  (hwrite1 : ∀ o, l[is1]? = some o → ∀ xs w, ButS (fun k => k = B1 ∨ k = B2) w0 w → RowAt w B1 cs01 ∧ (∀ j, j ∈ depsOf l is1 → j ≠ is1 → j ≠ is2 → xs j = vs j) → ∀ Q' : Exit → Act → World → Prop, (∀ v, Q' .normal ((fillAt l a0 xs n).put o.dst v) (w.setCells B1 0 cs1.toList)) → wpList P l.toArray Q' [o] (fillAt l a0 xs n) w)
  (hwrite2 : ∀ o, l[is2]? = some o → ∀ xs w, ButS (fun k => k = B1 ∨ k = B2) w0 w → RowAt w B2 cs02 ∧ (∀ j, j ∈ depsOf l is2 → j ≠ is1 → j ≠ is2 → xs j = vs j) → ∀ Q' : Exit → Act → World → Prop, (∀ v, Q' .normal ((fillAt l a0 xs n).put o.dst v) (w.setCells B2 0 cs2.toList)) → wpList P l.toArray Q' [o] (fillAt l a0 xs n) w)
  (hend : ∀ xs w, ButS (fun k => k = B1 ∨ k = B2) w0 w → RowAt w B1 cs1 → RowAt w B2 cs2 → (∀ i, i < n → i ≠ is1 → i ≠ is2 → xs i = vs i) → Q .normal (fillAt l a0 xs n) w) : (Code.region id l.toArray true).wp P Q a0 w0 := by
 have hne' : is1 ≠ is2 := by simpa using hne
 have hmem : ∀ {j}, j ∉ [is1, is2] ↔ j ≠ is1 ∧ j ≠ is2 := fun {j} => by simp
 have hN : nodupW [is1, is2] = true := by
  simp only [nodupW, List.all_eq_true, List.mem_range, Bool.or_eq_true, decide_eq_true_eq, List.length_cons, List.length_nil]
  intro t ht s hs
  rcases t with _ | _ | t
  ·rcases s with _ | _ | s
   ·exact .inl rfl
   ·exact .inr hne'
   ·omega
  ·rcases s with _ | _ | s
   ·exact .inr hne'.symm
   ·exact .inl rfl
   ·omega
  ·omega
 refine wp_region_steps n hn [is1, is2] (fun r _ w => ButS (fun k => k = B1 ∨ k = B2) w0 w ∧ (r = 0 → Ext w0 w ∧ RowAt w B1 cs01) ∧ (1 ≤ r → RowAt w B1 cs1) ∧ (r ≤ 1 → RowAt w B2 cs02) ∧ (r = 2 → RowAt w B2 cs2)) (fun i _ v _ => v = vs i) hm hB hC hN ?_ ?_ ?_ ?_ ?_ ?_ ?_ (by simpa using hk)
 ·exact ⟨(ButS.refl _ _).drew, fun _ => ⟨Ext.drew (eR _), hrow1.drew⟩, fun h => (by omega), fun _ => hrow2.drew, fun h => (by cases h)⟩
 ·exact fun r xs i v w _ h => h
 ·exact fun r xs w w' h hx => ⟨h.1.ext hx, fun e => ⟨(h.2.1 e).1.trans hx, (h.2.1 e).2.ext hx⟩, fun e => (h.2.2.1 e).ext hx, fun e => (h.2.2.2.1 e).ext hx, fun e => (h.2.2.2.2 e).ext hx⟩
 ·exact fun i r v w w' h _ => h
 ·intro i hi hik o ho r xs w hr hG hd _ hno Q' hQ
  refine hread i hi (hmem.1 hik).1 (hmem.1 hik).2 o ho xs w hG.1 ⟨fun hi' => ?_, fun j hj h1 h2 => hd j hj (hmem.2 ⟨h1, h2⟩)⟩ Q' (fun v w' hx hv => hQ v w' hx hv)
  have hr0 : r = 0 := by
   rcases Nat.eq_zero_or_pos r with h | h
   ·exact h
   ·exact absurd hi' (hno 0 h)
  exact (hG.2.1 hr0).1
 ·intro t ht hlt o ho xs w hG hd Q' hQ
  rcases t with _ | _ | t
  ·refine hwrite1 o ho xs w hG.1 ⟨(hG.2.1 rfl).2, fun j hj h1 h2 => hd j hj (hmem.2 ⟨h1, h2⟩)⟩ Q' (fun v => hQ v _ (fun i u h => h) ⟨hG.1.setCells (.inl rfl) _ _, fun h => (by cases h), fun _ => RowAt.store (hG.2.1 rfl).2 hsz1, fun _ => RowAt.others (hG.2.2.2.1 (by omega)) (Ne.symm hBne) _ _, fun h => (by cases h)⟩)
  ·refine hwrite2 o ho xs w hG.1 ⟨hG.2.2.2.1 (by omega), fun j hj h1 h2 => hd j hj (hmem.2 ⟨h1, h2⟩)⟩ Q' (fun v => hQ v _ (fun i u h => h) ⟨hG.1.setCells (.inr rfl) _ _, fun h => (by cases h), fun _ => RowAt.others (hG.2.2.1 (by omega)) hBne _ _, fun h => (by omega), fun _ => RowAt.store (hG.2.2.2.1 (by omega)) hsz2⟩)
  ·simp at ht; omega
 ·intro _ xs w hG hd
  exact hend xs w hG.1 (hG.2.2.1 (by simp)) (hG.2.2.2.2 rfl) (fun i hi h1 h2 => hd i hi (hmem.2 ⟨h1, h2⟩))
end
def pdC (lo hi : Int) : Array Value := #[.int .i64 lo, .int .i64 hi]
theorem pd_ty : RowTy Tryz.prog 25 2 := ⟨by kernel_rfl, by kernel_rfl⟩
theorem pd_ld (w : World) (b o : Nat) : (rowLoad 25 2 (.pointer (some ⟨b, o, none⟩))).run Tryz.prog w = rowLoadR Tryz.prog w 25 2 b o (rowOf w b o 2) := run_rowLoad pd_ty w b o
theorem pd_st (w : World) (b o : Nat) (cells : Array Value) : (rowStore 25 2 (.pointer (some ⟨b, o, none⟩)) (.agg cells)).run Tryz.prog w = rowStoreR Tryz.prog w 25 2 b o cells (roomOf w b o 2 && fitsRow 2 cells) := run_rowStore pd_ty w b o cells
theorem pd_al (w : World) : (rowAlloc 25).run Tryz.prog w = .ok (.value (.pointer (some ⟨w.heap.size, 0, none⟩))) (w.alloc (.cells (pdC 0 0) 25)) := run_rowAlloc (by kernel_rfl) w
theorem pd_xl (ρ : Operand → Value) (dst : Option Tmp) (x : Operand) (t : TypeId) (pos : String) (after : Array Edge) (guard : Option (Nat × Bool)) : execOp ρ { dst, op := .load 25 x, type := t, pos, after, guard } = rowLoad 25 2 (ρ x) := rfl
theorem pd_xs (ρ : Operand → Value) (dst : Option Tmp) (x y : Operand) (t : TypeId) (pos : String) (after : Array Edge) (guard : Option (Nat × Bool)) : execOp ρ { dst, op := .store 25 x y, type := t, pos, after, guard } = rowStore 25 2 (ρ x) (ρ y) := rfl
theorem pd_xa (ρ : Operand → Value) (dst : Option Tmp) (t : TypeId) (pos : String) (after : Array Edge) (guard : Option (Nat × Bool)) : execOp ρ { dst, op := .alloc 25, type := t, pos, after, guard } = rowAlloc 25 := rfl
attribute [go_sem ↓] pd_xl pd_xs pd_xa
attribute [go_sem] pd_ld pd_st pd_al
theorem pd_fits (lo hi : Int) : fitsRow 2 (pdC lo hi) = true := by kernel_rfl
theorem dg_fits (a : List Int) : fitsRow 16 (dgC a) = true := by simp [fitsRow, dgC, Value.oneCell']
theorem pd_size (lo hi : Int) : (pdC lo hi).size = 2 := rfl
def dgB0 : Sem Next := do pure (.value (← Instr.build 23 #[]))
theorem dgB0_x (ρ : Operand → Value) (dst : Option Tmp) (t : TypeId) (pos : String) (after : Array Edge) (guard : Option (Nat × Bool)) : execOp ρ { dst, op := .build 23 #[], type := t, pos, after, guard } = dgB0 := by kernel_rfl
theorem dgB0_run (W : World) : dgB0.run Tryz.prog W = .ok (.value (.agg (dgC (zeros32 16)))) W := by kernel_rfl
def pdB0 : Sem Next := do pure (.value (← Instr.build 25 #[]))
theorem pdB0_x (ρ : Operand → Value) (dst : Option Tmp) (t : TypeId) (pos : String) (after : Array Edge) (guard : Option (Nat × Bool)) : execOp ρ { dst, op := .build 25 #[], type := t, pos, after, guard } = pdB0 := by kernel_rfl
theorem pdB0_run (W : World) : pdB0.run Tryz.prog W = .ok (.value (.agg (pdC 0 0))) W := by kernel_rfl
theorem ep_pd (e : Ep) : rowSub (epC e) 17 2 = some (pdC e.lo e.hi) := by kernel_rfl
theorem ep_prev (e : Ep) : rowSub (epC e) 1 16 = some (dgC e.prev) := by kernel_rfl
theorem last_nil : lastD [] = zeros32 16 ∧ lastLo [] = 0 ∧ lastHi [] = 0 := ⟨rfl, rfl, rfl⟩
theorem last_some {l : List Ep} (h : 0 < l.length) : lastD l = epName (l[l.length - 1]'(by omega)) ∧ lastLo l = (l[l.length - 1]'(by omega)).lo ∧ lastHi l = (l[l.length - 1]'(by omega)).hi := by
 have e : l.getLast? = some (l[l.length - 1]'(by omega)) := by
  rw [List.getLast?_eq_getElem?, List.getElem?_eq_getElem (by omega)]
 unfold lastD lastLo lastHi
 rw [e]
 exact ⟨rfl, rfl, rfl⟩
section
attribute [local go_sem ↓] dgB0_x pdB0_x
attribute [local go_sem] dgB0_run pdB0_run pd_fits dg_fits pd_size
theorem last_any2 (A : Option Addr) (c : Nat) (l : List Ep) (w : World) (hl : l.length ≤ 100) (hc : ChAt w A l) (hk : KonstP w) :
  Calls Tryz.prog 81 #[.slice A l.length c] w fun r w' => r = .returned (.tuple #[.agg (dgC (lastD l)), .agg (pdC (lastLo l) (lastHi l))]) ∧ Ext w w' := by
 by_cases h0 : l.length = 0
 ·have e := List.eq_nil_of_length_eq_zero h0
  subst e
  clear h0 hc hk
  go_enter Tryz.func81, Tryz.ntmps81
  go_wp2
  refine post_two Tryz.results81 rfl ⟨_, rfl, run_loadVar_row dig_ty (RowAt.all (n := 16) (RowAt.others (RowAt.store ((RowAt.new _ _ _).alloc _) rfl) (by omega) _ _) rfl (by omega))⟩ ⟨_, rfl, run_loadVar_row pd_ty (RowAt.all (n := 2) (RowAt.store (RowAt.others (RowAt.newAt (by simp)) (by omega) _ _) rfl) rfl (by omega))⟩ ⟨rfl, (by (with_reducible repeat first|exact eR _|apply eD|apply eN|apply eA|apply eO|apply eS|apply eC);all_goals first|omega|simp <;> omega)⟩
 ·obtain ⟨h1, h2, h3⟩ := last_some (l := l) (by omega)
  have HOk := lh (hc.ok _ (List.getElem_mem (by omega : l.length - 1 < l.length)))
  obtain ⟨b, off, rfl, hb, kr⟩ := epr_at hc.rd (l.length - 1) (by omega)
  have HK : Hid (KonstP w) := lh hk
  rw [h1, h2, h3]
  generalize l[l.length - 1]'(by omega) = e at *
  have hfe := ep_fits e
  clear h1 h2 h3 hc hk
  obtain ⟨n, hn⟩ : ∃ n, l.length = n + 1 := ⟨l.length - 1, by omega⟩
  rw [hn, Nat.add_sub_cancel] at kr
  rw [hn] at hl ⊢
  clear hn h0
  have HN := lh (fun (W : World) (hx : Ext w W) => ename_any e W HOk.out.1 HOk.out.2.1 (HOk.out.2.2.on hx) (RowAt.ext HK.out hx))
  obtain ⟨D, hD⟩ : ∃ D, epName e = D := ⟨_, rfl⟩
  rw [hD] at HN ⊢
  clear hD
  go_enter Tryz.func81, Tryz.ntmps81
  go_upto_region 4 with (fail)
  refine wp_world (fun W => Ext w W ∧ RowAt W w.heap.size (dgC (zeros32 16)) ∧ RowAt W (w.heap.size + 1) (pdC 0 0) ∧ RowAt W (w.heap.size + 1 + 1) (epC e)) ⟨(by (with_reducible repeat first|exact eR _|apply eD|apply eN|apply eA|apply eO|apply eS|apply eC);all_goals first|omega|simp <;> omega), ?_, ?_, ?_⟩ ?_
  ·exact RowAt.others (((RowAt.new _ _ _).alloc _).alloc _) (by omega) _ _
  ·exact RowAt.others ((RowAt.newAt (by simp)).alloc _) (by omega) _ _
  ·exact RowAt.store (RowAt.newAt (by simp)) rfl
  obtain ⟨B, hB⟩ : ∃ B, w.heap.size = B := ⟨_, rfl⟩
  rw [hB]
  rintro W1 ⟨x1, u0, u1, u2⟩
  have HX1 := lh x1
  have HR0 := lh u0
  have HR1 := lh u1
  have HR2 := lh u2
  have hl2 := u2.lt
  clear x1 u0 u1 u2 kr hb
  refine wp_region_put2 6 (by kernel_rfl) 4 5 (fun i => ([.agg (epC e), .agg (dgC D), .pointer (some ⟨B + 1 + 1, 17, none⟩), .agg (pdC e.lo e.hi), undef, undef] : List Value).getD i undef) B (B + 1) (dgC (zeros32 16)) (dgC D) (pdC 0 0) (pdC e.lo e.hi) (by kernel_rfl) (by kernel_rfl) (by kernel_rfl) (by decide) (by decide) HR0.out HR1.out (by omega) rfl rfl (lt_cons ?_ (lt_cons ?_ (lt_cons ?_ (lt_cons ?_ (lt_cons ?_ (lt_cons ?_ lt_none)))))) ?_ ?_ ?_
  ·intro _ _
   refine sopP rfl fun xs W HW hsW HD Q' HQ => ?_; simp only [fillAt, dstOf, lc0, lcs, obs, Act.put, lsa, lsz, lss, nz, Nat.reduceAdd] at HQ ⊢
   have hc := (HW.out.row HR2.out (by omega)).all (n := 38) rfl (by omega)
   go_wp2
   exact HQ.out _ _ (eR _) rfl
  ·intro _ _
   refine sopP rfl fun xs W HW hsW HD Q' HQ => ?_; simp only [fillAt, dstOf, lc0, lcs, obs, Act.put, lsa, lsz, lss, nz, Nat.reduceAdd] at HQ ⊢
   have hd0 : xs 0 = .agg (epC e) := (HD.out.2 0 (dk (by kernel_rfl)) (by decide) (by decide))
   have HXW := lh (HX1.out.trans (HD.out.1 (dk (by kernel_rfl))))
   generalize xs 0 = x0 at hd0 HQ ⊢; subst hd0
   go_wp2_with (go_at_call 15; refine (HN.out _ HXW.out).mono ?_; rintro r w1 ⟨rfl, hx⟩)
   exact HQ.out _ _ hx rfl
  ·intro _ _
   refine sopP rfl fun xs W HW hsW HD Q' HQ => ?_; simp only [fillAt, dstOf, lc0, lcs, obs, Act.put, lsa, lsz, lss, nz, Nat.reduceAdd] at HQ ⊢
   go_wp2
   exact HQ.out _ _ (eR _) rfl
  ·intro _ _
   refine sopP rfl fun xs W HW hsW HD Q' HQ => ?_; simp only [fillAt, dstOf, lc0, lcs, obs, Act.put, lsa, lsz, lss, nz, Nat.reduceAdd] at HQ ⊢
   have hd0 : xs 2 = .pointer (some ⟨B + 1 + 1, 17, none⟩) := (HD.out.2 2 (dk (by kernel_rfl)) (by decide) (by decide))
   have hc : rowOf W (B + 1 + 1) 17 2 = some (pdC e.lo e.hi) := by rw [(HW.out.row HR2.out (by omega)).row, if_neg (by omega), ep_pd]
   generalize xs 2 = x2 at hd0 HQ ⊢; subst hd0
   go_wp2
   exact HQ.out _ _ (eR _) rfl
  ·exact fun h => absurd rfl h
  ·exact fun _ h => absurd rfl h
  ·refine sopP rfl fun xs W HW hsW HD Q' HQ => ?_; simp only [fillAt, dstOf, lc0, lcs, obs, Act.put, lsa, lsz, lss, nz, Nat.reduceAdd] at HQ ⊢
   have hd0 : xs 1 = .agg (dgC D) := (HD.out.2 1 (dk (by kernel_rfl)) (by decide) (by decide))
   have hrm : roomOf W B 0 16 = true := by rw [HD.out.1.room]; rfl
   generalize xs 1 = x1 at hd0 HQ ⊢; subst hd0
   go_wp2
   exact HQ.out undef
  ·refine sopP rfl fun xs W HW hsW HD Q' HQ => ?_; simp only [fillAt, dstOf, lc0, lcs, obs, Act.put, lsa, lsz, lss, nz, Nat.reduceAdd] at HQ ⊢
   have hd0 : xs 3 = .agg (pdC e.lo e.hi) := (HD.out.2 3 (dk (by kernel_rfl)) (by decide) (by decide))
   have hrm : roomOf W (B + 1) 0 2 = true := by rw [HD.out.1.room]; rfl
   generalize xs 3 = x3 at hd0 HQ ⊢; subst hd0
   go_wp2
   exact HQ.out undef
  ·intro xs W4 hb4 hr4 hr5 hvs
   clear hvs
   have hE : Ext w W4 := ((ButS.of_ext HX1.out).trans hb4).toExt (fun k hk e => by omega)
   simp only [fillAt, dstOf, lc0, lcs, obs, Act.put, lsa, lsz, lss, nz, Nat.reduceAdd]
   go_wp2
   exact post_two Tryz.results81 rfl ⟨_, rfl, run_loadVar_row dig_ty (hr4.all (n := 16) rfl (by omega))⟩ ⟨_, rfl, run_loadVar_row pd_ty (hr5.all (n := 2) rfl (by omega))⟩ ⟨rfl, hE⟩
end
end Go.Proofs.YtpojnhikgjcgmaaGreatDoor

namespace Go.Proofs.YtpojnhikgjcgmaaGreatDoor
open Go.RowKit Go.Shelf Go.Maps
open Go.Proofs
theorem neq_dg2 {a b : List Int} (ha : DgOk a) (hb : DgOk b) (W : World) : (binOp .neq 23 (.agg (dgC a)) (.agg (dgC b))).run Tryz.prog W = .ok (.bool (!(decide (a = b)))) W := by
 have h := run_equalIn_bytes (P := Tryz.prog) W 9998 23 5 16 (by kernel_rfl) (by kernel_rfl) u8_size (u8s a) (u8s b) (by simp [u8s, ha.len]) (by simp [u8s, hb.len])
 rw [u8s_cells ha.byt, u8s_cells hb.byt, u8s_beq ha.byt hb.byt] at h
 rw [dgC_cells ha.len, dgC_cells hb.len, run_neq_struct, h]
 rfl
theorem zeros_ok : DgOk (zeros32 16) := ⟨rfl, fun x hx => by
 have h : x = 0 := by simpa [zeros32] using hx
 subst h
 decide⟩
theorem epr_pd {w : World} {b o : Nat} {z : Ep} (h : rowOf w b o 38 = some (epC z)) : rowOf w b (o + 17) 2 = some (pdC z.lo z.hi) := rowOf_some rfl (fun i hi => by
 rcases i with _ | _ | i
 ·exact (rowOf_cell h (i := 17) (by omega)).trans (ep_g17 z)
 ·exact (rowOf_cell h (i := 18) (by omega)).trans (ep_g18 z)
 ·omega)
theorem lastD_ok (l : List Ep) : DgOk (lastD l) := by
 unfold lastD
 split
 ·exact ⟨epName_len _, epName_byt _⟩
 ·exact zeros_ok
theorem fol_bad {l : List Ep} {e : Ep} (h : okEp e = false) : followsN l e = 3 := by unfold followsN; rw [if_neg (by rw [h]; exact Bool.false_ne_true)]
theorem fol_num {l : List Ep} {e : Ep} (h : okEp e = true) (h2 : ¬ (e.num = (l.length : Int) + 1 ∧ e.prev = lastD l)) : followsN l e = 310 := by unfold followsN; rw [if_pos h, if_neg h2]
theorem fol_time {l : List Ep} {e : Ep} (h : okEp e = true) (h2 : e.num = (l.length : Int) + 1 ∧ e.prev = lastD l) (h3 : e.lo < lastLo l ∨ e.hi < lastHi l) : followsN l e = 9 := by unfold followsN; rw [if_pos h, if_pos h2, if_pos h3]
theorem fol_ok {l : List Ep} {e : Ep} (h : okEp e = true) (h2 : e.num = (l.length : Int) + 1 ∧ e.prev = lastD l) (h3 : ¬ (e.lo < lastLo l ∨ e.hi < lastHi l)) : followsN l e = 0 := by unfold followsN; rw [if_pos h, if_pos h2, if_neg h3]
section
attribute [local go_sem] pd_fits dg_fits pd_size
theorem follows_any (A : Option Addr) (c : Nat) (l : List Ep) (e : Ep) (w : World) (hl : l.length ≤ 100) (hc : ChAt w A l) (hok : EpOk e) (hs : EpShort e) (ha : EpAt w e) (hk : KonstP w) :
  Calls Tryz.prog 38 #[.slice A l.length c, .agg (epC e)] w fun r w' => r = .returned (.int .i64 (followsN l e)) ∧ Ext w w' := by
 have HVl := lh (fun (W : World) (hx : Ext w W) => evalid_any e W (ha.on hx) (by have := hs.pu; omega) (by have := hs.rv; omega) (fun p hp => by have := hs.what p hp; omega))
 have HLa := lh (fun (W : World) (hx : Ext w W) => last_any2 A c l W hl (hc.on hx) (RowAt.ext hk hx))
 have hneq := neq_dg2 hok.prev (lastD_ok l)
 have H1 := lh (fol_bad (l := l) (e := e))
 have H2 := lh (fol_num (l := l) (e := e))
 have H3 := lh (fol_time (l := l) (e := e))
 have H4 := lh (fol_ok (l := l) (e := e))
 have hfe := ep_fits e
 generalize followsN l e = R at *
 generalize lastD l = LD at *
 generalize lastLo l = LL at *
 generalize lastHi l = LH at *
 clear hc hok hs ha hk
 go_enter Tryz.func38, Tryz.ntmps38
 go_upto_region 1 with (fail)
 refine wp_world (fun W => Ext w W ∧ RowAt W w.heap.size (epC e)) ⟨(by (with_reducible repeat first|exact eR _|apply eD|apply eN|apply eA|apply eO|apply eS|apply eC);all_goals first|omega|simp <;> omega), RowAt.new _ _ _⟩ ?_
 obtain ⟨B, hB⟩ : ∃ B, w.heap.size = B := ⟨_, rfl⟩
 rw [hB]
 rintro W1 ⟨x1, u0⟩
 have HX1 := lh x1
 have HR0 := lh u0
 have hl0 := u0.lt
 have k0 : rowOf W1 B 0 38 = some (epC e) := u0.all rfl (by omega)
 clear x1 u0
 cases b1 : okEp e with
 | false =>
  have HR : Hid (R = 3) := lh (H1.out b1)
  rw [b1] at HVl
  clear H1 H2 H3 H4 b1
  go_wp2_with (go_at_call 13; refine (HVl.out _ (by first | exact HX1.out | exact HX1.out.onto _)).mono ?_; rintro e w' ⟨rfl, hxl⟩; obtain ⟨xl, rfl⟩ := hxl.asLater; clear hxl)
  go_ret
  exact ⟨ret_int HR.out.symm, (by (with_reducible repeat first|exact HX1.out|exact eR _|apply eD|apply eN|apply eA|apply eO|apply eS|apply eC);all_goals first|omega|simp <;> omega)⟩
 | true =>
  rw [b1] at HVl
  have H2' := lh (H2.out b1)
  have H3' := lh (H3.out b1)
  have H4' := lh (H4.out b1)
  clear H1 H2 H3 H4 b1
  go_wp2_with (first
   | (go_at_call 13; refine (HVl.out _ (by first | exact HX1.out | exact HX1.out.onto _)).mono ?_; rintro e w' ⟨rfl, hxl⟩; obtain ⟨xl, rfl⟩ := hxl.asLater; clear hxl)
   | (go_at_call 81; refine (show Hid _ from ?_).out))
  refine lh ?_
  refine (HLa.out (later W1 xl) (HX1.out.onto _)).mono ?_
  rintro r w3 ⟨rfl, hx3⟩
  have HX3 := lh ((HX1.out.onto xl).trans hx3)
  have HR03 := lh ((HR0.out.later xl).ext hx3)
  have hs3 := hx3.size
  rw [later_size] at hs3
  clear hx3 k0 HVl HLa HX1
  go_upto_region 4 with (fail)
  refine wp_world (fun W => Ext w W ∧ RowAt W B (epC e) ∧ RowAt W w3.heap.size (dgC LD) ∧ RowAt W (w3.heap.size + 1) (pdC LL LH)) ⟨(by (with_reducible repeat first|exact HX3.out|exact eR _|apply eD|apply eN|apply eA|apply eO|apply eS|apply eC);all_goals first|omega|simp <;> omega), ?_, ?_, ?_⟩ ?_
  ·exact RowAt.others (RowAt.others ((HR03.out.alloc _).alloc _) (by omega) _ _) (by omega) _ _
  ·have z : RowAt ((w3.alloc (.cells (cells8 (zeros32 16)) 23)).alloc (.cells (pdC 0 0) 25)) w3.heap.size (cells8 (zeros32 16)) := (RowAt.new _ _ _).alloc _
   have h : (dgC LD).size = (cells8 (zeros32 16)).size := rfl
   have y := RowAt.store z h
   exact RowAt.others y (by omega) _ _
  ·exact RowAt.store (RowAt.others (RowAt.newAt (by simp)) (by omega) _ _) rfl
  obtain ⟨g, hg⟩ : ∃ g, w3.heap.size = g := ⟨_, rfl⟩
  rw [hg]
  rintro W4 ⟨x4, u0, u1, u2⟩
  have HX4 := lh x4
  have q0 : W4.cell? ⟨B, 0, none⟩ = some (.int .i64 e.num) := (u0.cell 0).trans (ep_g0 e)
  have q17 : W4.cell? ⟨B, 17, none⟩ = some (.int .i64 e.lo) := (u0.cell 17).trans (ep_g17 e)
  have q18 : W4.cell? ⟨B, 18, none⟩ = some (.int .i64 e.hi) := (u0.cell 18).trans (ep_g18 e)
  have k1 : rowOf W4 B 1 16 = some (dgC e.prev) := by rw [u0.row, if_neg (by omega), ep_prev]
  have k2 : rowOf W4 g 0 16 = some (dgC LD) := u1.all rfl (by omega)
  have q3 : W4.cell? ⟨g + 1, 0, none⟩ = some (.int .i64 LL) := u2.cell 0
  have q4 : W4.cell? ⟨g + 1, 1, none⟩ = some (.int .i64 LH) := u2.cell 1
  have hg2 := u2.lt
  clear x4 u0 u1 u2 HX3 HR03 HR0 hg
  by_cases hn : e.num = (l.length : Int) + 1
  ·by_cases hp : e.prev = LD
   ·have hd : decide (e.prev = LD) = true := decide_eq_true hp
    rw [hd] at hneq
    by_cases ht1 : e.lo < LL
    ·have HR : Hid (R = 9) := lh (H3'.out ⟨hn, hp⟩ (.inl ht1))
     have d1 : decide (e.lo < LL) = true := decide_eq_true ht1
     clear H2' H3' H4' hp hd
     go_wp2
     go_ret
     exact ⟨ret_int HR.out.symm, (by (with_reducible repeat first|exact HX4.out|exact eR _|apply eD|apply eN|apply eA|apply eO|apply eS|apply eC);all_goals first|omega|simp <;> omega)⟩
    ·have d1 : decide (e.lo < LL) = false := decide_eq_false ht1
     by_cases ht2 : e.hi < LH
     ·have HR : Hid (R = 9) := lh (H3'.out ⟨hn, hp⟩ (.inr ht2))
      have d2 : decide (e.hi < LH) = true := decide_eq_true ht2
      clear H2' H3' H4' hp hd
      go_wp2
      go_ret
      exact ⟨ret_int HR.out.symm, (by (with_reducible repeat first|exact HX4.out|exact eR _|apply eD|apply eN|apply eA|apply eO|apply eS|apply eC);all_goals first|omega|simp <;> omega)⟩
     ·have HR : Hid (R = 0) := lh (H4'.out ⟨hn, hp⟩ (fun h => h.elim ht1 ht2))
      have d2 : decide (e.hi < LH) = false := decide_eq_false ht2
      clear H2' H3' H4' hp hd
      go_wp2
      go_ret
      exact ⟨ret_int HR.out.symm, (by (with_reducible repeat first|exact HX4.out|exact eR _|apply eD|apply eN|apply eA|apply eO|apply eS|apply eC);all_goals first|omega|simp <;> omega)⟩
   ·have hd : decide (e.prev = LD) = false := decide_eq_false hp
    rw [hd] at hneq
    have HR : Hid (R = 310) := lh (H2'.out (fun h => hp h.2))
    clear H2' H3' H4' hp hd
    go_wp2
    go_ret
    exact ⟨ret_int HR.out.symm, (by (with_reducible repeat first|exact HX4.out|exact eR _|apply eD|apply eN|apply eA|apply eO|apply eS|apply eC);all_goals first|omega|simp <;> omega)⟩
  ·have HR : Hid (R = 310) := lh (H2'.out (fun h => hn h.1))
   have dn : (e.num == (l.length : Int) + 1) = false := by simpa using hn
   clear H2' H3' H4'
   go_wp2
   go_ret
   exact ⟨ret_int HR.out.symm, (by (with_reducible repeat first|exact HX4.out|exact eR _|apply eD|apply eN|apply eA|apply eO|apply eS|apply eC);all_goals first|omega|simp <;> omega)⟩
theorem rfollows_any (A : Option Addr) (c : Nat) (l : List Ep) (e : Ep) (w : World) (hl : l.length ≤ 100) (hc : ChAt w A l) (hok : EpOk e) (hs : EpShort e) (ha : EpAt w e) (hk : RKonst w) :
  Calls Tryz.prog 39 #[.slice A l.length c, .agg (epC e)] w fun r w' => r = .returned (.int .i64 (followsN l e)) ∧ Ext w w' := by
 have HVl := lh (fun (W : World) (hx : Ext w W) => revalid_any e W (ha.on hx) (by have := hs.pu; omega) (by have := hs.rv; omega) (fun p hp => by have := hs.what p hp; omega))
 have hneq := neq_dg2 hok.prev (lastD_ok l)
 have H1 := lh (fol_bad (l := l) (e := e))
 have H2 := lh (fol_num (l := l) (e := e))
 have H3 := lh (fol_time (l := l) (e := e))
 have H4 := lh (fol_ok (l := l) (e := e))
 have hfe := ep_fits e
 generalize followsN l e = R at *
 cases b1 : okEp e with
 | false =>
  have HR : Hid (R = 3) := lh (H1.out b1)
  rw [b1] at HVl
  clear H1 H2 H3 H4 b1 hc hok hs ha hk
  go_enter Tryz.func39, Tryz.ntmps39
  go_upto_region 1 with (fail)
  refine wp_world (fun W => Ext w W ∧ RowAt W w.heap.size (epC e)) ⟨(by (with_reducible repeat first|exact eR _|apply eD|apply eN|apply eA|apply eO|apply eS|apply eC);all_goals first|omega|simp <;> omega), RowAt.new _ _ _⟩ ?_
  generalize w.heap.size = B
  rintro W1 ⟨x1, u0⟩
  have HX1 := lh x1
  have hl0 := u0.lt
  have k0 : rowOf W1 B 0 38 = some (epC e) := u0.all rfl (by omega)
  clear x1 u0
  go_wp2_with (go_at_call 14; refine (HVl.out _ (by first | exact HX1.out | exact HX1.out.onto _)).mono ?_; rintro e w' ⟨rfl, hxl⟩; obtain ⟨xl, rfl⟩ := hxl.asLater; clear hxl)
  go_ret
  exact ⟨ret_int HR.out.symm, (by (with_reducible repeat first|exact HX1.out|exact eR _|apply eD|apply eN|apply eA|apply eO|apply eS|apply eC);all_goals first|omega|simp <;> omega)⟩
 | true =>
  rw [b1] at HVl
  have H2' := lh (H2.out b1)
  have H3' := lh (H3.out b1)
  have H4' := lh (H4.out b1)
  clear H1 H2 H3 H4 b1 hok hs ha
  by_cases h0 : l.length = 0
  ·have e0 := List.eq_nil_of_length_eq_zero h0
   subst e0
   obtain ⟨e1, e2, e3⟩ := last_nil
   rw [e1] at hneq H2' H3' H4'
   obtain ⟨LL, hLL⟩ : ∃ LL, lastLo [] = LL := ⟨_, rfl⟩
   obtain ⟨LH, hLH⟩ : ∃ LH, lastHi [] = LH := ⟨_, rfl⟩
   have hpz : pdC 0 0 = pdC LL LH := by rw [← hLL, ← hLH, e2, e3]
   have HPz := lh hpz
   rw [hLL, hLH] at H3' H4'
   clear e1 e2 e3 h0 hc hk hLL hLH hpz
   go_enter Tryz.func39, Tryz.ntmps39
   go_upto_region 1 with (fail)
   refine wp_world (fun W => Ext w W ∧ RowAt W w.heap.size (epC e)) ⟨(by (with_reducible repeat first|exact eR _|apply eD|apply eN|apply eA|apply eO|apply eS|apply eC);all_goals first|omega|simp <;> omega), RowAt.new _ _ _⟩ ?_
   obtain ⟨B, hB⟩ : ∃ B, w.heap.size = B := ⟨_, rfl⟩
   rw [hB]
   rintro W1 ⟨x1, u0⟩
   have HX1 := lh x1
   have HR0 := lh u0
   have hl0 := u0.lt
   have k0 : rowOf W1 B 0 38 = some (epC e) := u0.all rfl (by omega)
   clear x1 u0
   go_upto_region 9 with (go_at_call 14; refine (HVl.out _ (by first | exact HX1.out | exact HX1.out.onto _)).mono ?_; rintro e w' ⟨rfl, hxl⟩; obtain ⟨xl, rfl⟩ := hxl.asLater; clear hxl)
   obtain ⟨g, hg⟩ : ∃ g, W1.heap.size + xl.n = g := ⟨_, rfl⟩
   have hgB : B < g := by omega
   refine wp_world (fun W => Ext w W ∧ RowAt W B (epC e) ∧ RowAt W g (dgC (zeros32 16)) ∧ RowAt W (g + 1) (pdC LL LH)) ⟨(by (with_reducible repeat first|exact HX1.out|exact eR _|apply eD|apply eN|apply eA|apply eO|apply eS|apply eC);all_goals first|omega|simp <;> omega), ((HR0.out.later xl).alloc _).alloc _, ?_, ?_⟩ ?_
   ·have z : RowAt ((later W1 xl).alloc (.cells (cells8 (zeros32 16)) 23)) g (cells8 (zeros32 16)) := RowAt.newAt (by rw [later_size, hg])
    rw [dgC_cells (show (zeros32 16).length = 16 from rfl)]
    exact z.alloc _
   ·rw [← HPz.out]
    exact RowAt.newAt (by simp [later_size, hg])
   rw [hg]
   rintro W4 ⟨x4, u0, u1, u2⟩
   have hlz : (([] : List Ep).length : Int) = 0 := rfl
   generalize zeros32 16 = LD at *
   have HX4 := lh x4
   have q0 : W4.cell? ⟨B, 0, none⟩ = some (.int .i64 e.num) := (u0.cell 0).trans (ep_g0 e)
   have q17 : W4.cell? ⟨B, 17, none⟩ = some (.int .i64 e.lo) := (u0.cell 17).trans (ep_g17 e)
   have q18 : W4.cell? ⟨B, 18, none⟩ = some (.int .i64 e.hi) := (u0.cell 18).trans (ep_g18 e)
   have k1 : rowOf W4 B 1 16 = some (dgC e.prev) := by rw [u0.row, if_neg (by omega), ep_prev]
   have k2 : rowOf W4 g 0 16 = some (dgC LD) := u1.all rfl (by omega)
   have q3 : W4.cell? ⟨g + 1, 0, none⟩ = some (.int .i64 LL) := u2.cell 0
   have q4 : W4.cell? ⟨g + 1, 1, none⟩ = some (.int .i64 LH) := u2.cell 1
   have hg2 := u2.lt
   clear x4 u0 u1 u2
   by_cases hn0 : e.num = (([] : List Ep).length : Int) + 1
   ·have hn : e.num = 1 := by simpa using hn0
    by_cases hp : e.prev = LD
    ·have hd : decide (e.prev = LD) = true := decide_eq_true hp
     rw [hd] at hneq
     by_cases ht1 : e.lo < LL
     ·have HR : Hid (R = 9) := lh (H3'.out ⟨hn0, hp⟩ (.inl ht1))
      have d1 : decide (e.lo < LL) = true := decide_eq_true ht1
      clear H2' H3' H4' hp hd hn0
      go_wp2
      go_ret
      exact ⟨ret_int HR.out.symm, (by (with_reducible repeat first|exact HX4.out|exact eR _|apply eD|apply eN|apply eA|apply eO|apply eS|apply eC);all_goals first|omega|simp <;> omega)⟩
     ·have d1 : decide (e.lo < LL) = false := decide_eq_false ht1
      by_cases ht2 : e.hi < LH
      ·have HR : Hid (R = 9) := lh (H3'.out ⟨hn0, hp⟩ (.inr ht2))
       have d2 : decide (e.hi < LH) = true := decide_eq_true ht2
       clear H2' H3' H4' hp hd hn0
       go_wp2
       go_ret
       exact ⟨ret_int HR.out.symm, (by (with_reducible repeat first|exact HX4.out|exact eR _|apply eD|apply eN|apply eA|apply eO|apply eS|apply eC);all_goals first|omega|simp <;> omega)⟩
      ·have HR : Hid (R = 0) := lh (H4'.out ⟨hn0, hp⟩ (fun h => h.elim ht1 ht2))
       have d2 : decide (e.hi < LH) = false := decide_eq_false ht2
       clear H2' H3' H4' hp hd hn0
       go_wp2
       go_ret
       exact ⟨ret_int HR.out.symm, (by (with_reducible repeat first|exact HX4.out|exact eR _|apply eD|apply eN|apply eA|apply eO|apply eS|apply eC);all_goals first|omega|simp <;> omega)⟩
    ·have hd : decide (e.prev = LD) = false := decide_eq_false hp
     rw [hd] at hneq
     have HR : Hid (R = 310) := lh (H2'.out (fun h => hp h.2))
     clear H2' H3' H4' hp hd hn0
     go_wp2
     go_ret
     exact ⟨ret_int HR.out.symm, (by (with_reducible repeat first|exact HX4.out|exact eR _|apply eD|apply eN|apply eA|apply eO|apply eS|apply eC);all_goals first|omega|simp <;> omega)⟩
   ·have HR : Hid (R = 310) := lh (H2'.out (fun h => hn0 h.1))
    have hn : ¬ e.num = 1 := by simpa using hn0
    clear H2' H3' H4' hn0
    go_wp2
    go_ret
    exact ⟨ret_int HR.out.symm, (by (with_reducible repeat first|exact HX4.out|exact eR _|apply eD|apply eN|apply eA|apply eO|apply eS|apply eC);all_goals first|omega|simp <;> omega)⟩
  ·obtain ⟨h1, h2, h3⟩ := last_some (l := l) (by omega)
   have HOk := lh (hc.ok _ (List.getElem_mem (by omega : l.length - 1 < l.length)))
   obtain ⟨b, off, rfl, hb, kr⟩ := epr_at hc.rd (l.length - 1) (by omega)
   have HK : Hid (RKonst w) := lh hk
   rw [h1] at hneq H2' H3' H4'
   rw [h2, h3] at H3' H4'
   generalize l[l.length - 1]'(by omega) = z at *
   have hfz := ep_fits z
   clear h1 h2 h3 hc hk
   obtain ⟨n, hn⟩ : ∃ n, l.length = n + 1 := ⟨l.length - 1, by omega⟩
   rw [hn, Nat.add_sub_cancel] at kr
   rw [hn] at hl H2' H3' H4' ⊢
   clear hn h0
   have HN := lh (fun (W : World) (hx : Ext w W) => rename_any z W HOk.out.1 HOk.out.2.1 (HOk.out.2.2.on hx) (RowAt.ext HK.out hx))
   generalize epName z = LD at *
   have HKR := lh kr
   clear kr
   go_enter Tryz.func39, Tryz.ntmps39
   go_upto_region 1 with (fail)
   refine wp_world (fun W => Ext w W ∧ RowAt W w.heap.size (epC e)) ⟨(by (with_reducible repeat first|exact eR _|apply eD|apply eN|apply eA|apply eO|apply eS|apply eC);all_goals first|omega|simp <;> omega), RowAt.new _ _ _⟩ ?_
   obtain ⟨B, hB⟩ : ∃ B, w.heap.size = B := ⟨_, rfl⟩
   rw [hB]
   rintro W1 ⟨x1, u0⟩
   have HX1 := lh x1
   have HR0 := lh u0
   have hl0 := u0.lt
   have k0 : rowOf W1 B 0 38 = some (epC e) := u0.all rfl (by omega)
   clear x1 u0
   go_upto_region 7 with (go_at_call 14; refine (HVl.out _ (by first | exact HX1.out | exact HX1.out.onto _)).mono ?_; rintro e w' ⟨rfl, hxl⟩; obtain ⟨xl, rfl⟩ := hxl.asLater; clear hxl)
   obtain ⟨g, hg⟩ : ∃ g, W1.heap.size + xl.n = g := ⟨_, rfl⟩
   have hgB : B < g := by omega
   refine wp_world (fun W => Ext w W ∧ RowAt W B (epC e) ∧ RowAt W g (cells8 (zeros32 16)) ∧ RowAt W (g + 1) (pdC 0 0)) ⟨(by (with_reducible repeat first|exact HX1.out|exact eR _|apply eD|apply eN|apply eA|apply eO|apply eS|apply eC);all_goals first|omega|simp <;> omega), ((HR0.out.later xl).alloc _).alloc _, ?_, RowAt.newAt (by simp [later_size, hg])⟩ ?_
   ·have z : RowAt ((later W1 xl).alloc (.cells (cells8 (zeros32 16)) 23)) g (cells8 (zeros32 16)) := RowAt.newAt (by rw [later_size, hg])
    exact z.alloc _
   rw [hg]
   rintro W4 ⟨x4, u0, u1, u2⟩
   have HX4 := lh x4
   have HR04 := lh u0
   have HR14 := lh u1
   have HR24 := lh u2
   have hl24 := u2.lt
   have hs4 := x4.size
   have kz : rowOf W4 b (off + n * 38) 38 = some (epC z) := (rowOf_congr (fun i _ => x4.cell (p := ⟨b, off + n * 38 + i, none⟩) hb)).trans HKR.out
   have hb4 : b < W4.heap.size := by omega
   clear x4 u0 u1 u2 HX1 HR0 k0 HVl hg
   go_wp2_with (go_at_call 16; refine (show Hid _ from ?_).out)
   refine lh ?_
   refine (HN.out W4 HX4.out).mono ?_
   rintro e w' ⟨rfl, hxl⟩; obtain ⟨xl, rfl⟩ := hxl.asLater; clear hxl
   have m0 : roomOf (later W4 xl) g 0 16 = true := by rw [(HR14.out.later xl).room]; simp [cells8, zeros32]
   go_upto_region 8 with (fail)
   refine wp_world (fun W => Ext w W ∧ RowAt W B (epC e) ∧ RowAt W g (dgC LD) ∧ RowAt W (g + 1) (pdC 0 0) ∧ rowOf W b (off + n * 38) 38 = some (epC z)) ⟨(by (with_reducible repeat first|exact HX4.out|exact eR _|apply eD|apply eN|apply eA|apply eO|apply eS|apply eC);all_goals first|omega|simp <;> omega), RowAt.others (HR04.out.later _) (by omega) _ _, ?_, RowAt.others (HR24.out.later _) (by omega) _ _, ?_⟩ ?_
   ·have h : (dgC LD).size = (cells8 (zeros32 16)).size := rfl
    exact RowAt.store (HR14.out.later xl) h
   ·refine (rowOf_congr (fun i _ => ?_)).trans kz
    exact (Below.cell (Ext.setCells (a := w) (HX4.out.onto xl) (by omega) _ _) hb).trans (HX4.out.cell (p := ⟨b, off + n * 38 + i, none⟩) hb).symm
   rintro W5 ⟨x5, u0, u1, u2, kz5⟩
   have HX5 := lh x5
   have kp := epr_pd kz5
   have hs5 := x5.size
   have hl5 := u2.lt
   have hb5 : b < W5.heap.size := by omega
   have m1 : roomOf W5 (g + 1) 0 2 = true := by rw [u2.room]; rfl
   have HR05 := lh u0
   have HR15 := lh u1
   have HR25 := lh u2
   generalize z.lo = LL at *
   generalize z.hi = LH at *
   clear x5 u0 u1 u2 kz5 kz HX4 HR04 HR14 HR24 HN HKR HOk m0
   go_upto_region 9 with (fail)
   refine wp_world (fun W => Ext w W ∧ RowAt W B (epC e) ∧ RowAt W g (dgC LD) ∧ RowAt W (g + 1) (pdC LL LH)) ⟨(by (with_reducible repeat first|exact HX5.out|exact eR _|apply eD|apply eN|apply eA|apply eO|apply eS|apply eC);all_goals first|omega|simp <;> omega), RowAt.others HR05.out (by omega) _ _, RowAt.others HR15.out (by omega) _ _, RowAt.store HR25.out rfl⟩ ?_
   rintro W4 ⟨x4, u0, u1, u2⟩
   clear kp m1
   have HX4 := lh x4
   have q0 : W4.cell? ⟨B, 0, none⟩ = some (.int .i64 e.num) := (u0.cell 0).trans (ep_g0 e)
   have q17 : W4.cell? ⟨B, 17, none⟩ = some (.int .i64 e.lo) := (u0.cell 17).trans (ep_g17 e)
   have q18 : W4.cell? ⟨B, 18, none⟩ = some (.int .i64 e.hi) := (u0.cell 18).trans (ep_g18 e)
   have k1 : rowOf W4 B 1 16 = some (dgC e.prev) := by rw [u0.row, if_neg (by omega), ep_prev]
   have k2 : rowOf W4 g 0 16 = some (dgC LD) := u1.all rfl (by omega)
   have q3 : W4.cell? ⟨g + 1, 0, none⟩ = some (.int .i64 LL) := u2.cell 0
   have q4 : W4.cell? ⟨g + 1, 1, none⟩ = some (.int .i64 LH) := u2.cell 1
   have hg2 := u2.lt
   clear x4 u0 u1 u2
   by_cases hn0 : e.num = ((n + 1 : Nat) : Int) + 1
   ·have hn : e.num = (n : Int) + 1 + 1 := by simpa using hn0
    by_cases hp : e.prev = LD
    ·have hd : decide (e.prev = LD) = true := decide_eq_true hp
     rw [hd] at hneq
     by_cases ht1 : e.lo < LL
     ·have HR : Hid (R = 9) := lh (H3'.out ⟨hn0, hp⟩ (.inl ht1))
      have d1 : decide (e.lo < LL) = true := decide_eq_true ht1
      clear H2' H3' H4' hp hd hn0
      go_wp2
      go_ret
      exact ⟨ret_int HR.out.symm, (by (with_reducible repeat first|exact HX4.out|exact eR _|apply eD|apply eN|apply eA|apply eO|apply eS|apply eC);all_goals first|omega|simp <;> omega)⟩
     ·have d1 : decide (e.lo < LL) = false := decide_eq_false ht1
      by_cases ht2 : e.hi < LH
      ·have HR : Hid (R = 9) := lh (H3'.out ⟨hn0, hp⟩ (.inr ht2))
       have d2 : decide (e.hi < LH) = true := decide_eq_true ht2
       clear H2' H3' H4' hp hd hn0
       go_wp2
       go_ret
       exact ⟨ret_int HR.out.symm, (by (with_reducible repeat first|exact HX4.out|exact eR _|apply eD|apply eN|apply eA|apply eO|apply eS|apply eC);all_goals first|omega|simp <;> omega)⟩
      ·have HR : Hid (R = 0) := lh (H4'.out ⟨hn0, hp⟩ (fun h => h.elim ht1 ht2))
       have d2 : decide (e.hi < LH) = false := decide_eq_false ht2
       clear H2' H3' H4' hp hd hn0
       go_wp2
       go_ret
       exact ⟨ret_int HR.out.symm, (by (with_reducible repeat first|exact HX4.out|exact eR _|apply eD|apply eN|apply eA|apply eO|apply eS|apply eC);all_goals first|omega|simp <;> omega)⟩
    ·have hd : decide (e.prev = LD) = false := decide_eq_false hp
     rw [hd] at hneq
     have HR : Hid (R = 310) := lh (H2'.out (fun h => hp h.2))
     clear H2' H3' H4' hp hd hn0
     go_wp2
     go_ret
     exact ⟨ret_int HR.out.symm, (by (with_reducible repeat first|exact HX4.out|exact eR _|apply eD|apply eN|apply eA|apply eO|apply eS|apply eC);all_goals first|omega|simp <;> omega)⟩
   ·have HR : Hid (R = 310) := lh (H2'.out (fun h => hn0 h.1))
    have hn : ¬ e.num = (n : Int) + 1 + 1 := by simpa using hn0
    clear H2' H3' H4' hn0
    go_wp2
    go_ret
    exact ⟨ret_int HR.out.symm, (by (with_reducible repeat first|exact HX4.out|exact eR _|apply eD|apply eN|apply eA|apply eO|apply eS|apply eC);all_goals first|omega|simp <;> omega)⟩
end
end Go.Proofs.YtpojnhikgjcgmaaGreatDoor

namespace Go.Proofs.YtpojnhikgjcgmaaGreatDoor
open Go.RowKit Go.Shelf Go.Maps
open Go.Proofs
theorem puT : ElemTy Tryz.prog 26 39 3 32 := ⟨by kernel_rfl, by kernel_rfl, by omega⟩
theorem dgT : ElemTy Tryz.prog 27 23 16 16 := ⟨by kernel_rfl, by kernel_rfl, by omega⟩
theorem epT : ElemTy Tryz.prog 45 30 38 112 := ⟨by kernel_rfl, by kernel_rfl, by omega⟩
theorem clonePu_any (A : Option Addr) (c : Nat) (ls : List Pu) (w : World) (hl : ls.length ≤ 100000) (hr : Reads 3 puL w w.heap.size A ls) (hz : A = none → c = 0) :
  Calls Tryz.prog 133 #[.slice A ls.length c] w fun r w' => (∃ A' c', r = .returned (.slice A' ls.length c') ∧ Owns 39 3 puL w.heap.size w' A' c' ls) ∧ Ext w w' := by
 cases A with
 | none =>
  have h0 : ls = [] := by
   rcases Nat.eq_zero_or_pos ls.length with q | q
   ·exact List.eq_nil_of_length_eq_zero q
   ·obtain ⟨b, off, k, _⟩ := hr q
    cases k
  have hc := hz rfl
  subst h0 hc
  have hnn : ∀ W, (binOp .eql 26 (.slice none 0 0) (.slice none 0 0)).run Tryz.prog W = .ok (.bool true) W := fun W => by kernel_rfl
  go_enter Tryz.func133, Tryz.ntmps133
  go_wp2
  refine bodyPost_ret (v := .slice none 0 0) ?_ rfl ⟨⟨none, 0, rfl, Owns.nil _ _ _ _ _⟩, (by (with_reducible repeat first|exact eR _|apply eD|apply eN|apply eA|apply eO|apply eS|apply eC);all_goals first|omega|simp <;> omega)⟩
  simp [results, Tryz.results133, go_sem, ↓IntWalk.iteOmega]
 | some a =>
  have HR := lh hr
  have hns : ∀ (n : Nat) W, (binOp .eql 26 (.slice (some a) n c) (.slice none 0 0)).run Tryz.prog W = .ok (.bool false) W := fun n W => by kernel_rfl
  clear hr hz
  go_enter Tryz.func133, Tryz.ntmps133
  go_wp2_with (at_builtin; refine (show Hid _ from ?_).out)
  refine lh ?_
  refine app_reads puT puE rfl _ _ rfl w.heap.size _ _ [] rfl (owns_fresh puE [] w _ _ _ rfl (Nat.le_refl _) rfl (by simp)) (w.heap.size + 1) _ _ ls rfl ((HR.out.on ((Ext.refl w).alloc _)).up (by simp)) (fun h => (by cases h)) (by simp; omega) (by simp; omega) (by simp) ?_
  intro A2 c2 l2 w2 HL2 hO9 hB9 hl1 hl2 _
  have e2 : l2 = ls := by rw [HL2.out]; rfl
  subst e2
  have HO := lh hO9
  have HB : Hid (Ext w w2) := lh (Ext.grown ((Ext.refl w).alloc _) hB9 (Nat.le_refl _))
  clear hO9 hB9 hl1 hl2 HL2
  go_wp2
  refine bodyPost_ret (v := .slice A2 l2.length c2) ?_ rfl ⟨⟨A2, c2, rfl, HO.out⟩, HB.out⟩
  simp [results, Tryz.results133, go_sem, ↓IntWalk.iteOmega]
theorem cloneDg_any (A : Option Addr) (c : Nat) (ls : List (List Int)) (w : World) (hl : ls.length ≤ 100000) (hr : Reads 16 dgL w w.heap.size A ls) (hz : A = none → c = 0) :
  Calls Tryz.prog 134 #[.slice A ls.length c] w fun r w' => (∃ A' c', r = .returned (.slice A' ls.length c') ∧ Owns 23 16 dgL w.heap.size w' A' c' ls) ∧ Ext w w' := by
 cases A with
 | none =>
  have h0 : ls = [] := by
   rcases Nat.eq_zero_or_pos ls.length with q | q
   ·exact List.eq_nil_of_length_eq_zero q
   ·obtain ⟨b, off, k, _⟩ := hr q
    cases k
  have hc := hz rfl
  subst h0 hc
  have hnn : ∀ W, (binOp .eql 27 (.slice none 0 0) (.slice none 0 0)).run Tryz.prog W = .ok (.bool true) W := fun W => by kernel_rfl
  go_enter Tryz.func134, Tryz.ntmps134
  go_wp2
  refine bodyPost_ret (v := .slice none 0 0) ?_ rfl ⟨⟨none, 0, rfl, Owns.nil _ _ _ _ _⟩, (by (with_reducible repeat first|exact eR _|apply eD|apply eN|apply eA|apply eO|apply eS|apply eC);all_goals first|omega|simp <;> omega)⟩
  simp [results, Tryz.results134, go_sem, ↓IntWalk.iteOmega]
 | some a =>
  have HR := lh hr
  have hns : ∀ (n : Nat) W, (binOp .eql 27 (.slice (some a) n c) (.slice none 0 0)).run Tryz.prog W = .ok (.bool false) W := fun n W => by kernel_rfl
  clear hr hz
  go_enter Tryz.func134, Tryz.ntmps134
  go_wp2_with (at_builtin; refine (show Hid _ from ?_).out)
  refine lh ?_
  refine app_reads dgT dgE rfl _ _ rfl w.heap.size _ _ [] rfl (owns_fresh dgE [] w _ _ _ rfl (Nat.le_refl _) rfl (by simp)) (w.heap.size + 1) _ _ ls rfl ((HR.out.on ((Ext.refl w).alloc _)).up (by simp)) (fun h => (by cases h)) (by simp; omega) (by simp; omega) (by simp) ?_
  intro A2 c2 l2 w2 HL2 hO9 hB9 hl1 hl2 _
  have e2 : l2 = ls := by rw [HL2.out]; rfl
  subst e2
  have HO := lh hO9
  have HB : Hid (Ext w w2) := lh (Ext.grown ((Ext.refl w).alloc _) hB9 (Nat.le_refl _))
  clear hO9 hB9 hl1 hl2 HL2
  go_wp2
  refine bodyPost_ret (v := .slice A2 l2.length c2) ?_ rfl ⟨⟨A2, c2, rfl, HO.out⟩, HB.out⟩
  simp [results, Tryz.results134, go_sem, ↓IntWalk.iteOmega]
theorem cloneEp_any (A : Option Addr) (c : Nat) (ls : List Ep) (w : World) (hl : ls.length ≤ 100000) (hr : Reads 38 epL w w.heap.size A ls) (hz : A = none → c = 0) :
  Calls Tryz.prog 79 #[.slice A ls.length c] w fun r w' => (∃ A' c', r = .returned (.slice A' ls.length c') ∧ Owns 30 38 epL w.heap.size w' A' c' ls) ∧ Ext w w' := by
 cases A with
 | none =>
  have h0 : ls = [] := by
   rcases Nat.eq_zero_or_pos ls.length with q | q
   ·exact List.eq_nil_of_length_eq_zero q
   ·obtain ⟨b, off, k, _⟩ := hr q
    cases k
  have hc := hz rfl
  subst h0 hc
  have hnn : ∀ W, (binOp .eql 45 (.slice none 0 0) (.slice none 0 0)).run Tryz.prog W = .ok (.bool true) W := fun W => by kernel_rfl
  go_enter Tryz.func79, Tryz.ntmps79
  go_wp2
  refine bodyPost_ret (v := .slice none 0 0) ?_ rfl ⟨⟨none, 0, rfl, Owns.nil _ _ _ _ _⟩, (by (with_reducible repeat first|exact eR _|apply eD|apply eN|apply eA|apply eO|apply eS|apply eC);all_goals first|omega|simp <;> omega)⟩
  simp [results, Tryz.results79, go_sem, ↓IntWalk.iteOmega]
 | some a =>
  have HR := lh hr
  have hns : ∀ (n : Nat) W, (binOp .eql 45 (.slice (some a) n c) (.slice none 0 0)).run Tryz.prog W = .ok (.bool false) W := fun n W => by kernel_rfl
  clear hr hz
  go_enter Tryz.func79, Tryz.ntmps79
  go_wp2_with (at_builtin; refine (show Hid _ from ?_).out)
  refine lh ?_
  refine app_reads epT epE rfl _ _ rfl w.heap.size _ _ [] rfl (owns_fresh epE [] w _ _ _ rfl (Nat.le_refl _) rfl (by simp)) (w.heap.size + 1) _ _ ls rfl ((HR.out.on ((Ext.refl w).alloc _)).up (by simp)) (fun h => (by cases h)) (by simp; omega) (by simp; omega) (by simp) ?_
  intro A2 c2 l2 w2 HL2 hO9 hB9 hl1 hl2 _
  have e2 : l2 = ls := by rw [HL2.out]; rfl
  subst e2
  have HO := lh hO9
  have HB : Hid (Ext w w2) := lh (Ext.grown ((Ext.refl w).alloc _) hB9 (Nat.le_refl _))
  clear hO9 hB9 hl1 hl2 HL2
  go_wp2
  refine bodyPost_ret (v := .slice A2 l2.length c2) ?_ rfl ⟨⟨A2, c2, rfl, HO.out⟩, HB.out⟩
  simp [results, Tryz.results79, go_sem, ↓IntWalk.iteOmega]
theorem ep_lens {k : Ky} {e : Ep} (hs : k.secret.size ≤ 64) (hok : EpOk e) (h : EpShort e) : lens ([k.secret] ++ epParts e ++ [k.secret]) < 8796093022208 := by
 have := epParts_lens hok h
 rw [lens_append, lens_append, lens_one]
 omega
def serEp (k : Ky) (e : Ep) : Ep := { e with serial := k.serial }
theorem serEp_ok {k : Ky} {e : Ep} (h : EpOk e) (hk : i64 k.serial) : EpOk (serEp k e) := ⟨h.prev, h.sl, h.rv, fun x hx => by
 simp only [serEp, List.mem_cons, List.not_mem_nil, or_false] at hx
 rcases hx with rfl | rfl | rfl | rfl
 ·exact h.ints _ (by simp)
 ·exact h.ints _ (by simp)
 ·exact h.ints _ (by simp)
 ·exact hk, h.pu, h.pul, h.rvl, h.pcap, h.rcap, h.pz, h.rz⟩
theorem sealEp_ok {k : Ky} {e : Ep} (h : EpOk e) (hk : i64 k.serial) : EpOk (sealEp k e) := by
 have h1 := serEp_ok h hk
 exact ⟨h1.prev, ⟨makeN_len _ _ _, makeN_byt _ _ _⟩, h1.rv, h1.ints, h1.pu, h1.pul, h1.rvl, h1.pcap, h1.rcap, h1.pz, h1.rz⟩
theorem serEp_short {k : Ky} {e : Ep} (h : EpShort e) : EpShort (serEp k e) := ⟨h.pu, h.rv, h.what⟩
theorem ep_set21 (s : Ep) (n : Int) : (epC s).setIfInBounds 21 (.int .i64 n) = epC { s with serial := n } := by kernel_rfl
theorem ep_seal_set (s : Ep) (D : List Int) : laidOver (epC s) 22 (dgC D).toList = epC { s with sl := D } := by kernel_rfl
theorem ep_sl (e : Ep) : rowSub (epC e) 22 16 = some (dgC e.sl) := by kernel_rfl
def memE (e : Ep) (A : Option Addr) (c : Nat) (A2 : Option Addr) (c2 : Nat) : Ep := { e with PA := A, pc := c, RA := A2, rc := c2 }
theorem ep_mem_set (e : Ep) (A : Option Addr) (c : Nat) (A2 : Option Addr) (c2 : Nat) : ((epC e).setIfInBounds 19 (.slice A e.pu.length c)).setIfInBounds 20 (.slice A2 e.rv.length c2) = epC (memE e A c A2 c2) := by kernel_rfl
def readZ (ls : List ByteArray) : Soft := ⟨fun v w => ∃ A c, v = .slice A ls.length c ∧ ReadsStr w w.heap.size A ls ∧ (A = none → c = 0), fun v w w' ⟨A, c, h1, h2, h3⟩ hx => ⟨A, c, h1, h2.on hx, h3⟩⟩
theorem owns_z {base : Nat} {w : World} {A : Option Addr} {c : Nat} {l : List ByteArray} (h : OwnsStr base w A c l) : A = none → c = 0 := by
 rcases Owns.cases h with ⟨_, h2, _⟩ | ⟨g, cur, rfl, _⟩
 ·exact fun _ => h2
 ·exact fun k => by cases k
theorem readZ_of {base : Nat} {w : World} {A : Option Addr} {c : Nat} {l L : List ByteArray} (h : OwnsStr base w A c l) (e : l = L) : (readZ L).S (.slice A l.length c) w := by
 subst e
 exact ⟨A, c, rfl, h.reads sE, owns_z h⟩
theorem ssealedE_any (k : Ky) (e : Ep) (w : World) (hs : k.secret.size ≤ 64) (hok : EpOk e) (hsh : EpShort e) (ha : EpAt w e) (hk : KonstP w) :
  Calls Tryz.prog 135 #[.agg (kyC k), .int .i64 42, .agg (epC e), .func (.func 60) #[] #[]] w fun r w' => r = .returned (.agg (dgC (makeN k 42 (epParts e)))) ∧ Ext w w' := by
 have HI := lh (fun (W : World) (hx : Ext w W) => eparts_any e W hok hsh (ha.on hx))
 have hl := ep_lens (k := k) hs hok hsh
 have HM := lh (fun (A : Option Addr) (c : Nat) (W : World) (h1 : ReadsStr W W.heap.size A (epParts e)) (h2 : A = none → c = 0) (h3 : KonstP W) => smake_any k 42 A c (epParts e) W h1 h2 hl h3)
 have HK : Hid (KonstP w) := lh hk
 have hfe := ep_fits e
 obtain ⟨D, hD⟩ : ∃ D, makeN k 42 (epParts e) = D := ⟨_, rfl⟩
 have hfit : fitsRow 16 (dgC D) = true := by simp [fitsRow, dgC, Value.oneCell']
 rw [hD] at HM ⊢
 unfold EPOut at HI
 generalize epParts e = L at *
 clear hok hsh hl ha hk hD
 go_enter Tryz.func135, Tryz.ntmps135
 go_upto_region 1 with (fail)
 refine wp_world (fun W => Ext w W ∧ RowAt W w.heap.size (kyC k) ∧ RowAt W (w.heap.size + 1) (epC e) ∧ RowAt W (w.heap.size + 1 + 1) (cells8 (zeros32 16))) ⟨(by (with_reducible repeat first|exact eR _|apply eD|apply eN|apply eA|apply eO|apply eS|apply eC);all_goals first|omega|simp <;> omega), ((RowAt.new _ _ _).alloc _).alloc _, RowAt.alloc (RowAt.newAt (by simp)) _, RowAt.newAt (by simp)⟩ ?_
 obtain ⟨B, hB⟩ : ∃ B, w.heap.size = B := ⟨_, rfl⟩
 rw [hB]
 rintro W1 ⟨x1, u0, u1, u2⟩
 have HX1 := lh x1
 have HU2 := lh u2
 have k0 : rowOf W1 B 0 5 = some (kyC k) := u0.all rfl (by omega)
 have k1 : rowOf W1 (B + 1) 0 38 = some (epC e) := u1.all rfl (by omega)
 have hlu := u2.lt
 clear x1 u0 u1 u2
 refine wp_region_soft 6 (softsL [.eq (.agg (kyC k)), .eq (.int .i64 42), .eq (.func (.func 60) #[] #[]), .eq (.agg (epC e)), readZ L, Soft.eq (.agg (dgC D))]) (by kernel_rfl) (by kernel_rfl) (lt_cons ?_ (lt_cons ?_ (lt_cons ?_ (lt_cons ?_ (lt_cons ?_ (lt_cons ?_ (lt_none))))))) ?_
 any_goals (refine sop rfl fun xs W HW hsW HD Q' HQ => ?_; simp only [fillAt, dstOf, lc0, lcs, obs, Act.put, lsa, lsz, lss, nz, Nat.reduceAdd] at HQ ⊢)
 ·
  have hc := (row_extW HW.out (b := B) (by omega) 0 5).trans k0
  go_wp2
  exact HQ.out _ _ (eR _) rfl
 ·
  go_wp2
  exact HQ.out _ _ (eR _) rfl
 ·
  go_wp2
  exact HQ.out _ _ (eR _) rfl
 ·
  have hc := (row_extW HW.out (b := B+1) (by omega) 0 38).trans k1
  go_wp2
  exact HQ.out _ _ (eR _) rfl
 ·
  have hd2 : xs 2 = .func (.func 60) #[] #[] := (HD.out 2 (dk (by kernel_rfl)))
  generalize xs 2 = x2 at hd2 HQ ⊢; subst hd2
  have hd3 : xs 3 = .agg (epC e) := (HD.out 3 (dk (by kernel_rfl)))
  generalize xs 3 = x3 at hd3 HQ ⊢; subst hd3
  go_wp2_with (go_at_call 60; refine (HI.out _ (HX1.out.trans HW.out)).mono ?_; rintro r w1 ⟨⟨A, c, l', rfl, hl', ho⟩, hx⟩)
  exact HQ.out _ _ hx (readZ_of ho hl'.out)
 ·
  have hd0 : xs 0 = .agg (kyC k) := (HD.out 0 (dk (by kernel_rfl)))
  generalize xs 0 = x0 at hd0 HQ ⊢; subst hd0
  have hd1 : xs 1 = .int .i64 42 := (HD.out 1 (dk (by kernel_rfl)))
  generalize xs 1 = x1 at hd1 HQ ⊢; subst hd1
  have hs4 : (readZ L).S (xs 4) W := (HD.out 4 (dk (by kernel_rfl)))
  obtain ⟨A4, c4, h4, hr4, hz4⟩ := hs4
  generalize xs 4 = x4 at h4 HQ ⊢; subst h4
  go_wp2_with (go_at_call 179; refine (HM.out A4 c4 _ hr4 hz4 (RowAt.ext HK.out (HX1.out.trans HW.out))).mono ?_; rintro r w1 ⟨rfl, hx⟩)
  exact HQ.out _ _ hx rfl
 intro xs W3 hW hS
 have h5 : (Soft.eq (.agg (dgC D))).S (xs 5) W3 := hS 5 (by omega)
 simp only [fillAt, dstOf, lc0, lcs, obs, Act.put, lsa, lsz, lss, nz, Nat.reduceAdd, List.drop_succ_cons, List.drop_zero, List.drop_nil]
 have HW3 := lh (HX1.out.trans hW)
 have HWW3 := lh hW
 clear hS hW k0 k1
 have hx5 : xs 5 = .agg (dgC D) := h5
 generalize xs 5 = x5 at *; subst hx5
 have HU3 := lh (HU2.out.ext HWW3.out)
 have hrm : roomOf W3 (B + 1 + 1) 0 16 = true := by rw [HU3.out.room]; rfl
 have hl3 := HWW3.out.size
 clear HU2 HX1 h5
 go_wp2
 exact post_row sel_ty Tryz.results135 rfl rfl (RowAt.stored (n := 16) HU3.out rfl rfl (by omega)) ⟨rfl, (by (with_reducible repeat first|exact HW3.out|exact eR _|apply eD|apply eN|apply eA|apply eO|apply eS|apply eC);all_goals first|omega|simp <;> omega)⟩
def ownP (base : Nat) (ls : List Pu) : Soft := ⟨fun v w => ∃ A c, v = .slice A ls.length c ∧ Owns 39 3 puL base w A c ls, fun v w w' ⟨A, c, h1, h2⟩ hx => ⟨A, c, h1, h2.ext hx⟩⟩
def ownG (base : Nat) (ls : List (List Int)) : Soft := ⟨fun v w => ∃ A c, v = .slice A ls.length c ∧ Owns 23 16 dgL base w A c ls, fun v w w' ⟨A, c, h1, h2⟩ hx => ⟨A, c, h1, h2.ext hx⟩⟩
theorem owns_cap {α : Type} {e : TypeId} {size base : Nat} {enc : α → List Value} {w : World} {A : Option Addr} {c : Nat} {l : List α} (h : Owns e size enc base w A c l) : (l.length ≤ c ∧ c ≤ 9223372036854775807) ∧ (A = none → c = 0) := by
 rcases Owns.cases h with ⟨_, h2, h3⟩ | ⟨g, cur, rfl, _, _, h4, h5, _⟩
 ·subst h2 h3; exact ⟨⟨by simp, by omega⟩, fun _ => rfl⟩
 ·unfold maxLen at h5; exact ⟨⟨h4, by omega⟩, fun k => (by cases k)⟩
theorem memE_ok {e : Ep} {base : Nat} {w : World} {A : Option Addr} {c : Nat} {A2 : Option Addr} {c2 : Nat} (h : EpOk e) (h1 : Owns 39 3 puL base w A c e.pu) (h2 : Owns 23 16 dgL base w A2 c2 e.rv) : EpOk (memE e A c A2 c2) :=
 ⟨h.prev, h.sl, h.rv, h.ints, h.pu, h.pul, h.rvl, (owns_cap h1).1, (owns_cap h2).1, (owns_cap h1).2, (owns_cap h2).2⟩
structure OwnE (base : Nat) (w : World) (z : Ep) : Prop where
 pu : Owns 39 3 puL base w z.PA z.pc z.pu
 rv : Owns 23 16 dgL base w z.RA z.rc z.rv
theorem OwnE.at {base : Nat} {w : World} {z : Ep} (h : OwnE base w z) : EpAt w z := ⟨h.pu.reads puE, h.rv.reads dgE⟩
theorem OwnE.ext {base : Nat} {w w' : World} {z : Ep} (h : OwnE base w z) (hx : Ext w w') : OwnE base w' z := ⟨h.pu.ext hx, h.rv.ext hx⟩
theorem OwnE.other {base : Nat} {w : World} {z : Ep} (h : OwnE base w z) {b i : Nat} (hb : b < base) (v : Value) : OwnE base (w.setCell ⟨b, i, none⟩ v) z := ⟨h.pu.other (p := ⟨b, i, none⟩) hb v, h.rv.other (p := ⟨b, i, none⟩) hb v⟩
theorem OwnE.others {base : Nat} {w : World} {z : Ep} (h : OwnE base w z) {b : Nat} (hb : b < base) (o : Nat) (vs : List Value) : OwnE base (w.setCells b o vs) z := ⟨h.pu.others hb o vs, h.rv.others hb o vs⟩
theorem OwnE.lower {base b2 : Nat} {w : World} {z : Ep} (h : OwnE base w z) (hb : b2 ≤ base) : OwnE b2 w z := ⟨h.pu.lower hb, h.rv.lower hb⟩
def SealOut (k : Ky) (e : Ep) (base : Nat) (r : Ending) (w' : World) : Prop := ∃ A c A2 c2, r = .returned (.agg (epC (sealEp k (memE e A c A2 c2)))) ∧ OwnE base w' (sealEp k (memE e A c A2 c2)) ∧ EpOk (sealEp k (memE e A c A2 c2))
theorem ssealEp_any (k : Ky) (e : Ep) (w : World) (hs : k.secret.size ≤ 64) (hki : i64 k.serial) (hok : EpOk e) (hsh : EpShort e) (ha : EpAt w e) (hk : KonstP w) :
  Calls Tryz.prog 82 #[.agg (kyC k), .agg (epC e)] w fun r w' => SealOut k e w.heap.size r w' ∧ Ext w w' := by
 have HC1 := lh (fun (W : World) (hx : Ext w W) => clonePu_any e.PA e.pc e.pu W (by have := hsh.pu; omega) (ha.pu.on hx) hok.pz)
 have HC2 := lh (fun (W : World) (hx : Ext w W) => cloneDg_any e.RA e.rc e.rv W (by have := hsh.rv; omega) (ha.rv.on hx) hok.rz)
 have HSe := lh (fun (z : Ep) (W : World) (h1 : EpOk z) (h2 : EpShort z) (h3 : EpAt W z) (hx : Ext w W) => ssealedE_any k z W hs h1 h2 h3 (RowAt.ext hk hx))
 have HOk := lh hok
 have HSh := lh hsh
 have hfe := ep_fits e
 clear hs hok hsh ha hk
 go_enter Tryz.func82, Tryz.ntmps82
 go_upto_region 1 with (fail)
 refine wp_world (fun W => Ext w W ∧ RowAt W w.heap.size (kyC k) ∧ RowAt W (w.heap.size + 1) (epC e) ∧ RowAt W (w.heap.size + 1 + 1) (epC noEp)) ⟨(by (with_reducible repeat first|exact eR _|apply eD|apply eN|apply eA|apply eO|apply eS|apply eC);all_goals first|omega|simp <;> omega), ((RowAt.new _ _ _).alloc _).alloc _, RowAt.alloc (RowAt.newAt (by simp)) _, RowAt.newAt (by simp)⟩ ?_
 obtain ⟨B, hB⟩ : ∃ B, w.heap.size = B := ⟨_, rfl⟩
 rw [hB]
 rintro W1 ⟨x1, u0, u1, u2⟩
 have HX1 := lh x1
 have HU0 := lh u0
 have HU1 := lh u1
 have HU2 := lh u2
 have q19 : W1.cell? ⟨B + 1, 19, none⟩ = some (.slice e.PA e.pu.length e.pc) := (u1.cell 19).trans (ep_g19 e)
 have q20 : W1.cell? ⟨B + 1, 20, none⟩ = some (.slice e.RA e.rv.length e.rc) := (u1.cell 20).trans (ep_g20 e)
 have hlu := u2.lt
 clear x1 u0 u1 u2
 refine wp_region_soft 7 (softsL [.eq (.pointer (some ⟨B+1, 19, none⟩)), .eq (.slice e.PA e.pu.length e.pc), ownP W1.heap.size e.pu, .eq (.pointer (some ⟨B+1, 20, none⟩)), .eq (.slice e.RA e.rv.length e.rc), ownG W1.heap.size e.rv, .eq (.pointer (some ⟨B+1, 19, none⟩))]) (by kernel_rfl) (by kernel_rfl) (lt_cons ?_ (lt_cons ?_ (lt_cons ?_ (lt_cons ?_ (lt_cons ?_ (lt_cons ?_ (lt_cons ?_ (lt_none)))))))) ?_
 any_goals (refine sop rfl fun xs W HW hsW HD Q' HQ => ?_; simp only [fillAt, dstOf, lc0, lcs, obs, Act.put, lsa, lsz, lss, nz, Nat.reduceAdd] at HQ ⊢)
 ·
  go_wp2
  exact HQ.out _ _ (eR _) rfl
 ·
  have hd0 : xs 0 = .pointer (some ⟨B+1, 19, none⟩) := (HD.out 0 (dk (by kernel_rfl)))
  generalize xs 0 = x0 at hd0 HQ ⊢; subst hd0
  have hc : W.cell? ⟨B+1, 19, none⟩ = some (.slice e.PA e.pu.length e.pc) := (HW.out.cell (p := ⟨B+1, 19, none⟩) (by show B+1 < _; omega)).trans q19
  go_wp2
  exact HQ.out _ _ (eR _) rfl
 ·
  have hd1 : xs 1 = .slice e.PA e.pu.length e.pc := (HD.out 1 (dk (by kernel_rfl)))
  generalize xs 1 = x1 at hd1 HQ ⊢; subst hd1
  go_wp2_with (go_at_call 133; refine (HC1.out _ (HX1.out.trans HW.out)).mono ?_; rintro r w1 ⟨⟨A, c, rfl, ho⟩, hx⟩)
  exact HQ.out _ _ hx ⟨A, c, rfl, ho.lower hsW⟩
 ·
  go_wp2
  exact HQ.out _ _ (eR _) rfl
 ·
  have hd3 : xs 3 = .pointer (some ⟨B+1, 20, none⟩) := (HD.out 3 (dk (by kernel_rfl)))
  generalize xs 3 = x3 at hd3 HQ ⊢; subst hd3
  have hc : W.cell? ⟨B+1, 20, none⟩ = some (.slice e.RA e.rv.length e.rc) := (HW.out.cell (p := ⟨B+1, 20, none⟩) (by show B+1 < _; omega)).trans q20
  go_wp2
  exact HQ.out _ _ (eR _) rfl
 ·
  have hd4 : xs 4 = .slice e.RA e.rv.length e.rc := (HD.out 4 (dk (by kernel_rfl)))
  generalize xs 4 = x4 at hd4 HQ ⊢; subst hd4
  go_wp2_with (go_at_call 134; refine (HC2.out _ (HX1.out.trans HW.out)).mono ?_; rintro r w1 ⟨⟨A, c, rfl, ho⟩, hx⟩)
  exact HQ.out _ _ hx ⟨A, c, rfl, ho.lower hsW⟩
 ·
  go_wp2
  exact HQ.out _ _ (eR _) rfl
 intro xs W3 hW hS
 have h2 : (ownP W1.heap.size e.pu).S (xs 2) W3 := hS 2 (by omega)
 have h5 : (ownG W1.heap.size e.rv).S (xs 5) W3 := hS 5 (by omega)
 have h6 : xs 6 = .pointer (some ⟨B+1, 19, none⟩) := hS 6 (by omega)
 simp only [fillAt, dstOf, lc0, lcs, obs, Act.put, lsa, lsz, lss, nz, Nat.reduceAdd, List.drop_succ_cons, List.drop_zero, List.drop_nil]
 generalize xs 6 = x6 at *; subst h6
 have HW3 := lh (HX1.out.trans hW)
 have HWW3 := lh hW
 clear hS hW q19 q20
 obtain ⟨A2, c2, hx2, ho2⟩ := h2
 obtain ⟨A5, c5, hx5, ho5⟩ := h5
 generalize xs 2 = x2 at *
 generalize xs 5 = x5 at *
 subst hx2 hx5
 have HO2 := lh ho2
 have HO5 := lh ho5
 have hl3 := HWW3.out.size
 have hu1 := HU1.out.ext HWW3.out
 have r19 : W3.cell? ⟨B + 1, 19, none⟩ = some (.slice e.PA e.pu.length e.pc) := (hu1.cell 19).trans (ep_g19 e)
 have r20 : W3.cell? ⟨B + 1, 20, none⟩ = some (.slice e.RA e.rv.length e.rc) := (hu1.cell 20).trans (ep_g20 e)
 have f19 := hu1.free 19
 have f20 := hu1.free 20
 have HU03 := lh (HU0.out.ext HWW3.out)
 have HU13 := lh hu1
 have HU23 := lh (HU2.out.ext HWW3.out)
 clear ho2 ho5 hu1 HU0 HU1 HU2 HX1 HC1 HC2
 go_upto_region 2 with (fail)
 have he : ((epC e).setIfInBounds 19 (.slice A2 e.pu.length c2)).setIfInBounds 20 (.slice A5 e.rv.length c5) = epC (memE e A2 c2 A5 c5) := ep_mem_set e A2 c2 A5 c5
 have HZo := lh (memE_ok (A := A2) (c := c2) (A2 := A5) (c2 := c5) HOk.out HO2.out HO5.out)
 have HZs : Hid (EpShort (memE e A2 c2 A5 c5)) := lh ⟨HSh.out.pu, HSh.out.rv, HSh.out.what⟩
 refine wp_world (fun W => Ext w W ∧ RowAt W B (kyC k) ∧ RowAt W (B + 1) (epC (memE e A2 c2 A5 c5)) ∧ RowAt W (B + 1 + 1) (epC noEp) ∧ OwnE (B + 1 + 1 + 1) W (memE e A2 c2 A5 c5)) ⟨(by (with_reducible repeat first|exact HW3.out|exact eR _|apply eD|apply eN|apply eA|apply eO|apply eS|apply eC);all_goals first|omega|simp <;> omega), (HU03.out.other (by show B ≠ B + 1; omega) _).other (by show B ≠ B + 1; omega) _, ?_, (HU23.out.other (by show B + 1 + 1 ≠ B + 1; omega) _).other (by show B + 1 + 1 ≠ B + 1; omega) _, ?_⟩ ?_
 ·rw [← he]
  exact (HU13.out.set 19 _).set 20 _
 ·have h : OwnE (B + 1 + 1 + 1) W3 (memE e A2 c2 A5 c5) := ⟨HO2.out.lower (by omega), HO5.out.lower (by omega)⟩
  exact (h.other (by omega) _).other (by omega) _
 clear HO2 HO5 HU03 HU13 HU23 he r19 r20 f19 f20 HW3 HWW3
 obtain ⟨z, hz⟩ : ∃ z, memE e A2 c2 A5 c5 = z := ⟨_, rfl⟩
 have HZ := lh hz
 rw [hz] at HZo HZs
 rw [hz]
 clear hz
 have hfz := ep_fits z
 rintro W4 ⟨x4, u0, u1, u2, hza⟩
 have HX4 := lh x4
 have HU0 := lh u0
 have HU1 := lh u1
 have HU2 := lh u2
 have HZa := lh hza
 have q1 : W4.cell? ⟨B, 1, none⟩ = some (.int .i64 k.serial) := (u0.cell 1).trans (ky_g1 k)
 have q3 : W4.cell? ⟨B + 1, 21, none⟩ = some (.int .i64 z.serial) := (u1.cell 21).trans (ep_g21 z)
 have f1 := u1.free 21
 have hlu4 := u2.lt
 clear x4 u0 u1 u2 hza
 go_upto_region 3 with (fail)
 refine wp_world (fun W => Ext w W ∧ RowAt W B (kyC k) ∧ RowAt W (B + 1) (epC (serEp k z)) ∧ RowAt W (B + 1 + 1) (epC noEp) ∧ OwnE (B + 1 + 1 + 1) W z) ⟨HX4.out.setCell (by show _ ≤ B + 1; omega) _, HU0.out.other (by show B ≠ B + 1; omega) _, ?_, HU2.out.other (by show B + 1 + 1 ≠ B + 1; omega) _, HZa.out.other (by omega) _⟩ ?_
 ·have h := HU1.out.set 21 (.int .i64 k.serial)
  rw [ep_set21] at h
  exact h
 rintro W5 ⟨x5, u0, u1, u2, hza⟩
 have HX5 := lh x5
 have HU15 := lh u1
 have HU25 := lh u2
 have HZ5 := lh hza
 have k0 : rowOf W5 B 0 5 = some (kyC k) := u0.all rfl (by omega)
 have k1 : rowOf W5 (B + 1) 0 38 = some (epC (serEp k z)) := u1.all rfl (by omega)
 have m1 : roomOf W5 (B + 1) 22 16 = true := by rw [u1.room]; rfl
 have hl5 := u2.lt
 have HSe5 := lh (HSe.out (serEp k z) W5 (serEp_ok HZo.out hki) (serEp_short HZs.out) ⟨hza.at.pu, hza.at.rv⟩ x5)
 have hft := ep_fits (serEp k z)
 obtain ⟨D, hD⟩ : ∃ D, makeN k 42 (epParts (serEp k z)) = D := ⟨_, rfl⟩
 have hzz : sealEp k z = { serEp k z with sl := D } := by rw [← hD]; rfl
 have HZZ := lh hzz
 rw [hD] at HSe5
 have hfd : fitsRow 16 (dgC D) = true := by simp [fitsRow, dgC, Value.oneCell']
 clear x5 u0 u1 u2 hza HX4 HU0 HU1 HU2 HZa q1 q3 f1 hlu4 HSe hD hzz
 go_upto_region 4 with (go_at_call 135; refine HSe5.out.mono ?_; rintro e w' ⟨rfl, hxl⟩; obtain ⟨xl, rfl⟩ := hxl.asLater; clear hxl)
 refine wp_world (fun W => Ext w W ∧ RowAt W (B + 1) (epC (sealEp k z)) ∧ RowAt W (B + 1 + 1) (epC noEp) ∧ OwnE (B + 1 + 1 + 1) W z) ⟨(HX5.out.onto xl).setCells (by omega) _ _, ?_, (HU25.out.later xl).others (by omega) _ _, (HZ5.out.ext (ext_later W5 xl)).others (by omega) _ _⟩ ?_
 ·have h := (HU15.out.later xl).sets 22 (dgC D).toList
  rw [ep_seal_set] at h
  rw [HZZ.out]
  exact h
 rintro W6 ⟨x6, u1, u2, hza⟩
 have HX6 := lh x6
 have HU26 := lh u2
 have HZ6 := lh hza
 have k6 : rowOf W6 (B + 1) 0 38 = some (epC (sealEp k z)) := u1.all rfl (by omega)
 have hf6 := ep_fits (sealEp k z)
 have m2 : roomOf W6 (B + 1 + 1) 0 38 = true := by rw [u2.room]; rfl
 have hl6 := u2.lt
 have HEo := lh (sealEp_ok HZo.out hki)
 clear x6 u1 u2 hza HX5 HU15 HU25 HZ5 k0 k1 m1 HSe5
 go_wp2
 refine post_row ep_ty Tryz.results82 rfl rfl (RowAt.stored (n := 38) HU26.out rfl rfl (by omega)) ⟨⟨A2, c2, A5, c5, by rw [HZ.out], ?_, by rw [HZ.out]; exact HEo.out⟩, (by (with_reducible repeat first|exact HX6.out|exact eR _|apply eD|apply eN|apply eA|apply eO|apply eS|apply eC);all_goals first|omega|simp <;> omega)⟩
 rw [HZ.out]
 have h := (HZ6.out.others (by omega : B + 1 + 1 < B + 1 + 1 + 1) 0 (epC (sealEp k z)).toList).lower (by omega : w.heap.size ≤ B + 1 + 1 + 1)
 exact ⟨h.pu, h.rv⟩
theorem rsealEp_any (k : Ky) (e : Ep) (w : World) (hs : k.secret.size ≤ 64) (hki : i64 k.serial) (hok : EpOk e) (hsh : EpShort e) (ha : EpAt w e) (hk : RKonst w) :
  Calls Tryz.prog 83 #[.agg (kyC k), .agg (epC e)] w fun r w' => r = .returned (.agg (epC (sealEp k e))) ∧ Ext w w' := by
 have HI := lh (fun (W : World) (hx : Ext w W) => reparts_any (serEp k e) W (serEp_ok hok hki) (serEp_short hsh) ⟨(ha.on hx).pu, (ha.on hx).rv⟩)
 have hl := ep_lens (k := k) hs (serEp_ok hok hki) (serEp_short hsh)
 have HM := lh (fun (A : Option Addr) (c : Nat) (W : World) (h1 : ReadsStr W W.heap.size A (epParts (serEp k e))) (h2 : A = none → c = 0) (hx : Ext w W) => rmake_any k 42 A c (epParts (serEp k e)) W h1 h2 hl (RowAt.ext hk hx))
 have hfe := ep_fits e
 obtain ⟨z, hz⟩ : ∃ z, serEp k e = z := ⟨_, rfl⟩
 have hset := ep_set21 e k.serial
 rw [show ({ e with serial := k.serial } : Ep) = z from hz] at hset
 obtain ⟨D, hD⟩ : ∃ D, makeN k 42 (epParts z) = D := ⟨_, rfl⟩
 have hzz : sealEp k e = { z with sl := D } := by rw [← hD, ← hz]; rfl
 have hfit : fitsRow 16 (dgC D) = true := by simp [fitsRow, dgC, Value.oneCell']
 have hfz := ep_fits z
 rw [hz, hD] at HM
 rw [hz] at HI
 unfold EPOut at HI
 generalize epParts z = L at *
 rw [hzz]
 have HSet := lh hset
 clear hok hsh hl ha hk hD hz hzz hset
 go_enter Tryz.func83, Tryz.ntmps83
 go_upto_region 1 with (fail)
 refine wp_world (fun W => Ext w W ∧ RowAt W w.heap.size (kyC k) ∧ RowAt W (w.heap.size + 1) (epC e) ∧ RowAt W (w.heap.size + 1 + 1) (epC noEp)) ⟨(by (with_reducible repeat first|exact eR _|apply eD|apply eN|apply eA|apply eO|apply eS|apply eC);all_goals first|omega|simp <;> omega), ((RowAt.new _ _ _).alloc _).alloc _, RowAt.alloc (RowAt.newAt (by simp)) _, RowAt.newAt (by simp)⟩ ?_
 obtain ⟨B, hB⟩ : ∃ B, w.heap.size = B := ⟨_, rfl⟩
 rw [hB]
 rintro W1 ⟨x1, u0, u1, u2⟩
 have HX1 := lh x1
 have HU0 := lh u0
 have HU1 := lh u1
 have HU2 := lh u2
 have q1 : W1.cell? ⟨B, 1, none⟩ = some (.int .i64 k.serial) := (u0.cell 1).trans (ky_g1 k)
 have q3 : W1.cell? ⟨B + 1, 21, none⟩ = some (.int .i64 e.serial) := (u1.cell 21).trans (ep_g21 e)
 have f1 := u1.free 21
 have hlu := u2.lt
 clear x1 u0 u1 u2
 go_upto_region 2 with (fail)
 refine wp_world (fun W => Ext w W ∧ RowAt W B (kyC k) ∧ RowAt W (B + 1) (epC z) ∧ RowAt W (B + 1 + 1) (epC noEp)) ⟨?_, ?_, ?_, ?_⟩ ?_
 ·exact HX1.out.setCell (by show _ ≤ B + 1; omega) _
 ·exact HU0.out.other (by show B ≠ B + 1; omega) _
 ·rw [← HSet.out]; exact HU1.out.set 21 _
 ·exact HU2.out.other (by show B + 1 + 1 ≠ B + 1; omega) _
 clear HX1 HU0 HU1 HU2 q1 q3 f1 hlu HSet
 rintro W2 ⟨x2, u0, u1, u2⟩
 have HX2 := lh x2
 have HU1 := lh u1
 have HU2 := lh u2
 have k0 : rowOf W2 B 0 5 = some (kyC k) := u0.all rfl (by omega)
 have k1 : rowOf W2 (B + 1) 0 38 = some (epC z) := u1.all rfl (by omega)
 have hlu := u2.lt
 clear x2 u0 u1 u2
 refine wp_region_soft 5 (softsL [.eq (.agg (kyC k)), .eq (.agg (epC z)), readZ L, Soft.eq (.agg (dgC D)), .eq (.pointer (some ⟨B+1, 22, none⟩))]) (by kernel_rfl) (by kernel_rfl) (lt_cons ?_ (lt_cons ?_ (lt_cons ?_ (lt_cons ?_ (lt_cons ?_ (lt_none)))))) ?_
 any_goals (refine sop rfl fun xs W HW hsW HD Q' HQ => ?_; simp only [fillAt, dstOf, lc0, lcs, obs, Act.put, lsa, lsz, lss, nz, Nat.reduceAdd] at HQ ⊢)
 ·
  have hc := (row_extW HW.out (b := B) (by omega) 0 5).trans k0
  go_wp2
  exact HQ.out _ _ (eR _) rfl
 ·
  have hc := (row_extW HW.out (b := B+1) (by omega) 0 38).trans k1
  go_wp2
  exact HQ.out _ _ (eR _) rfl
 ·
  have hd1 : xs 1 = .agg (epC z) := (HD.out 1 (dk (by kernel_rfl)))
  generalize xs 1 = x1 at hd1 HQ ⊢; subst hd1
  go_wp2_with (go_at_call 62; refine (HI.out _ (HX2.out.trans HW.out)).mono ?_; rintro r w1 ⟨⟨A, c, l', rfl, hl', ho⟩, hx⟩)
  exact HQ.out _ _ hx (readZ_of ho hl'.out)
 ·
  have hd0 : xs 0 = .agg (kyC k) := (HD.out 0 (dk (by kernel_rfl)))
  generalize xs 0 = x0 at hd0 HQ ⊢; subst hd0
  have hs2 : (readZ L).S (xs 2) W := (HD.out 2 (dk (by kernel_rfl)))
  obtain ⟨A2, c2, h2, hr2, hz2⟩ := hs2
  generalize xs 2 = x2 at h2 HQ ⊢; subst h2
  go_wp2_with (go_at_call 136; refine (HM.out A2 c2 _ hr2 hz2 (HX2.out.trans HW.out)).mono ?_; rintro r w1 ⟨rfl, hx⟩)
  exact HQ.out _ _ hx rfl
 ·
  go_wp2
  exact HQ.out _ _ (eR _) rfl
 intro xs W3 hW hS
 have h3 : (Soft.eq (.agg (dgC D))).S (xs 3) W3 := hS 3 (by omega)
 have h4 : xs 4 = .pointer (some ⟨B+1, 22, none⟩) := hS 4 (by omega)
 simp only [fillAt, dstOf, lc0, lcs, obs, Act.put, lsa, lsz, lss, nz, Nat.reduceAdd, List.drop_succ_cons, List.drop_zero, List.drop_nil]
 generalize xs 4 = x4 at *; subst h4
 have HW3 := lh (HX2.out.trans hW)
 have HWW3 := lh hW
 clear hS hW k0 k1
 have hx3 : xs 3 = .agg (dgC D) := h3
 generalize xs 3 = x3 at *; subst hx3
 have HX3 := HW3
 have HU13 := lh (HU1.out.ext HWW3.out)
 have HU23 := lh (HU2.out.ext HWW3.out)
 have m1 : roomOf W3 (B + 1) 22 16 = true := by rw [HU13.out.room]; rfl
 have hl3 := HWW3.out.size
 clear HU1 HU2 HX2 h3
 go_upto_region 3 with (fail)
 refine wp_world (fun W => Ext w W ∧ RowAt W (B + 1) (epC { z with sl := D }) ∧ RowAt W (B + 1 + 1) (epC noEp)) ⟨?_, ?_, ?_⟩ ?_
 ·exact HX3.out.setCells (by omega) _ _
 ·have h := HU13.out.sets 22 (dgC D).toList
  rw [ep_seal_set] at h
  exact h
 ·exact HU23.out.others (by omega) _ _
 clear HX3 HU13 HU23 m1 hl3 hlu
 rintro W4 ⟨x4, u1, u2⟩
 have HX4 := lh x4
 have HU2 := lh u2
 have k1 : rowOf W4 (B + 1) 0 38 = some (epC { z with sl := D }) := u1.all rfl (by omega)
 have hft := ep_fits { z with sl := D }
 have m2 : roomOf W4 (B + 1 + 1) 0 38 = true := by rw [u2.room]; rfl
 have hlu := u2.lt
 clear x4 u1 u2
 go_wp2
 exact post_row ep_ty Tryz.results83 rfl rfl (RowAt.stored (n := 38) HU2.out rfl rfl (by omega)) ⟨rfl, (by (with_reducible repeat first|exact HX4.out|exact eR _|apply eD|apply eN|apply eA|apply eO|apply eS|apply eC);all_goals first|omega|simp <;> omega)⟩
theorem scheckEp_any (Ar : Option Addr) (cr : Nat) (l : List Ky) (e : Ep) (w : World) (hg : RingOk l) (hrk : ReadsKy w w.heap.size Ar l) (hok : EpOk e) (hsh : EpShort e) (ha : EpAt w e) (hk : KonstP w) :
  Calls Tryz.prog 78 #[.slice Ar l.length cr, .agg (epC e)] w fun r w' => r = .returned (.int .i64 (checkEp l e)) ∧ Ext w w' := by
 have HI := lh (fun (W : World) (hx : Ext w W) => eparts_any e W hok hsh (ha.on hx))
 have hl : lens (epParts e) ≤ 1000000000000 := by have := epParts_lens hok hsh; omega
 have HM := lh (fun (A : Option Addr) (c : Nat) (W : World) (h1 : ReadsStr W W.heap.size A (epParts e)) (h2 : A = none → c = 0) (hx : Ext w W) => scheck_ring Ar cr l 1 e.serial 42 A c (epParts e) e.sl e.lo e.hi W hg (hrk.on hx) (by unfold small40; omega) (hok.ints _ (by simp)) hok.sl h1 h2 hl (RowAt.ext hk hx))
 have hR : checkR l 1 e.serial 42 (epParts e) e.sl e.lo e.hi = checkEp l e := rfl
 rw [hR] at HM
 have hfe := ep_fits e
 have hfd : fitsRow 16 (dgC e.sl) = true := dg_fits _
 have hfp := pd_fits e.lo e.hi
 generalize checkEp l e = R at *
 unfold EPOut at HI
 generalize epParts e = L at *
 clear hok hsh hl ha hk hR hrk hg
 go_enter Tryz.func78, Tryz.ntmps78
 go_upto_region 1 with (fail)
 refine wp_world (fun W => Ext w W ∧ RowAt W w.heap.size (epC e)) ⟨(by (with_reducible repeat first|exact eR _|apply eD|apply eN|apply eA|apply eO|apply eS|apply eC);all_goals first|omega|simp <;> omega), RowAt.new _ _ _⟩ ?_
 obtain ⟨B, hB⟩ : ∃ B, w.heap.size = B := ⟨_, rfl⟩
 rw [hB]
 rintro W1 ⟨x1, u0⟩
 have HX1 := lh x1
 have hlu := u0.lt
 have q21 : W1.cell? ⟨B, 21, none⟩ = some (.int .i64 e.serial) := (u0.cell 21).trans (ep_g21 e)
 have k0 : rowOf W1 B 0 38 = some (epC e) := u0.all rfl (by omega)
 have k22 : rowOf W1 B 22 16 = some (dgC e.sl) := by rw [u0.row, if_neg (by omega), ep_sl]
 have kpd : rowOf W1 B 17 2 = some (pdC e.lo e.hi) := by rw [u0.row, if_neg (by omega), ep_pd]
 clear x1 u0
 refine wp_region_soft 10 (softsL [.eq (.slice Ar l.length cr), .eq (.pointer (some ⟨B, 21, none⟩)), .eq (.int .i64 e.serial), .eq (.agg (epC e)), readZ L, .eq (.pointer (some ⟨B, 22, none⟩)), .eq (.agg (dgC e.sl)), .eq (.pointer (some ⟨B, 17, none⟩)), .eq (.agg (pdC e.lo e.hi)), Soft.eq (.int .i64 R)]) (by kernel_rfl) (by kernel_rfl) (lt_cons ?_ (lt_cons ?_ (lt_cons ?_ (lt_cons ?_ (lt_cons ?_ (lt_cons ?_ (lt_cons ?_ (lt_cons ?_ (lt_cons ?_ (lt_cons ?_ (lt_none))))))))))) ?_
 any_goals (refine sop rfl fun xs W HW hsW HD Q' HQ => ?_; simp only [fillAt, dstOf, lc0, lcs, obs, Act.put, lsa, lsz, lss, nz, Nat.reduceAdd] at HQ ⊢)
 ·
  go_wp2
  exact HQ.out _ _ (eR _) rfl
 ·
  go_wp2
  exact HQ.out _ _ (eR _) rfl
 ·
  have hd1 : xs 1 = .pointer (some ⟨B, 21, none⟩) := (HD.out 1 (dk (by kernel_rfl)))
  generalize xs 1 = x1 at hd1 HQ ⊢; subst hd1
  have hc : W.cell? ⟨B, 21, none⟩ = some (.int .i64 e.serial) := (HW.out.cell (p := ⟨B, 21, none⟩) (by show B < _; omega)).trans q21
  go_wp2
  exact HQ.out _ _ (eR _) rfl
 ·
  have hc := (row_extW HW.out (b := B) (by omega) 0 38).trans k0
  go_wp2
  exact HQ.out _ _ (eR _) rfl
 ·
  have hd3 : xs 3 = .agg (epC e) := (HD.out 3 (dk (by kernel_rfl)))
  generalize xs 3 = x3 at hd3 HQ ⊢; subst hd3
  go_wp2_with (go_at_call 60; refine (HI.out _ (HX1.out.trans HW.out)).mono ?_; rintro r w1 ⟨⟨A, c, l', rfl, hl', ho⟩, hx⟩)
  exact HQ.out _ _ hx (readZ_of ho hl'.out)
 ·
  go_wp2
  exact HQ.out _ _ (eR _) rfl
 ·
  have hd5 : xs 5 = .pointer (some ⟨B, 22, none⟩) := (HD.out 5 (dk (by kernel_rfl)))
  generalize xs 5 = x5 at hd5 HQ ⊢; subst hd5
  have hc := (row_extW HW.out (b := B) (by omega) 22 16).trans k22
  go_wp2
  exact HQ.out _ _ (eR _) rfl
 ·
  go_wp2
  exact HQ.out _ _ (eR _) rfl
 ·
  have hd7 : xs 7 = .pointer (some ⟨B, 17, none⟩) := (HD.out 7 (dk (by kernel_rfl)))
  generalize xs 7 = x7 at hd7 HQ ⊢; subst hd7
  have hc := (row_extW HW.out (b := B) (by omega) 17 2).trans kpd
  go_wp2
  exact HQ.out _ _ (eR _) rfl
 ·
  have hd0 : xs 0 = .slice Ar l.length cr := (HD.out 0 (dk (by kernel_rfl)))
  generalize xs 0 = x0 at hd0 HQ ⊢; subst hd0
  have hd2 : xs 2 = .int .i64 e.serial := (HD.out 2 (dk (by kernel_rfl)))
  generalize xs 2 = x2 at hd2 HQ ⊢; subst hd2
  have hs4 : (readZ L).S (xs 4) W := (HD.out 4 (dk (by kernel_rfl)))
  have hd6 : xs 6 = .agg (dgC e.sl) := (HD.out 6 (dk (by kernel_rfl)))
  generalize xs 6 = x6 at hd6 HQ ⊢; subst hd6
  have hd8 : xs 8 = .agg (pdC e.lo e.hi) := (HD.out 8 (dk (by kernel_rfl)))
  generalize xs 8 = x8 at hd8 HQ ⊢; subst hd8
  obtain ⟨A4, c4, h4, hr4, hz4⟩ := hs4
  generalize xs 4 = x4 at h4 HQ ⊢; subst h4
  go_wp2_with (go_at_call 131; refine (HM.out A4 c4 _ hr4 hz4 (HX1.out.trans HW.out)).mono ?_; rintro r w1 ⟨rfl, hx⟩)
  exact HQ.out _ _ hx rfl
 intro xs W3 hW hS
 have h9 : (Soft.eq (.int .i64 R)).S (xs 9) W3 := hS 9 (by omega)
 simp only [fillAt, dstOf, lc0, lcs, obs, Act.put, lsa, lsz, lss, nz, Nat.reduceAdd, List.drop_succ_cons, List.drop_zero, List.drop_nil]
 have HW3 := lh (HX1.out.trans hW)
 have HWW3 := lh hW
 clear hS hW q21 k0 k22 kpd
 have hx9 : xs 9 = .int .i64 R := h9
 generalize xs 9 = x9 at *; subst hx9
 clear h9
 go_wp2
 go_ret
 exact ⟨rfl, (by (with_reducible repeat first|exact HW3.out|exact eR _|apply eD|apply eN|apply eA|apply eO|apply eS|apply eC);all_goals first|omega|simp <;> omega)⟩
abbrev OwnsEp (base : Nat) (w : World) (A : Option Addr) (c : Nat) (l : List Ep) : Prop := Owns 30 38 epL base w A c l
noncomputable def appL (ring : List Ky) (l : List Ep) (x : Ep) : List Ep := if appendE ring l x = 0 then l ++ [x] else []
def AppOut (ring : List Ky) (l : List Ep) (x : Ep) (base : Nat) (r : Ending) (w' : World) : Prop := ∃ A c l', r = .returned (.tuple #[.slice A l'.length c, .int .i64 (appendE ring l x)]) ∧ l' = appL ring l x ∧ OwnsEp base w' A c l'
def ownL (base : Nat) (ls : List Ep) : Soft := ⟨fun v w => ∃ A c, v = .slice A ls.length c ∧ OwnsEp base w A c ls, fun v w w' ⟨A, c, h1, h2⟩ hx => ⟨A, c, h1, h2.ext hx⟩⟩
def readE (ls : List Ep) : Soft := ⟨fun v w => ∃ A c, v = .slice A ls.length c ∧ Reads 38 epL w w.heap.size A ls ∧ (A = none → c = 0), fun v w w' ⟨A, c, h1, h2, h3⟩ hx => ⟨A, c, h1, h2.on hx, h3⟩⟩
theorem append_any (Ar : Option Addr) (cr : Nat) (ring : List Ky) (A : Option Addr) (c : Nat) (l : List Ep) (x : Ep) (w : World) (hg : RingOk ring) (hrk : ReadsKy w w.heap.size Ar ring) (hl : l.length ≤ 100) (hc : ChAt w A l) (hz : A = none → c = 0) (hok : EpOk x) (hsh : EpShort x) (ha : EpAt w x) (hk : KonstP w) :
  Calls Tryz.prog 34 #[.slice Ar ring.length cr, .slice A l.length c, .agg (epC x)] w fun r w' => AppOut ring l x w.heap.size r w' ∧ Ext w w' := by
 have HF := lh (fun (W : World) (hx : Ext w W) => follows_any A c l x W hl (hc.on hx) hok hsh (ha.on hx) (RowAt.ext hk hx))
 have HC := lh (fun (W : World) (hx : Ext w W) => scheckEp_any Ar cr ring x W hg (hrk.on hx) hok hsh (ha.on hx) (RowAt.ext hk hx))
 have HCl := lh (fun (W : World) (hx : Ext w W) => cloneEp_any A c l W (by omega) (hc.rd.on hx) hz)
 have HA : Hid (appendE ring l x = if followsN l x = 0 then checkEp ring x else followsN l x) := lh rfl
 have HL : Hid (appL ring l x = if appendE ring l x = 0 then l ++ [x] else []) := lh rfl
 have hfe := ep_fits x
 unfold AppOut
 generalize appL ring l x = LL at *
 generalize appendE ring l x = R at *
 generalize followsN l x = F at *
 generalize checkEp ring x = C at *
 clear hg hrk hc hz hok hsh ha hk
 go_enter Tryz.func34, Tryz.ntmps34
 go_upto_region 1 with (fail)
 refine wp_world (fun W => Ext w W ∧ RowAt W w.heap.size (epC x)) ⟨(by (with_reducible repeat first|exact eR _|apply eD|apply eN|apply eA|apply eO|apply eS|apply eC);all_goals first|omega|simp <;> omega), RowAt.new _ _ _⟩ ?_
 obtain ⟨B, hB⟩ : ∃ B, w.heap.size = B := ⟨_, rfl⟩
 rw [hB]
 rintro W1 ⟨x1, u0⟩
 have HX1 := lh x1
 have hlu := u0.lt
 have k0 : rowOf W1 B 0 38 = some (epC x) := u0.all rfl (by omega)
 clear x1 u0
 by_cases f0 : F = 0
 ·subst f0
  have HA2 : Hid (R = C) := lh (by rw [HA.out, if_pos rfl])
  clear HA
  by_cases c0 : C = 0
  ·subst c0
   have HR0 : Hid (R = 0) := lh HA2.out
   have HL2 : Hid (LL = l ++ [x]) := lh (by rw [HL.out, HR0.out, if_pos rfl])
   clear HA2 HL
   go_upto_region 6 with (first
    | (go_at_call 38; refine (HF.out _ HX1.out).mono ?_; rintro e w' ⟨rfl, hxl⟩; obtain ⟨xl, rfl⟩ := hxl.asLater; clear hxl)
    | (go_at_call 78; refine (HC.out _ (HX1.out.onto _)).mono ?_; rintro r w' ⟨rfl, hxl⟩; obtain ⟨xk, rfl⟩ := hxl.asLater; clear hxl))
   refine wp_world (fun W => Ext w W ∧ rowOf W B 0 38 = some (epC x) ∧ B < W.heap.size) ⟨(by (with_reducible repeat first|exact HX1.out|exact eR _|apply eD|apply eN|apply eA|apply eO|apply eS|apply eC);all_goals first|omega|simp <;> omega), by first | exact k0 | (simp only [later_later, rowOf_later, if_pos hlu]; exact k0), by simp [later_size]; omega⟩ ?_
   rintro W2 ⟨x2, k2, hl2⟩
   have HX2 := lh x2
   clear x2 k0 HX1 HF HC
   refine wp_region_soft 4 (softsL [.eq (.slice A l.length c), ownL W2.heap.size l, .eq (.agg (epC x)), readE [x]]) (by kernel_rfl) (by kernel_rfl) (lt_cons ?_ (lt_cons ?_ (lt_cons ?_ (lt_cons ?_ (lt_none))))) ?_
   any_goals (refine sop rfl fun xs W HW hsW HD Q' HQ => ?_; simp only [fillAt, dstOf, lc0, lcs, obs, Act.put, lsa, lsz, lss, nz, Nat.reduceAdd] at HQ ⊢)
   ·
    go_wp2
    exact HQ.out _ _ (eR _) rfl
   ·
    have hd0 : xs 0 = .slice A l.length c := (HD.out 0 (dk (by kernel_rfl)))
    generalize xs 0 = x0 at hd0 HQ ⊢; subst hd0
    go_wp2_with (go_at_call 79; refine (HCl.out _ (HX2.out.trans HW.out)).mono ?_; rintro r w1 ⟨⟨A', c', rfl, ho⟩, hx⟩)
    exact HQ.out _ _ hx ⟨A', c', rfl, ho.lower hsW⟩
   ·
    have hc := (row_extW HW.out (b := B) (by omega) 0 38).trans k2
    go_wp2
    exact HQ.out _ _ (eR _) rfl
   ·
    have hd2 : xs 2 = .agg (epC x) := (HD.out 2 (dk (by kernel_rfl)))
    generalize xs 2 = x2 at hd2 HQ ⊢; subst hd2
    go_wp2
    exact HQ.out _ _ ((eR _).alloc _) ⟨_, _, rfl, reads_freshB epE [x] W _ _ (by kernel_rfl) _ rfl, fun h => (by cases h)⟩
   intro xs W3 hW hS
   have h1 : (ownL W2.heap.size l).S (xs 1) W3 := hS 1 (by omega)
   have h3 : (readE [x]).S (xs 3) W3 := hS 3 (by omega)
   simp only [fillAt, dstOf, lc0, lcs, obs, Act.put, lsa, lsz, lss, nz, Nat.reduceAdd, List.drop_succ_cons, List.drop_zero, List.drop_nil]
   have HW3 := lh (HX2.out.trans hW)
   have HWW3 := lh hW
   clear hS hW k2
   obtain ⟨A1, c1, hx1, ho1⟩ := h1
   obtain ⟨A3, c3, hx3, hr3, hz3⟩ := h3
   generalize xs 1 = x1 at *
   generalize xs 3 = x3 at *
   subst hx1 hx3
   have HO1 := lh ho1
   have HR3 := lh hr3
   have hs3 := HWW3.out.size
   clear ho1 hr3
   go_wp2_with (at_builtin; refine (show Hid _ from ?_).out)
   refine lh ?_
   refine app_reads epT epE rfl _ _ rfl W2.heap.size _ _ l rfl HO1.out W3.heap.size _ _ [x] rfl HR3.out hz3 (by simp; omega) (by simp; omega) hs3 ?_
   intro A2 c2 l2 w2 HL2' hO9 hB9 hl1' hl2' _
   have HO2 := lh hO9
   have HXe : Hid (Ext w w2) := lh (Ext.grown HW3.out hB9 HX2.out.size)
   have HLe : Hid (l2 = LL) := lh (by rw [HL2'.out, HL2.out])
   clear hO9 hB9 hl1' hl2' HL2'
   go_wp2
   refine bodyPost_ret (v := .tuple #[.slice A2 l2.length c2, .int .i64 0]) ?_ rfl ⟨⟨A2, c2, l2, by rw [HR0.out], HLe.out, HO2.out.lower (by have := HX2.out.size; omega)⟩, HXe.out⟩
   simp [results, Tryz.results34, go_sem, ↓IntWalk.iteOmega]
  ·have HL2 : Hid (LL = []) := lh (by rw [HL.out, HA2.out, if_neg c0])
   have dc : (C != 0) = true := by simpa using c0
   clear HL
   go_wp2_with (first
    | (go_at_call 38; refine (HF.out _ HX1.out).mono ?_; rintro e w' ⟨rfl, hxl⟩; obtain ⟨xl, rfl⟩ := hxl.asLater; clear hxl)
    | (go_at_call 78; refine (HC.out _ (HX1.out.onto _)).mono ?_; rintro r w' ⟨rfl, hxl⟩; obtain ⟨xk, rfl⟩ := hxl.asLater; clear hxl))
   refine bodyPost_ret (v := .tuple #[.slice none 0 0, .int .i64 C]) ?_ rfl ⟨⟨none, 0, [], by rw [HA2.out]; rfl, HL2.out.symm, Owns.nil _ _ _ _ _⟩, (by (with_reducible repeat first|exact HX1.out|exact eR _|apply eD|apply eN|apply eA|apply eO|apply eS|apply eC);all_goals first|omega|simp <;> omega)⟩
   simp [results, Tryz.results34, go_sem, ↓IntWalk.iteOmega]
 ·have HA2 : Hid (R = F) := lh (by rw [HA.out, if_neg f0])
  have HL2 : Hid (LL = []) := lh (by rw [HL.out, HA2.out, if_neg f0])
  have dc : (F != 0) = true := by simpa using f0
  have de : (F == 0) = false := by simpa using f0
  clear HL HA
  go_wp2_with (go_at_call 38; refine (HF.out _ HX1.out).mono ?_; rintro e w' ⟨rfl, hxl⟩; obtain ⟨xl, rfl⟩ := hxl.asLater; clear hxl)
  refine bodyPost_ret (v := .tuple #[.slice none 0 0, .int .i64 F]) ?_ rfl ⟨⟨none, 0, [], by rw [HA2.out]; rfl, HL2.out.symm, Owns.nil _ _ _ _ _⟩, (by (with_reducible repeat first|exact HX1.out|exact eR _|apply eD|apply eN|apply eA|apply eO|apply eS|apply eC);all_goals first|omega|simp <;> omega)⟩
  simp [results, Tryz.results34, go_sem, ↓IntWalk.iteOmega]
theorem nextEp_ok {l : List Ep} {s : Ep} (hl : l.length ≤ 100) (h : EpOk s) : EpOk (nextEp l s) := ⟨lastD_ok l, zeros_ok, h.rv, fun x hx => by
 simp only [nextEp, List.mem_cons, List.not_mem_nil, or_false] at hx
 rcases hx with rfl | rfl | rfl | rfl
 ·unfold i64; omega
 ·exact h.ints _ (by simp)
 ·exact h.ints _ (by simp)
 ·unfold i64; omega, h.pu, h.pul, h.rvl, h.pcap, h.rcap, h.pz, h.rz⟩
theorem nextEp_short {l : List Ep} {s : Ep} (h : EpShort s) : EpShort (nextEp l s) := ⟨h.pu, h.rv, h.what⟩
theorem issueX_mem (k : Ky) (l : List Ep) (s : Ep) (A : Option Addr) (c : Nat) (A2 : Option Addr) (c2 : Nat) : sealEp k (memE (nextEp l s) A c A2 c2) = issueX k l (memE s A c A2 c2) := rfl
theorem follows_mem (k : Ky) (l : List Ep) (s : Ep) (A : Option Addr) (c : Nat) (A2 : Option Addr) (c2 : Nat) : followsN l (issueX k l (memE s A c A2 c2)) = issueE k l s := rfl
def IssOut (k : Ky) (l : List Ep) (s : Ep) (base : Nat) (r : Ending) (w' : World) : Prop :=
 (issueE k l s = 0 ∧ ∃ A c A2 c2, r = .returned (.tuple #[.agg (epC (issueX k l (memE s A c A2 c2))), .int .i64 0]) ∧ OwnE base w' (issueX k l (memE s A c A2 c2)) ∧ EpOk (issueX k l (memE s A c A2 c2))) ∨
 (issueE k l s ≠ 0 ∧ r = .returned (.tuple #[.agg (epC noEp), .int .i64 (issueE k l s)]))
def epB5 (x0 x1 x2 x3 x4 : Value) : Sem Next := do pure (.value (← Instr.build 30 #[(0, x0), (1, x1), (2, x2), (3, x3), (4, x4)]))
theorem epB5_x (ρ : Operand → Value) (dst : Option Tmp) (x0 x1 x2 x3 x4 : Operand) (t : TypeId) (pos : String) (after : Array Edge) (guard : Option (Nat × Bool)) : execOp ρ { dst, op := .build 30 #[(0, x0), (1, x1), (2, x2), (3, x3), (4, x4)], type := t, pos, after, guard } = epB5 (ρ x0) (ρ x1) (ρ x2) (ρ x3) (ρ x4) := by kernel_rfl
theorem epB5_run (n : Int) (p : List Int) (lo hi : Int) (PA : Option Addr) (pc : Nat) (pu : List Pu) (RA : Option Addr) (rc : Nat) (rv : List (List Int)) (W : World) :
  (epB5 (.int .i64 n) (.agg (dgC p)) (.agg (pdC lo hi)) (.slice PA pu.length pc) (.slice RA rv.length rc)).run Tryz.prog W = .ok (.value (.agg (epC ⟨n, p, lo, hi, PA, pc, pu, RA, rc, rv, 0, zeros32 16⟩))) W := by kernel_rfl
def epB0 : Sem Next := do pure (.value (← Instr.build 30 #[]))
theorem epB0_x (ρ : Operand → Value) (dst : Option Tmp) (t : TypeId) (pos : String) (after : Array Edge) (guard : Option (Nat × Bool)) : execOp ρ { dst, op := .build 30 #[], type := t, pos, after, guard } = epB0 := by kernel_rfl
theorem epB0_run (W : World) : epB0.run Tryz.prog W = .ok (.value (.agg (epC noEp))) W := by kernel_rfl
section
attribute [local go_sem ↓] epB5_x epB0_x
attribute [local go_sem] epB0_run pd_fits dg_fits pd_size
theorem issue_any (k : Ky) (A : Option Addr) (c : Nat) (l : List Ep) (s : Ep) (w : World) (hs : k.secret.size ≤ 64) (hki : i64 k.serial) (hl : l.length ≤ 100) (hc : ChAt w A l) (hok : EpOk s) (hsh : EpShort s) (ha : EpAt w s) (hk : KonstP w) :
  Calls Tryz.prog 36 #[.agg (kyC k), .slice A l.length c, .agg (pdC s.lo s.hi), .slice s.PA s.pu.length s.pc, .slice s.RA s.rv.length s.rc] w fun r w' => IssOut k l s w.heap.size r w' ∧ Ext w w' := by
 have HLa := lh (fun (W : World) (hx : Ext w W) => last_any2 A c l W hl (hc.on hx) (RowAt.ext hk hx))
 have HSe := lh (fun (W : World) (hx : Ext w W) => ssealEp_any k (nextEp l s) W hs hki (nextEp_ok hl hok) (nextEp_short hsh) ⟨(ha.on hx).pu, (ha.on hx).rv⟩ (RowAt.ext hk hx))
 have HFo := lh (fun (z : Ep) (W : World) (h1 : EpOk z) (h2 : EpShort z) (h3 : EpAt W z) (hx : Ext w W) => follows_any A c l z W hl (hc.on hx) h1 h2 h3 (RowAt.ext hk hx))
 have HSh := lh hsh
 have hfk := ky_fits k
 have hrun : ∀ W, (epB5 (.int .i64 ((l.length : Int) + 1)) (.agg (dgC (lastD l))) (.agg (pdC s.lo s.hi)) (.slice s.PA s.pu.length s.pc) (.slice s.RA s.rv.length s.rc)).run Tryz.prog W = .ok (.value (.agg (epC (nextEp l s)))) W := fun W => epB5_run _ _ _ _ _ _ _ _ _ _ W
 have hfn := ep_fits (nextEp l s)
 unfold SealOut at HSe
 have HEx : Hid (∀ A1 c1 A2 c2, sealEp k (memE (nextEp l s) A1 c1 A2 c2) = issueX k l (memE s A1 c1 A2 c2)) := lh (fun A1 c1 A2 c2 => issueX_mem k l s A1 c1 A2 c2)
 have HFm : Hid (∀ A1 c1 A2 c2, followsN l (issueX k l (memE s A1 c1 A2 c2)) = issueE k l s) := lh (fun A1 c1 A2 c2 => follows_mem k l s A1 c1 A2 c2)
 have HIs : Hid (∀ A1 c1 A2 c2, EpShort (issueX k l (memE s A1 c1 A2 c2))) := lh (fun A1 c1 A2 c2 => ⟨hsh.pu, hsh.rv, hsh.what⟩)
 clear hok hsh ha hk hc
 go_enter Tryz.func36, Tryz.ntmps36
 go_upto_region 1 with (fail)
 refine wp_world (fun W => Ext w W ∧ RowAt W w.heap.size (kyC k) ∧ RowAt W (w.heap.size + 1) (pdC s.lo s.hi) ∧ RowAt W (w.heap.size + 1 + 1) (epC noEp)) ⟨(by (with_reducible repeat first|exact eR _|apply eD|apply eN|apply eA|apply eO|apply eS|apply eC);all_goals first|omega|simp <;> omega), ((RowAt.new _ _ _).alloc _).alloc _, RowAt.alloc (RowAt.newAt (by simp)) _, RowAt.newAt (by simp)⟩ ?_
 obtain ⟨B, hB⟩ : ∃ B, w.heap.size = B := ⟨_, rfl⟩
 rw [hB]
 rintro W1 ⟨x1, u0, u1, u2⟩
 have HX1 := lh x1
 have HU0 := lh u0
 have HU1 := lh u1
 have HU2 := lh u2
 have hl1 := u2.lt
 clear x1 u0 u1 u2
 go_wp2_with (go_at_call 81; refine (show Hid _ from ?_).out)
 refine lh ?_
 refine (HLa.out W1 HX1.out).mono ?_
 rintro r w2 ⟨rfl, hx2⟩
 have HX2 := lh (HX1.out.trans hx2)
 have hs2 := hx2.size
 have HU02 := lh (HU0.out.ext hx2)
 have HU12 := lh (HU1.out.ext hx2)
 have HU22 := lh (HU2.out.ext hx2)
 generalize lastD l = LD at *
 generalize lastLo l = LL at *
 generalize lastHi l = LH at *
 clear hx2 HX1 HU0 HU1 HU2 HLa
 go_upto_region 2 with (fail)
 refine wp_world (fun W => Ext w W ∧ RowAt W B (kyC k) ∧ RowAt W (B + 1) (pdC s.lo s.hi) ∧ RowAt W (B + 1 + 1) (epC noEp) ∧ RowAt W w2.heap.size (dgC LD)) ⟨(by (with_reducible repeat first|exact HX2.out|exact eR _|apply eD|apply eN|apply eA|apply eO|apply eS|apply eC);all_goals first|omega|simp <;> omega), ?_, ?_, ?_, ?_⟩ ?_
 ·exact RowAt.others (RowAt.others ((HU02.out.alloc _).alloc _) (by omega) _ _) (by omega) _ _
 ·exact RowAt.others (RowAt.others ((HU12.out.alloc _).alloc _) (by omega) _ _) (by omega) _ _
 ·exact RowAt.others (RowAt.others ((HU22.out.alloc _).alloc _) (by omega) _ _) (by omega) _ _
 ·have z : RowAt ((w2.alloc (.cells (cells8 (zeros32 16)) 23)).alloc (.cells (pdC 0 0) 25)) w2.heap.size (cells8 (zeros32 16)) := (RowAt.new _ _ _).alloc _
  have h : (dgC LD).size = (cells8 (zeros32 16)).size := rfl
  have y := RowAt.store z h
  exact RowAt.others y (by omega) _ _
 obtain ⟨g, hg⟩ : ∃ g, w2.heap.size = g := ⟨_, rfl⟩
 rw [hg]
 rintro W3 ⟨x3, u0, u1, u2, u3⟩
 have HX3 := lh x3
 have HU23 := lh u2
 have hl3 := u3.lt
 have k0 : rowOf W3 B 0 5 = some (kyC k) := u0.all rfl (by omega)
 have k1 : rowOf W3 (B + 1) 0 2 = some (pdC s.lo s.hi) := u1.all rfl (by omega)
 have k3 : rowOf W3 g 0 16 = some (dgC LD) := u3.all rfl (by omega)
 clear x3 u0 u1 u2 u3 HX2 HU02 HU12 HU22
 go_wp2_with (go_at_call 82; refine (show Hid _ from ?_).out)
 refine lh ?_
 refine (HSe.out W3 HX3.out).mono ?_
 rintro r w4 ⟨⟨A1, c1, A2, c2, rfl, hat, hzo⟩, hx4⟩
 rw [HEx.out] at hat hzo ⊢
 have HX4 := lh (HX3.out.trans hx4)
 have HU24 := lh (HU23.out.ext hx4)
 have hs4 := HX4.out.size
 have hs43 := hx4.size
 have hfz := ep_fits (issueX k l (memE s A1 c1 A2 c2))
 have HAt := lh hat
 have HZo := lh hzo
 have HFz := lh (HFm.out A1 c1 A2 c2)
 have HZs := lh (HIs.out A1 c1 A2 c2)
 obtain ⟨E, hE⟩ : ∃ E, issueE k l s = E := ⟨_, rfl⟩
 rw [hE] at HFz
 clear hx4 hat hzo HX3 HU23 k0 k1 k3 HSe HEx HFm HIs
 go_upto_region 3 with (fail)
 refine wp_world (fun W => Ext w W ∧ RowAt W (B + 1 + 1) (epC noEp) ∧ RowAt W w4.heap.size (epC (issueX k l (memE s A1 c1 A2 c2))) ∧ OwnE W3.heap.size W (issueX k l (memE s A1 c1 A2 c2))) ⟨(by (with_reducible repeat first|exact HX4.out|exact eR _|apply eD|apply eN|apply eA|apply eO|apply eS|apply eC);all_goals first|omega|simp <;> omega), RowAt.others (HU24.out.alloc _) (by omega) _ _, RowAt.store (RowAt.new _ _ _) rfl, HAt.out.ext ((by (with_reducible repeat first|exact eR _|apply eD|apply eN|apply eA|apply eO|apply eS|apply eC);all_goals first|omega|simp <;> omega))⟩ ?_
 obtain ⟨g2, hg2⟩ : ∃ g2, w4.heap.size = g2 := ⟨_, rfl⟩
 rw [hg2]
 rintro W5 ⟨x5, u2, u3, hat5⟩
 have HX5 := lh x5
 have HU25 := lh u2
 have HAt5 := lh hat5
 have k5 : rowOf W5 g2 0 38 = some (epC (issueX k l (memE s A1 c1 A2 c2))) := u3.all rfl (by omega)
 have m5 : roomOf W5 (B + 1 + 1) 0 38 = true := by rw [u2.room]; rfl
 have hl5 := u3.lt
 have hl25 := u2.lt
 have HF5 := lh (HFo.out _ W5 HZo.out HZs.out hat5.at x5)
 rw [HFz.out] at HF5
 have HEq := lh hE
 obtain ⟨z, hz⟩ : ∃ z, issueX k l (memE s A1 c1 A2 c2) = z := ⟨_, rfl⟩
 have HZ := lh hz
 rw [hz] at HF5 HAt5 k5 hfz HZo HZs
 clear x5 u2 u3 hat5 HX4 HU24 HAt HFz HFo hE hz
 go_wp2_with (go_at_call 38; refine (show Hid _ from ?_).out)
 refine lh ?_
 refine HF5.out.mono ?_
 rintro e w' ⟨rfl, hxl⟩; obtain ⟨xl, rfl⟩ := hxl.asLater; clear hxl
 by_cases e0 : E = 0
 ·subst e0
  go_wp2
  refine post_two Tryz.results36 rfl ⟨_, rfl, run_loadVar_row ep_ty (RowAt.all (n := 38) (RowAt.store (HU25.out.later xl) (show (epC z).size = (epC noEp).size from rfl)) rfl (by omega))⟩ rfl ⟨.inl ⟨HEq.out, A1, c1, A2, c2, by rw [HZ.out]; rfl, ?_, by rw [HZ.out]; exact HZo.out⟩, (by (with_reducible repeat first|exact HX5.out|exact eR _|apply eD|apply eN|apply eA|apply eO|apply eS|apply eC);all_goals first|omega|simp <;> omega)⟩
  rw [HZ.out]
  exact ((HAt5.out.ext (ext_later W5 xl)).others (by omega) _ _).lower (by omega)
 ·have de : (E != 0) = true := by simpa using e0
  go_wp2
  exact post_two Tryz.results36 rfl ⟨_, rfl, run_loadVar_row ep_ty (RowAt.all (n := 38) (RowAt.store (HU25.out.later xl) (show (epC noEp).size = (epC noEp).size from rfl)) rfl (by omega))⟩ rfl ⟨.inr ⟨by rw [HEq.out]; exact e0, by rw [HEq.out]; rfl⟩, (by (with_reducible repeat first|exact HX5.out|exact eR _|apply eD|apply eN|apply eA|apply eO|apply eS|apply eC);all_goals first|omega|simp <;> omega)⟩
end
end Go.Proofs.YtpojnhikgjcgmaaGreatDoor

namespace Go.Proofs.YtpojnhikgjcgmaaGreatDoor
open Go.RowKit Go.Shelf
open Go.Proofs
open Ad (Bs cutB)
def adA : ByteArray := ⟨#[97, 99, 109, 101, 47, 97]⟩
def adAB : ByteArray := ⟨#[97, 99, 109, 101, 47, 97, 47, 98]⟩
def adab : ByteArray := ⟨#[97, 99, 109, 101, 47, 97, 98]⟩
def adQ : ByteArray := ⟨#[97, 99, 109, 101, 47, 97, 63, 120, 61, 49]⟩
def adX : ByteArray := ⟨#[97, 99, 109, 101, 47, 120]⟩
def boltX : ByteArray := ⟨#[98, 111, 108, 116, 47, 120]⟩
def adN : ByteArray := ⟨#[97, 99, 109, 101, 58, 110, 101, 119, 115]⟩
def hotN : ByteArray := ⟨#[104, 111, 116, 44, 110, 101, 119, 115]⟩
def newsB : ByteArray := ⟨#[110, 101, 119, 115]⟩
def noB : ByteArray := ⟨#[]⟩
def puA : Pu := ⟨1, adA, false⟩
def puP : Pu := ⟨2, adA, false⟩
def puN : Pu := ⟨3, adN, false⟩
def puS : Pu := ⟨3, adN, true⟩
theorem hit_1 : hitsB puA (bsT adA) (bsT noB) = true := by rw [hits1 rfl]; decide
theorem hit_2 : hitsB puA (bsT adAB) (bsT noB) = false := by rw [hits1 rfl]; decide
theorem hit_3 : hitsB puP (bsT adAB) (bsT noB) = true := by rw [hits2 rfl]; decide +kernel
theorem hit_4 : hitsB puP (bsT adab) (bsT noB) = false := by rw [hits2 rfl]; decide +kernel
theorem hit_5 : hitsB puP (bsT adQ) (bsT noB) = true := by rw [hits2 rfl]; decide +kernel
theorem tags_hot : Tg.tagsB (bsT hotN) = true := by
 rw [Tg.tags_of (l := [[104, 111, 116], [110, 101, 119, 115]]) (m := [[104, 111, 116], [110, 101, 119, 115]]) (by have := Ad.pieces_cut 44 (bsT hotN); rwa [show Ad.pieces 44 (bsT hotN) = [[104, 111, 116], [110, 101, 119, 115]] from by decide +kernel] at this) (by decide) (by decide +kernel) (by unfold Tg.Asc; decide +kernel) (fun x => Iff.rfl) (by decide)]
 decide +kernel
theorem tags_news : Tg.tagsB (bsT newsB) = true := by
 rw [Tg.tags_of (l := [[110, 101, 119, 115]]) (m := [[110, 101, 119, 115]]) (by have := Ad.pieces_cut 44 (bsT newsB); rwa [show Ad.pieces 44 (bsT newsB) = [[110, 101, 119, 115]] from by decide +kernel] at this) (by decide) (by decide +kernel) (by unfold Tg.Asc; decide +kernel) (fun x => Iff.rfl) (by decide)]
 decide +kernel
theorem split_hot : splitT (bsT hotN) = [[104, 111, 116], [110, 101, 119, 115]] := by unfold splitT; rw [if_neg (by decide), if_pos tags_hot]; decide +kernel
theorem split_news : splitT (bsT newsB) = [[110, 101, 119, 115]] := by unfold splitT; rw [if_neg (by decide), if_pos tags_news]; decide +kernel
theorem hit_6 : hitsB puN (bsT adX) (bsT hotN) = true := by rw [hits3 (by decide) (by decide), split_hot]; decide +kernel
theorem hit_7 : hitsB puN (bsT boltX) (bsT hotN) = false := by rw [hits3 (by decide) (by decide), split_hot]; decide +kernel
theorem hit_8 : hitsB puN (bsT adX) (bsT newsB) = true := by rw [hits3 (by decide) (by decide), split_news]; decide +kernel
theorem hit_9 : hitsB puS (bsT adX) (bsT newsB) = true := by rw [hits3 (by decide) (by decide), split_news]; decide +kernel
def e1E (A : Option Addr) (p : Pu) : Ep := ⟨1, zeros32 16, 10, 20, A, 1, [p], none, 0, [], 0, zeros32 16⟩
def e1S (lo hi : Int) : St := ⟨adX, ByteArray.empty, 0, 0, zeros32 16, newsB, lo, hi, 0, 0, zeros32 16⟩
theorem rem_1 (A : Option Addr) : removesB (e1E A puN) 20 (bsT adX) (bsT newsB) = 2 := by
 unfold removesB
 rw [if_neg (by show ¬ (20 : Int) < 20; omega)]
 show (if ([puN].any fun p => hitsB p (bsT adX) (bsT newsB) && !p.soft) = true then (2 : Int) else _) = 2
 rw [if_pos]
 rw [List.any_cons, hit_8]
 rfl
theorem rem_2 (A : Option Addr) : removesB (e1E A puN) 21 (bsT adX) (bsT newsB) = 0 := by
 unfold removesB
 rw [if_pos (by show (20 : Int) < 21; omega)]
theorem rem_3 (A : Option Addr) : removesB (e1E A puS) 5 (bsT adX) (bsT newsB) = 1 := by
 unfold removesB
 rw [if_neg (by show ¬ (20 : Int) < 5; omega)]
 show (if ([puS].any fun p => hitsB p (bsT adX) (bsT newsB) && !p.soft) = true then (2 : Int) else if ([puS].any fun p => hitsB p (bsT adX) (bsT newsB)) = true then 1 else 0) = 1
 rw [if_neg, if_pos]
 ·rw [List.any_cons, hit_9]; rfl
 ·rw [List.any_cons, hit_9]; decide
def e1K : Ky := ⟨1, 1, ⟨#[115]⟩, 0, 100⟩
def d7 : List Int := [7, 0, 0, 0, 0, 0, 0, 0, 0, 0, 0, 0, 0, 0, 0, 0]
def d8 : List Int := [8, 0, 0, 0, 0, 0, 0, 0, 0, 0, 0, 0, 0, 0, 0, 0]
def e1I (A A2 : Option Addr) : Ep := ⟨0, zeros32 16, 10, 20, A, 1, [puN], A2, 1, [d7], 0, zeros32 16⟩
theorem okPu_N : okPu puN = true := by decide +kernel
theorem okEp_e1 (A : Option Addr) : okEp (e1E A puN) = true := by
 unfold okEp
 show (decide ((1 : Int) ≥ 1) && decide ((1 : Int) ≤ 1099511627776) && okClk ⟨10, 20⟩ && decide (max (([puN] : List Pu).length : Int) (([] : List (List Int)).length : Int) ≤ 1000) && [puN].all okPu) = true
 rw [List.all_cons, okPu_N]
 decide
theorem iss_e1 (A A2 : Option Addr) : issueE e1K [] (e1I A A2) = 0 := by
 have h : okEp (issueX e1K [] (e1I A A2)) = true := by
  unfold okEp
  show (decide (((([] : List Ep).length : Int)) + 1 ≥ 1) && decide (((([] : List Ep).length : Int)) + 1 ≤ 1099511627776) && okClk ⟨10, 20⟩ && decide (max (([puN] : List Pu).length : Int) (([d7] : List (List Int)).length : Int) ≤ 1000) && [puN].all okPu) = true
  rw [List.all_cons, okPu_N]
  decide
 unfold issueE followsN
 rw [if_pos h, if_pos ⟨rfl, rfl⟩, if_neg]
 show ¬ ((10 : Int) < 0 ∨ (20 : Int) < 0)
 omega
theorem ring_e1 : RingOk [e1K] := ringB_is (by decide +kernel)
theorem app_e1 (A A2 : Option Addr) : appendE [e1K] [] (issueX e1K [] (e1I A A2)) = 0 := by
 have hf : followsN [] (issueX e1K [] (e1I A A2)) = 0 := iss_e1 A A2
 unfold appendE
 rw [if_pos hf]
 unfold checkEp checkR checkOut
 have h0 : keyN [e1K] 1 1 = some e1K := rfl
 have h1 : keyE [e1K] 1 1 = 0 := by unfold keyE; rw [h0]; rfl
 have h2 : keyF [e1K] 1 1 = e1K := by unfold keyF; rw [h0]; rfl
 show (if keyE [e1K] 1 1 = 0 then if countB (keyF [e1K] 1 1) 10 20 = true then if makeN (keyF [e1K] 1 1) 42 (epParts { nextEp [] (e1I A A2) with serial := 1 }) = makeN e1K 42 (epParts { nextEp [] (e1I A A2) with serial := 1 }) then 0 else 8 else 9 else keyE [e1K] 1 1) = 0
 rw [if_pos h1, h2, if_pos (by decide), if_pos rfl]
theorem okEp_i1 (A A2 : Option Addr) : okEp (issueX e1K [] (e1I A A2)) = true := (follows_is (iss_e1 A A2)).1
theorem tab_e1 (A A2 : Option Addr) : tableB [issueX e1K [] (e1I A A2)] 20 (bsT adX) (bsT newsB) = 2 := by
 rw [table_state (fun e he => by rw [List.mem_singleton] at he; rw [he]; exact okEp_i1 A A2) (by decide +kernel)]
 have h : removesB (issueX e1K [] (e1I A A2)) 20 (bsT adX) (bsT newsB) = 2 := by
  unfold removesB
  rw [if_neg (by show ¬ (20 : Int) < 20; omega)]
  show (if ([puN].any fun p => hitsB p (bsT adX) (bsT newsB) && !p.soft) = true then (2 : Int) else _) = 2
  rw [if_pos]
  rw [List.any_cons, hit_8]
  rfl
 unfold stateB
 rw [List.foldl_cons, List.foldl_nil, h]
 rfl
theorem rev_7 (A A2 : Option Addr) : revokedB [issueX e1K [] (e1I A A2)] d7 = true := by
 show (([d7].any fun x => decide (x = d7)) || false) = true
 decide
theorem rev_8 (A A2 : Option Addr) : revokedB [issueX e1K [] (e1I A A2)] d8 = false := by
 show (([d7].any fun x => decide (x = d8)) || false) = false
 decide
theorem num_e1 (A A2 : Option Addr) : lastNum [issueX e1K [] (e1I A A2)] = 1 := rfl
theorem d7_ok : DgOk d7 := ⟨rfl, by unfold Byt d7; decide⟩
theorem d8_ok : DgOk d8 := ⟨rfl, by unfold Byt d8; decide⟩
theorem e1I_ok (b b2 : Nat) : EpOk (e1I (some ⟨b, 0, none⟩) (some ⟨b2, 0, none⟩)) ∧ EpShort (e1I (some ⟨b, 0, none⟩) (some ⟨b2, 0, none⟩)) := by
 refine ⟨⟨zeros_ok, zeros_ok, ?_, ?_, ?_, by simp [e1I], by simp [e1I], by simp [e1I], by simp [e1I], fun h => by simp [e1I] at h, fun h => by simp [e1I] at h⟩, ⟨by simp [e1I], by simp [e1I], ?_⟩⟩
 ·intro d hd
  simp only [e1I, List.mem_singleton] at hd
  rw [hd]; exact d7_ok
 ·intro x hx
  simp only [e1I, List.mem_cons, List.not_mem_nil, or_false] at hx
  unfold i64
  rcases hx with rfl | rfl | rfl | rfl <;> omega
 ·intro q hq
  simp only [e1I, List.mem_singleton] at hq
  subst hq
  exact ⟨by unfold i64; decide, by decide⟩
 ·intro q hq
  simp only [e1I, List.mem_singleton] at hq
  subst hq
  decide
end Go.Proofs.YtpojnhikgjcgmaaGreatDoor

namespace Go.Proofs.YtpojnhikgjcgmaaGreatDoor
open Go.RowKit Go.Shelf Go.Maps
open Go.Proofs
def puB2 (x y : Value) : Sem Next := do pure (.value (← Instr.build 39 #[(0, x), (1, y)]))
theorem puB2_x (ρ : Operand → Value) (dst : Option Tmp) (x y : Operand) (t : TypeId) (pos : String) (after : Array Edge) (guard : Option (Nat × Bool)) : execOp ρ { dst, op := .build 39 #[(0, x), (1, y)], type := t, pos, after, guard } = puB2 (ρ x) (ρ y) := by kernel_rfl
theorem puB2_run (k : Int) (s : ByteArray) (W : World) : (puB2 (.int .i64 k) (.string s)).run Tryz.prog W = .ok (.value (.agg (puC ⟨k, s, false⟩))) W := by kernel_rfl
def puB3 (x y z : Value) : Sem Next := do pure (.value (← Instr.build 39 #[(0, x), (1, y), (2, z)]))
theorem puB3_x (ρ : Operand → Value) (dst : Option Tmp) (x y z : Operand) (t : TypeId) (pos : String) (after : Array Edge) (guard : Option (Nat × Bool)) : execOp ρ { dst, op := .build 39 #[(0, x), (1, y), (2, z)], type := t, pos, after, guard } = puB3 (ρ x) (ρ y) (ρ z) := by kernel_rfl
theorem puB3_run (k : Int) (s : ByteArray) (b : Bool) (W : World) : (puB3 (.int .i64 k) (.string s) (.bool b)).run Tryz.prog W = .ok (.value (.agg (puC ⟨k, s, b⟩))) W := by kernel_rfl
def pdB2 (x y : Value) : Sem Next := do pure (.value (← Instr.build 25 #[(0, x), (1, y)]))
theorem pdB2_x (ρ : Operand → Value) (dst : Option Tmp) (x y : Operand) (t : TypeId) (pos : String) (after : Array Edge) (guard : Option (Nat × Bool)) : execOp ρ { dst, op := .build 25 #[(0, x), (1, y)], type := t, pos, after, guard } = pdB2 (ρ x) (ρ y) := by kernel_rfl
theorem pdB2_run (a b : Int) (W : World) : (pdB2 (.int .i64 a) (.int .i64 b)).run Tryz.prog W = .ok (.value (.agg (pdC a b))) W := by kernel_rfl
def epB3 (x0 x2 x3 : Value) : Sem Next := do pure (.value (← Instr.build 30 #[(0, x0), (2, x2), (3, x3)]))
theorem epB3_x (ρ : Operand → Value) (dst : Option Tmp) (x0 x2 x3 : Operand) (t : TypeId) (pos : String) (after : Array Edge) (guard : Option (Nat × Bool)) : execOp ρ { dst, op := .build 30 #[(0, x0), (2, x2), (3, x3)], type := t, pos, after, guard } = epB3 (ρ x0) (ρ x2) (ρ x3) := by kernel_rfl
theorem epB3_run (A : Option Addr) (p : Pu) (W : World) : (epB3 (.int .i64 1) (.agg (pdC 10 20)) (.slice A 1 1)).run Tryz.prog W = .ok (.value (.agg (epC (e1E A p)))) W := by kernel_rfl
def stB3 (x0 x5 x6 : Value) : Sem Next := do pure (.value (← Instr.build 32 #[(0, x0), (5, x5), (6, x6)]))
theorem stB3_x (ρ : Operand → Value) (dst : Option Tmp) (x0 x5 x6 : Operand) (t : TypeId) (pos : String) (after : Array Edge) (guard : Option (Nat × Bool)) : execOp ρ { dst, op := .build 32 #[(0, x0), (5, x5), (6, x6)], type := t, pos, after, guard } = stB3 (ρ x0) (ρ x5) (ρ x6) := by kernel_rfl
theorem stB3_run (lo hi : Int) (W : World) : (stB3 (.string ⟨#[97, 99, 109, 101, 47, 120]⟩) (.string ⟨#[110, 101, 119, 115]⟩) (.agg (pdC lo hi))).run Tryz.prog W = .ok (.value (.agg (stmC (e1S lo hi)))) W := by kernel_rfl
def kyY4 (x0 x1 x2 x4 : Value) : Sem Next := do pure (.value (← Instr.build 44 #[(0, x0), (1, x1), (2, x2), (4, x4)]))
theorem kyY4_x (ρ : Operand → Value) (dst : Option Tmp) (x0 x1 x2 x4 : Operand) (t : TypeId) (pos : String) (after : Array Edge) (guard : Option (Nat × Bool)) : execOp ρ { dst, op := .build 44 #[(0, x0), (1, x1), (2, x2), (4, x4)], type := t, pos, after, guard } = kyY4 (ρ x0) (ρ x1) (ρ x2) (ρ x4) := by kernel_rfl
theorem kyY4_run (W : World) : (kyY4 (.int .i64 1) (.int .i64 1) (.string ⟨#[115]⟩) (.int .i64 100)).run Tryz.prog W = .ok (.value (.agg (kyC e1K))) W := by kernel_rfl
def dgB1 (x0 : Value) : Sem Next := do pure (.value (← Instr.build 23 #[(0, x0)]))
theorem dgB1_x (ρ : Operand → Value) (dst : Option Tmp) (x0 : Operand) (t : TypeId) (pos : String) (after : Array Edge) (guard : Option (Nat × Bool)) : execOp ρ { dst, op := .build 23 #[(0, x0)], type := t, pos, after, guard } = dgB1 (ρ x0) := by kernel_rfl
theorem dgB1_7 (W : World) : (dgB1 (.int .u8 7)).run Tryz.prog W = .ok (.value (.agg (dgC d7))) W := by kernel_rfl
theorem dgB1_8 (W : World) : (dgB1 (.int .u8 8)).run Tryz.prog W = .ok (.value (.agg (dgC d8))) W := by kernel_rfl
section
attribute [local go_sem ↓] puB2_x puB3_x pdB2_x epB3_x stB3_x kyY4_x dgB1_x
attribute [local go_sem] puB2_run puB3_run pdB2_run stB3_run kyY4_run dgB1_7 dgB1_8 pd_fits dg_fits pd_size pu_fits tab_fits tab_size
theorem at_one1 (W : World) (cs : Array Value) (T : TypeId) (p : Pu) (g : Nat) (hg : g = W.heap.size) (h : cs.toList = [p].flatMap puL) (cs2 : Array Value) (T2 : TypeId) (vs : List Value) (b : Nat) (hb : g + 1 ≤ b) :
  EpAt (((W.alloc (.cells cs T)).alloc (.cells cs2 T2)).setCells b 0 vs) (e1E (some ⟨g, 0, none⟩) p) :=
 ⟨Reads.on (reads_freshB puE [p] W cs T h g hg) (Ext.setCells (Ext.alloc (eR _) _) (by rw [World.size_alloc, ← hg]; exact hb) _ _), Reads.nil _ _ _ _ _⟩
theorem at_one2 (W : World) (cs : Array Value) (T : TypeId) (p : Pu) (g : Nat) (hg : g = W.heap.size) (h : cs.toList = [p].flatMap puL) :
  EpAt (W.alloc (.cells cs T)) (e1E (some ⟨g, 0, none⟩) p) := ⟨reads_freshB puE [p] W cs T h g hg, Reads.nil _ _ _ _ _⟩
theorem app_m (k : Ky) (s : Ep) (A : Option Addr) (c : Nat) (A2 : Option Addr) (c2 : Nat) : appendE [k] [] (issueX k [] (memE s A c A2 c2)) = appendE [k] [] (issueX k [] s) := rfl
theorem tab_m (k : Ky) (s : Ep) (A : Option Addr) (c : Nat) (A2 : Option Addr) (c2 : Nat) (lo : Int) (a t : Ad.Bs) : tableB [issueX k [] (memE s A c A2 c2)] lo a t = tableB [issueX k [] s] lo a t := rfl
theorem rev_m (k : Ky) (s : Ep) (A : Option Addr) (c : Nat) (A2 : Option Addr) (c2 : Nat) (d : List Int) : revokedB [issueX k [] (memE s A c A2 c2)] d = revokedB [issueX k [] s] d := rfl
theorem num_m (k : Ky) (s : Ep) (A : Option Addr) (c : Nat) (A2 : Option Addr) (c2 : Nat) : lastNum [issueX k [] (memE s A c A2 c2)] = lastNum [issueX k [] s] := rfl
theorem short_m (k : Ky) (s : Ep) (A : Option Addr) (c : Nat) (A2 : Option Addr) (c2 : Nat) (h : EpShort s) : EpShort (issueX k [] (memE s A c A2 c2)) := ⟨h.pu, h.rv, h.what⟩
theorem at_dg (W : World) (cs : Array Value) (T : TypeId) (d : List Int) (A : Option Addr) (p : Pu) (g : Nat) (hg : g = W.heap.size) (h : cs.toList = [d].flatMap dgL) (hp : Reads 3 puL W W.heap.size A [p]) (hd : d = d7) (hpp : p = puN) : EpAt (W.alloc (.cells cs T)) (e1I A (some ⟨g, 0, none⟩)) := by
 subst hd hpp
 exact ⟨hp.on ((eR _).alloc _), reads_freshB dgE [d7] W cs T h g hg⟩
theorem asc_x : ∀ c ∈ bsT adX, c.toNat < 128 := by decide
theorem esanity_any (w : World) (hk : KonstP w) : Calls Tryz.prog 12 #[] w fun r w' => r = .returned (.bool true) ∧ Ext w w' := by
 have HH : Hid (∀ (p : Pu) (a t : ByteArray) (b : Bool), hitsB p (bsT a) (bsT t) = b → p.what.size ≤ 900000 → a.size ≤ 900000 → t.size ≤ 900000 → (∀ c ∈ bsT a, c.toNat < 128) → ∀ W, Calls Tryz.prog 18 #[.agg (puC p), .string a, .string t] W fun r w' => r = .returned (.bool b) ∧ Ext W w') := lh (fun p a t b hb h1 h2 h3 h4 W => by
  have h := hits_any p a t W h1 h2 h3 h4
  rwa [hb] at h)
 have HK : Hid (KonstP w) := lh hk
 have hfA := pu_fits puA
 have hfP := pu_fits puP
 have hfN := pu_fits puN
 clear hk
 go_enter Tryz.func12, Tryz.ntmps12
 go_upto_region 2 with (fail)
 obtain ⟨B, hB⟩ : ∃ B, w.heap.size = B := ⟨_, rfl⟩
 refine wp_world (fun W => Ext w W ∧ RowAt W w.heap.size (puC puA) ∧ RowAt W (w.heap.size + 1) (puC puP) ∧ RowAt W (w.heap.size + 1 + 1) (puC puN)) ⟨(by (with_reducible repeat first|exact eR _|apply eD|apply eN|apply eA|apply eO|apply eS|apply eC);all_goals first|omega|simp <;> omega), ?_, ?_, ?_⟩ ?_
 ·have z : RowAt (((w.alloc (.cells (puC noPu) 39)).alloc (.cells (puC noPu) 39)).alloc (.cells (puC noPu) 39)) w.heap.size (puC noPu) := ((RowAt.new _ _ _).alloc _).alloc _
  have y := RowAt.store z (show (puC puA).size = (puC noPu).size from rfl)
  exact RowAt.others (RowAt.others y (by omega) _ _) (by omega) _ _
 ·have z : RowAt (((w.alloc (.cells (puC noPu) 39)).alloc (.cells (puC noPu) 39)).alloc (.cells (puC noPu) 39)) (w.heap.size + 1) (puC noPu) := RowAt.alloc (RowAt.newAt (by simp)) _
  have y := RowAt.store (RowAt.others z (show w.heap.size + 1 ≠ w.heap.size by omega) 0 (puC puA).toList) (show (puC puP).size = (puC noPu).size from rfl)
  exact RowAt.others y (by omega) _ _
 ·have z : RowAt (((w.alloc (.cells (puC noPu) 39)).alloc (.cells (puC noPu) 39)).alloc (.cells (puC noPu) 39)) (w.heap.size + 1 + 1) (puC noPu) := RowAt.newAt (by simp)
  exact RowAt.store (RowAt.others (RowAt.others z (show w.heap.size + 1 + 1 ≠ w.heap.size by omega) 0 (puC puA).toList) (show w.heap.size + 1 + 1 ≠ w.heap.size + 1 by omega) 0 (puC puP).toList) (show (puC puN).size = (puC noPu).size from rfl)
 rw [hB]
 rintro W1 ⟨x1, u0, u1, u2⟩
 have HX1 := lh x1
 have HU2 := lh u2
 have hl2 := u2.lt
 have k0 : rowOf W1 B 0 3 = some (puC puA) := u0.all rfl (by omega)
 have k1 : rowOf W1 (B + 1) 0 3 = some (puC puP) := u1.all rfl (by omega)
 clear x1 u0 u1 u2
 go_wp2_with (go_at_call 18; refine (show Hid _ from ?_).out)
 refine lh ?_
 refine (HH.out puA adA noB true hit_1 (by decide) (by decide) (by decide) (by decide) _).mono ?_
 rintro e w' ⟨rfl, hxl⟩; obtain ⟨xl, rfl⟩ := hxl.asLater; clear hxl
 go_wp2_with (go_at_call 18; refine (show Hid _ from ?_).out)
 refine lh ?_
 refine (HH.out puA adAB noB false hit_2 (by decide) (by decide) (by decide) (by decide) _).mono ?_
 rintro e w' ⟨rfl, hxl⟩; obtain ⟨xl, rfl⟩ := hxl.asLater; clear hxl
 go_wp2_with (go_at_call 18; refine (show Hid _ from ?_).out)
 refine lh ?_
 refine (HH.out puP adAB noB true hit_3 (by decide) (by decide) (by decide) (by decide) _).mono ?_
 rintro e w' ⟨rfl, hxl⟩; obtain ⟨xl, rfl⟩ := hxl.asLater; clear hxl
 go_wp2_with (go_at_call 18; refine (show Hid _ from ?_).out)
 refine lh ?_
 refine (HH.out puP adab noB false hit_4 (by decide) (by decide) (by decide) (by decide) _).mono ?_
 rintro e w' ⟨rfl, hxl⟩; obtain ⟨xl, rfl⟩ := hxl.asLater; clear hxl
 go_wp2_with (go_at_call 18; refine (show Hid _ from ?_).out)
 refine lh ?_
 refine (HH.out puP adQ noB true hit_5 (by decide) (by decide) (by decide) (by decide) _).mono ?_
 rintro e w' ⟨rfl, hxl⟩; obtain ⟨xl, rfl⟩ := hxl.asLater; clear hxl
 go_upto_region 3 with (fail)
 refine wp_world (fun W => Ext w W ∧ RowAt W (B + 1 + 1) (puC puN)) ⟨(by (with_reducible repeat first|exact HX1.out|exact eR _|apply eD|apply eN|apply eA|apply eO|apply eS|apply eC);all_goals first|omega|simp <;> omega), (by (repeat (first | with_reducible exact HU2.out | with_reducible refine RowAt.drew ?_ | with_reducible refine RowAt.later ?_ _ | with_reducible exact RowAt.newAt (by first | rfl | omega | (simp [later_size, setCells_size]; done) | (simp [later_size, setCells_size]; omega)) | with_reducible refine RowAt.alloc ?_ _ | with_reducible apply RowAt.store | with_reducible refine RowAt.others ?_ ?_ _ _ | with_reducible refine RowAt.other ?_ ?_ _)); all_goals first | omega | (simp; done) | (simp; omega) | (simp [go_sem]; done))⟩ ?_
 rintro W2 ⟨x2, u2⟩
 have HX2 := lh x2
 have HU2' := lh u2
 have hl22 := u2.lt
 have k2 : rowOf W2 (B + 1 + 1) 0 3 = some (puC puN) := u2.all rfl (by omega)
 clear x2 u2 HX1 HU2 k0 k1 hl2
 go_wp2_with (go_at_call 18; refine (show Hid _ from ?_).out)
 refine lh ?_
 refine (HH.out puN adX hotN true hit_6 (by decide) (by decide) (by decide) (by decide) _).mono ?_
 rintro r w' ⟨rfl, hxl⟩
 obtain ⟨xq1, rfl⟩ := hxl.asLater
 clear hxl
 go_wp2_with (go_at_call 18; refine (show Hid _ from ?_).out)
 refine lh ?_
 refine (HH.out puN boltX hotN false hit_7 (by decide) (by decide) (by decide) (by decide) _).mono ?_
 rintro r w' ⟨rfl, hxl⟩
 obtain ⟨xq2, rfl⟩ := hxl.asLater
 clear hxl
 have hE : ∀ A W, (epB3 (.int .i64 1) (.agg (pdC 10 20)) (.slice A 1 1)).run Tryz.prog W = .ok (.value (.agg (epC (e1E A puN)))) W := fun A W => epB3_run A puN W
 have hfE : ∀ A p, fitsRow 38 (epC (e1E A p)) = true := fun A p => ep_fits _
 go_upto_region 5 with (fail)
 obtain ⟨g, hg⟩ : ∃ g, W2.heap.size + (xq1.comp xq2).n = g := ⟨_, rfl⟩
 have hgl : W2.heap.size ≤ g := by omega
 rw [hg]
 refine wp_world (fun W => Ext w W ∧ RowAt W (g + 1) (epC (e1E (some ⟨g, 0, none⟩) puN)) ∧ EpAt W (e1E (some ⟨g, 0, none⟩) puN)) ⟨?_, ?_, ?_⟩ ?_
 ·have hs := HX2.out.size
  exact (by (with_reducible repeat first|exact HX2.out|exact eR _|apply eD|apply eN|apply eA|apply eO|apply eS|apply eC);all_goals first|omega|simp <;> omega)
 ·exact RowAt.store (RowAt.newAt (by simp [later_size, hg])) rfl
 ·exact at_one1 (later W2 (xq1.comp xq2)) _ _ puN g (by rw [later_size, hg]) (by kernel_rfl) _ _ _ _ (Nat.le_refl _)
 clear HX2 HU2' hl22 k2 hE hg
 rintro W3 ⟨x3, u3, hat3⟩
 have HX3 := lh x3
 have HU3 := lh u3
 have HAt3 := lh hat3
 have hl3 := u3.lt
 clear x3 u3 hat3
 have hst1 := stm_fits (e1S 20 30)
 have hst2 := stm_fits (e1S 21 30)
 have hst3 := stm_fits (e1S 5 6)
 go_upto_region 6 with (fail)
 refine wp_world (fun W => Ext W3 W ∧ RowAt W W3.heap.size (stmC (e1S 20 30)) ∧ RowAt W (W3.heap.size + 1) (stmC (e1S 21 30))) ⟨?_, ?_, ?_⟩ ?_
 ·exact (by (with_reducible repeat first|exact eR _|apply eD|apply eN|apply eA|apply eO|apply eS|apply eC);all_goals first|omega|simp <;> omega)
 ·have z : RowAt ((W3.alloc (.cells (stmC noSt) 32)).alloc (.cells (stmC noSt) 32)) W3.heap.size (stmC noSt) := (RowAt.new _ _ _).alloc _
  have y := RowAt.store z (show (stmC (e1S 20 30)).size = (stmC noSt).size from rfl)
  exact RowAt.others y (by omega) _ _
 ·have z : RowAt ((W3.alloc (.cells (stmC noSt) 32)).alloc (.cells (stmC noSt) 32)) (W3.heap.size + 1) (stmC noSt) := RowAt.newAt (by simp)
  exact RowAt.store (RowAt.others z (show W3.heap.size + 1 ≠ W3.heap.size by omega) 0 (stmC (e1S 20 30)).toList) (show (stmC (e1S 21 30)).size = (stmC noSt).size from rfl)
 obtain ⟨h, hh⟩ : ∃ h, W3.heap.size = h := ⟨_, rfl⟩
 rw [hh]
 rintro W4 ⟨x4, u7, u8⟩
 have HX4 := lh (HX3.out.trans x4)
 have HU34 := lh (HU3.out.ext x4)
 have HAt4 := lh (HAt3.out.on x4)
 have HU7 := lh u7
 have HU8 := lh u8
 have hl4 := u8.lt
 have hs4 := x4.size
 have k6 : rowOf W4 (g + 1) 0 38 = some (epC (e1E (some ⟨g, 0, none⟩) puN)) := HU34.out.all rfl (by omega)
 clear x4 u7 u8 HX3 HU3 HAt3
 go_upto_region 8 with (fail)
 have hset : ∀ A A', (epC (e1E A puN)).setIfInBounds 19 (.slice A' 1 1) = epC (e1E A' puS) := fun A A' => by kernel_rfl
 refine wp_world (fun W => Ext W4 W ∧ RowAt W W4.heap.size (epC (e1E (some ⟨W4.heap.size + 1, 0, none⟩) puS)) ∧ EpAt W (e1E (some ⟨W4.heap.size + 1, 0, none⟩) puS)) ⟨?_, ?_, ?_⟩ ?_
 ·exact (by (with_reducible repeat first|exact eR _|apply eD|apply eN|apply eA|apply eO|apply eS|apply eC);all_goals first|omega|simp <;> omega)
 ·have z : RowAt (W4.alloc (.cells (epC noEp) 30)) W4.heap.size (epC noEp) := RowAt.new _ _ _
  have y := RowAt.store z (show (epC (e1E (some ⟨g, 0, none⟩) puN)).size = (epC noEp).size from rfl)
  have x := y.set 19 (.slice (some ⟨W4.heap.size + 1, 0, none⟩) 1 1)
  rw [hset] at x
  exact x.alloc _
 ·exact at_one2 _ _ _ puS (W4.heap.size + 1) (by simp [setCells_size]) (by kernel_rfl)
 obtain ⟨h9, hh9⟩ : ∃ h9, W4.heap.size = h9 := ⟨_, rfl⟩
 rw [hh9]
 rintro W5 ⟨x5, u9, hat9⟩
 have HX5 := lh (HX4.out.trans x5)
 have HU35 := lh (HU34.out.ext x5)
 have HAt5 := lh (HAt4.out.on x5)
 have HU75 := lh (HU7.out.ext x5)
 have HAt9 := lh hat9
 have hs5 := x5.size
 have hl5 := u9.lt
 have k6 : rowOf W5 (g + 1) 0 38 = some (epC (e1E (some ⟨g, 0, none⟩) puN)) := HU35.out.all rfl (by omega)
 have k7 : rowOf W5 h 0 41 = some (stmC (e1S 20 30)) := HU75.out.all rfl (by omega)
 have k8 : rowOf W5 (h + 1) 0 41 = some (stmC (e1S 21 30)) := (HU8.out.ext x5).all rfl (by omega)
 have k9 : rowOf W5 h9 0 38 = some (epC (e1E (some ⟨h9 + 1, 0, none⟩) puS)) := u9.all rfl (by omega)
 clear x5 u9 hat9 HX4 HU34 HAt4 HU7 HU8 hset
 have HRm : Hid (∀ (e : Ep) (s : St) (v : Int) (W : World), removesB e s.lo (bsT s.addr) (bsT s.tags) = v → EpAt W e → e.pu.length ≤ 100000 → (∀ p ∈ e.pu, p.what.size ≤ 900000) → s.addr.size ≤ 900000 → s.tags.size ≤ 900000 → (∀ c ∈ bsT s.addr, c.toNat < 128) → Calls Tryz.prog 20 #[.agg (epC e), .agg (stmC s)] W fun r w' => r = .returned (.int .i64 v) ∧ Ext W w') := lh (fun e s v W hv h1 h2 h3 h4 h5 h6 => by
  have h := removes_any e s W h1 h2 h3 h4 h5 h6
  rwa [hv] at h)
 have hpN : ∀ A, ∀ p ∈ (e1E A puN).pu, p.what.size ≤ 900000 := fun A p hp => by
  simp only [e1E, List.mem_singleton] at hp
  rw [hp]
  decide
 have hpS : ∀ A, ∀ p ∈ (e1E A puS).pu, p.what.size ≤ 900000 := fun A p hp => by
  simp only [e1E, List.mem_singleton] at hp
  rw [hp]
  decide
 go_wp2_with (go_at_call 20; refine (show Hid _ from ?_).out)
 refine lh ?_
 refine (HRm.out (e1E (some ⟨g, 0, none⟩) puN) (e1S 20 30) 2 _ (rem_1 _) HAt5.out (by show 1 ≤ 100000; decide) (hpN _) (by decide) (by decide) asc_x).mono ?_
 rintro r w' ⟨rfl, hxl⟩
 obtain ⟨xr1, rfl⟩ := hxl.asLater
 clear hxl
 go_wp2_with (go_at_call 20; refine (show Hid _ from ?_).out)
 refine lh ?_
 refine (HRm.out (e1E (some ⟨g, 0, none⟩) puN) (e1S 21 30) 0 _ (rem_2 _) (HAt5.out.on (ext_later _ _)) (by show 1 ≤ 100000; decide) (hpN _) (by decide) (by decide) asc_x).mono ?_
 rintro r w' ⟨rfl, hxl⟩
 obtain ⟨xr2, rfl⟩ := hxl.asLater
 clear hxl
 go_wp2_with (go_at_call 20; refine (show Hid _ from ?_).out)
 refine lh ?_
 refine (HRm.out (e1E (some ⟨h9 + 1, 0, none⟩) puS) (e1S 5 6) 1 _ (rem_3 _) (HAt9.out.on (ext_later _ _)) (by show 1 ≤ 100000; decide) (hpS _) (by decide) (by decide) asc_x).mono ?_
 rintro r w' ⟨rfl, hxl⟩
 obtain ⟨xr3, rfl⟩ := hxl.asLater
 clear hxl
 have hfk := ky_fits e1K
 go_upto_region 10 with (fail)
 obtain ⟨q, hq⟩ : ∃ q, W5.heap.size + ((xr1.comp xr2).comp xr3).n = q := ⟨_, rfl⟩
 have hql : W5.heap.size ≤ q := by omega
 rw [hq]
 refine wp_world (fun W => Ext W5 W ∧ RowAt W q (kyC e1K)) ⟨?_, RowAt.store (RowAt.newAt (by simp [later_size, hq])) rfl⟩ ?_
 ·exact (by (with_reducible repeat first|exact eR _|apply eD|apply eN|apply eA|apply eO|apply eS|apply eC);all_goals first|omega|simp <;> omega)
 clear hq
 rintro W6 ⟨x6, u11⟩
 have HX6 := lh (HX5.out.trans x6)
 have HAt6 := lh (HAt5.out.on x6)
 have HU11 := lh u11
 have HU36 := lh (HU35.out.ext x6)
 have HU76 := lh (HU75.out.ext x6)
 have hs6 := x6.size
 have hl6 := u11.lt
 have k11 : rowOf W6 q 0 5 = some (kyC e1K) := u11.all rfl (by omega)
 have kpd : rowOf W6 (g + 1) 17 2 = some (pdC 10 20) := by rw [HU36.out.row, if_neg (by omega), ep_pd]; rfl
 have q19 : W6.cell? ⟨g + 1, 19, none⟩ = some (.slice (some ⟨g, 0, none⟩) 1 1) := (HU36.out.cell 19).trans (ep_g19 _)
 clear x6 u11 HX5 HU35 HAt5 HU75 HAt9 k6 k7 k8 k9 HRm hpN hpS
 go_wp2_with (go_at_call 36; refine (show Hid _ from ?_).out)
 refine lh ?_
 refine calls_world (fun W => Ext W6 W ∧ EpAt W (e1I (some ⟨g, 0, none⟩) (some ⟨W6.heap.size, 0, none⟩))) ⟨(eR _).alloc _, at_dg W6 _ _ d7 (some ⟨g, 0, none⟩) puN _ rfl (by kernel_rfl) HAt6.out.pu rfl rfl⟩ ?_
 obtain ⟨rb, hrb⟩ : ∃ rb, W6.heap.size = rb := ⟨_, rfl⟩
 rw [hrb]
 rintro W7 ⟨x7, hat7⟩
 have hs7 := x7.size
 refine (issue_any e1K none 0 [] (e1I (some ⟨g, 0, none⟩) (some ⟨rb, 0, none⟩)) W7 (by decide) (by unfold i64; decide) (by decide) ⟨Reads.nil _ _ _ _ _, fun e he => (by cases he)⟩ (e1I_ok g rb).1 (e1I_ok g rb).2 hat7 (RowAt.ext HK.out (HX6.out.trans x7))).mono ?_
 rintro r w8 ⟨hI, hx8⟩
 rcases hI with ⟨_, A, c, A2, c2, rfl, hown, hzo⟩ | ⟨hbad, _⟩
 case inr => exact absurd (iss_e1 _ _) hbad
 have hap := (app_m e1K (e1I (some ⟨g, 0, none⟩) (some ⟨rb, 0, none⟩)) A c A2 c2).trans (app_e1 _ _)
 have htb := (tab_m e1K (e1I (some ⟨g, 0, none⟩) (some ⟨rb, 0, none⟩)) A c A2 c2 20 (bsT adX) (bsT newsB)).trans (tab_e1 _ _)
 have hr7 := (rev_m e1K (e1I (some ⟨g, 0, none⟩) (some ⟨rb, 0, none⟩)) A c A2 c2 d7).trans (rev_7 _ _)
 have hr8 := (rev_m e1K (e1I (some ⟨g, 0, none⟩) (some ⟨rb, 0, none⟩)) A c A2 c2 d8).trans (rev_8 _ _)
 have hnm := (num_m e1K (e1I (some ⟨g, 0, none⟩) (some ⟨rb, 0, none⟩)) A c A2 c2).trans (num_e1 _ _)
 have hzs := short_m e1K (e1I (some ⟨g, 0, none⟩) (some ⟨rb, 0, none⟩)) A c A2 c2 (e1I_ok g rb).2
 generalize issueX e1K [] (memE (e1I (some ⟨g, 0, none⟩) (some ⟨rb, 0, none⟩)) A c A2 c2) = z at *
 have HAp := lh hap
 have HTb := lh htb
 have HR7 := lh hr7
 have HR8 := lh hr8
 have HNm := lh hnm
 have HZs := lh hzs
 have HZo := lh hzo
 have HX8 := lh ((HX6.out.trans x7).trans hx8)
 have hx68 : Ext W6 w8 := x7.trans hx8
 have HAt8 := lh (HAt6.out.on hx68)
 have HU38 := lh (HU36.out.ext hx68)
 have HU78 := lh (HU76.out.ext hx68)
 have HU118 := lh (HU11.out.ext hx68)
 have HZa := lh hown.at
 have hs8 := hx68.size
 have hfz := ep_fits z
 clear hap htb hr7 hr8 hnm hzs hzo hown hx8 hx68 x7 hat7 HX6 HAt6 HU36 HU76 HU11 k11 kpd q19
 go_upto_region 11 with (fail)
 have hxz : ∀ (c1 : Array Value) (T : TypeId) (vs : List Value), Ext w8 ((w8.alloc (.cells c1 T)).setCells w8.heap.size 0 vs) := fun c1 T vs => Ext.setCells (Ext.alloc (eR _) _) (Nat.le_refl _) _ _
 refine wp_world (fun W => Ext w W ∧ Ext w8 W ∧ RowAt W w8.heap.size (epC z)) ⟨HX8.out.trans (hxz _ _ _), hxz _ _ _, RowAt.store (RowAt.newAt rfl) rfl⟩ ?_
 clear hxz
 obtain ⟨zb, hzb⟩ : ∃ zb, w8.heap.size = zb := ⟨_, rfl⟩
 rw [hzb]
 rintro W9 ⟨x9, x89, uz⟩
 have HX9 := lh x9
 have HU119 := lh (HU118.out.ext x89)
 have HU39 := lh (HU38.out.ext x89)
 have HU79 := lh (HU78.out.ext x89)
 have HAt9 := lh (HAt8.out.on x89)
 have HZa9 := lh (HZa.out.on x89)
 have HUz := lh uz
 have hs9 := x89.size
 have hlz := uz.lt
 have hs89 := hs8
 have hfk1 := ky_fits e1K
 have k11 : rowOf W9 q 0 5 = some (kyC e1K) := HU119.out.all rfl (by omega)
 have kz : rowOf W9 zb 0 38 = some (epC z) := uz.all rfl (by omega)
 clear x9 x89 uz HX8 HU118 HU38 HU78 HAt8 HZa hs89
 have hapL : appL [e1K] [] z = [z] := by unfold appL; rw [if_pos HAp.out]; rfl
 have HAL := lh hapL
 clear hapL
 go_wp2_with (go_at_call 34; refine (show Hid _ from ?_).out)
 refine lh ?_
 refine calls_world (fun W => Ext W9 W ∧ ReadsKy W W.heap.size (some ⟨W9.heap.size, 0, none⟩) [e1K]) ⟨(eR _).alloc _, reads_freshB kyE [e1K] W9 _ _ (by kernel_rfl) _ rfl⟩ ?_
 obtain ⟨rk, hrk⟩ : ∃ rk, W9.heap.size = rk := ⟨_, rfl⟩
 rw [hrk]
 rintro W10 ⟨x10, hrd⟩
 have hs10 := x10.size
 refine (append_any (some ⟨rk, 0, none⟩) 1 [e1K] none 0 [] z W10 ring_e1 hrd (by decide) ⟨Reads.nil _ _ _ _ _, fun e he => (by cases he)⟩ (fun _ => rfl) HZo.out HZs.out (HZa9.out.on x10) (RowAt.ext HK.out (HX9.out.trans x10))).mono ?_
 rintro r W11 ⟨⟨A, c, l', rfl, hl', hown⟩, hx11⟩
 rw [HAL.out] at hl'
 subst hl'
 rw [HAp.out]
 have hx9 : Ext W9 W11 := x10.trans hx11
 have HX11 := lh (HX9.out.trans hx9)
 have HU3b := lh (HU39.out.ext hx9)
 have HU7b := lh (HU79.out.ext hx9)
 have HAtb := lh (HAt9.out.on hx9)
 have HCh : Hid (ChAt W11 A [z]) := lh ⟨hown.reads epE, fun e he => by
  rw [List.mem_singleton] at he
  rw [he]
  exact ⟨HZo.out, HZs.out, HZa9.out.on hx9⟩⟩
 have hsb := hx9.size
 clear hx9 hx11 hown x10 hrd HX9 HU39 HU79 HAt9 HZa9 HU119 HUz k11 kz HAL
 show Hid _
 refine lh ?_
 go_wp2_with (go_at_call 25; refine (show Hid _ from ?_).out)
 refine lh ?_
 refine (fold_any A c [z] W11 (show 1 ≤ 100 by decide) HCh.out).mono ?_
 rintro r w12 ⟨⟨cs, rfl, hT⟩, hx12⟩
 have hsc := hx12.size
 have HX12 := lh (HX11.out.trans hx12)
 have HU3c := lh (HU3b.out.ext hx12)
 have HU7c := lh (HU7b.out.ext hx12)
 have HAtc := lh (HAtb.out.on hx12)
 obtain ⟨mu, mr, hcs, _, _⟩ := tab_look hT
 rw [HNm.out] at hcs
 have hcs2 : cs = tabC mu mr 1 := hcs
 clear hcs
 subst hcs2
 have HT := lh hT
 have htf := tab_fits mu mr 1
 clear hx12 hT HX11 HU3b HU7b HAtb HCh
 go_upto_region 13 with (fail)
 obtain ⟨tb, htb⟩ : ∃ tb, w12.heap.size = tb := ⟨_, rfl⟩
 rw [htb]
 refine wp_world (fun W => Ext w12 W ∧ RowAt W tb (tabC mu mr 1)) ⟨?_, RowAt.store (RowAt.newAt htb.symm) rfl⟩ ?_
 ·exact Ext.setCells (Ext.alloc (eR _) _) (by rw [htb]; exact Nat.le_refl _) _ _
 rintro W13 ⟨x13, ut⟩
 have HX13 := lh (HX12.out.trans x13)
 have HU3d := lh (HU3c.out.ext x13)
 have HU7d := lh (HU7c.out.ext x13)
 have HAtd := lh (HAtc.out.on x13)
 have HTd := lh (HT.out.on x13)
 have hs13 := x13.size
 have hl13 := ut.lt
 have k6 : rowOf W13 (g + 1) 0 38 = some (epC (e1E (some ⟨g, 0, none⟩) puN)) := HU3d.out.all rfl (by omega)
 have k7 : rowOf W13 h 0 41 = some (stmC (e1S 20 30)) := HU7d.out.all rfl (by omega)
 have k16 : rowOf W13 tb 0 3 = some (tabC mu mr 1) := ut.all rfl (by omega)
 clear x13 ut HX12 HU3c HU7c HAtc HT HU3d HU7d
 have HS : Hid (∀ W, Ext W13 W → Calls Tryz.prog 26 #[.agg (tabC mu mr 1), .agg (stmC (e1S 20 30))] W fun r w' => r = .returned (.int .i64 2) ∧ Ext W w') := lh (fun W hx => by
  have e := tstate_any [z] (e1S 20 30) (tabC mu mr 1) W (HTd.out.on hx) (by decide) (by decide) asc_x
  have e2 : tableB [z] (e1S 20 30).lo (bsT (e1S 20 30).addr) (bsT (e1S 20 30).tags) = 2 := HTb.out
  rwa [e2] at e)
 have HR1 : Hid (∀ W, Ext W13 W → Calls Tryz.prog 27 #[.agg (tabC mu mr 1), .agg (dgC d7)] W fun r w' => r = .returned (.bool true) ∧ Ext W w') := lh (fun W hx => by
  have e := trevoked_any [z] d7 (tabC mu mr 1) W (HTd.out.on hx) (dk_of d7_ok)
  rwa [HR7.out] at e)
 have HR2 : Hid (∀ W, Ext W13 W → Calls Tryz.prog 27 #[.agg (tabC mu mr 1), .agg (dgC d8)] W fun r w' => r = .returned (.bool false) ∧ Ext W w') := lh (fun W hx => by
  have e := trevoked_any [z] d8 (tabC mu mr 1) W (HTd.out.on hx) (dk_of d8_ok)
  rwa [HR8.out] at e)
 have HVd : Hid (∀ W, Ext W13 W → Calls Tryz.prog 13 #[.agg (epC (e1E (some ⟨g, 0, none⟩) puN))] W fun r w' => r = .returned (.bool true) ∧ Ext W w') := lh (fun W hx => by
  have e := evalid_any (e1E (some ⟨g, 0, none⟩) puN) W (HAtd.out.on hx) (show 1 ≤ 100000 by decide) (show 0 ≤ 9223372036854775807 by decide) (fun p hp => by
   have hp2 : p ∈ [puN] := hp
   rw [List.mem_singleton] at hp2
   rw [hp2]
   decide)
  rwa [okEp_e1] at e)
 clear HTd HAtd HTb HR7 HR8 HNm HAp HZs HZo HH htb
 go_wp2_with (go_at_call 26; refine (show Hid _ from ?_).out)
 refine lh ?_
 refine (HS.out _ (by (with_reducible repeat first|exact eR _|apply eD|apply eN|apply eA|apply eO|apply eS|apply eC);all_goals first|omega|simp <;> omega)).mono ?_
 rintro r w' ⟨rfl, hxl⟩
 obtain ⟨xt1, rfl⟩ := hxl.asLater
 clear hxl
 go_wp2_with (go_at_call 27; refine (show Hid _ from ?_).out)
 refine lh ?_
 refine (HR1.out _ (by (with_reducible repeat first|exact eR _|apply eD|apply eN|apply eA|apply eO|apply eS|apply eC);all_goals first|omega|simp <;> omega)).mono ?_
 rintro r w' ⟨rfl, hxl⟩
 obtain ⟨xt2, rfl⟩ := hxl.asLater
 clear hxl
 go_wp2_with (go_at_call 27; refine (show Hid _ from ?_).out)
 refine lh ?_
 refine (HR2.out _ (by (with_reducible repeat first|exact eR _|apply eD|apply eN|apply eA|apply eO|apply eS|apply eC);all_goals first|omega|simp <;> omega)).mono ?_
 rintro r w' ⟨rfl, hxl⟩
 obtain ⟨xt3, rfl⟩ := hxl.asLater
 clear hxl
 go_wp2_with (go_at_call 28; refine (show Hid _ from ?_).out)
 refine lh ?_
 refine (last_any mu mr 1 _).mono ?_
 rintro r w' ⟨rfl, hxl⟩
 obtain ⟨xt4, rfl⟩ := hxl.asLater
 clear hxl
 go_wp2_with (go_at_call 13; refine (show Hid _ from ?_).out)
 refine lh ?_
 refine (HVd.out _ (by (with_reducible repeat first|exact eR _|apply eD|apply eN|apply eA|apply eO|apply eS|apply eC);all_goals first|omega|simp <;> omega)).mono ?_
 rintro r w' ⟨rfl, hxl⟩
 obtain ⟨xt5, rfl⟩ := hxl.asLater
 clear hxl
 go_wp2
 go_ret
 exact ⟨rfl, (by (with_reducible repeat first|exact HX13.out|exact eR _|apply eD|apply eN|apply eA|apply eO|apply eS|apply eC);all_goals first|omega|simp <;> omega)⟩
end
end Go.Proofs.YtpojnhikgjcgmaaGreatDoor