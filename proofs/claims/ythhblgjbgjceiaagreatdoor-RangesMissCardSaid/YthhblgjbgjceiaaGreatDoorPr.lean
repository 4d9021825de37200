/- Walks of ranges: Print. -/
import Derived.Test.YthhblgjbgjceiaaGreatDoorProg
import Derived.Test.YthhblgjbgjceiaaGreatDoorExt
import Derived.WalkKit
import Derived.WalkSpells
import Derived.WalkLawsBesides
import Derived.Deep.QuietTactic
import Derived.BigQuiet
import Derived.Test.YthhblgjbgjceiaaGreatDoorMt
import Derived.Test.YthhblgjbgjceiaaGreatDoorLj
import Derived.Test.YthhblgjbgjceiaaGreatDoorSoft
import Derived.Lib.ItoaLen
import Derived.Test.YthhblgjbgjceiaaGreatDoorTag
import Derived.Sort.Grow
set_option linter.unusedVariables false
set_option linter.unusedSimpArgs false
namespace Go.Proofs.YthhblgjbgjceiaaGreatDoor
open Go.RowKit Go.Shelf
open Go.Proofs
open Go.Proofs.Sp (Sp)

/-- The table of the powers of ten, as the program's text lays it. -/
def Pow10 (w : World) : Prop := Lib.TabIs Tryz.prog w "internal/strconv.uint64pow10" .u64 Lib.pow10Tab
theorem Pow10.ext {w w' : World} (h : Pow10 w) (hx : Ext w w') : Pow10 w' := by
  unfold Pow10 Lib.TabIs World.var? at h ⊢
  have hg : Tryz.prog.globalNamed "internal/strconv.uint64pow10" = some 5 := by kernel_rfl
  rw [hg] at h ⊢
  simp only [Option.bind_some] at h ⊢
  have hlt : 5 < w.heap.size := by
    rcases Nat.lt_or_ge 5 w.heap.size with k | k
    · exact k
    · rw [Array.getElem?_eq_none k] at h; cases h
  rw [hx.below.block _ hlt]
  exact h
theorem grow_ext (w : World) (k : Nat) (os : Array Obj) : Ext w (Sort.grow (w.drewN k) os) :=
  ⟨rfl, rfl, rfl, by show w.heap.size ≤ (w.heap ++ os).size; simp, fun i hi => by show (w.heap ++ os)[i]? = w.heap[i]?; rw [Array.getElem?_append_left hi]⟩
theorem itoa_any (n : Int) (w : World) (h0 : -9223372036854775808 ≤ n) (h1 : n ≤ 9223372036854775807) (hp : Pow10 w) :
    Calls Tryz.prog 69 #[.int .i64 n] w fun e w' => e = .returned (.string ⟨(Lib.itoa n).toArray⟩) ∧ Ext w w' := by
  have h := Any.strconv_Itoa Tryz.itoa n h0 h1 w hp
  change Calls Tryz.prog 69 _ _ _ at h
  exact h.mono (fun e w' ⟨a, k, os, b⟩ => ⟨a, by rw [b]; exact grow_ext _ _ _⟩)
theorem strT : ElemTy Tryz.prog 70 9 1 16 := ⟨by kernel_rfl, by kernel_rfl, by omega⟩
theorem itoa_is (n : Int) (h0 : 0 ≤ n) (h1 : n ≤ 1099511627776) : ∃ x : ByteArray, Hid (x = ⟨(Lib.itoa n).toArray⟩) ∧ x.size ≤ 21 ∧ Hid (∀ w, Pow10 w → Calls Tryz.prog 69 #[.int .i64 n] w fun e w' => e = .returned (.string x) ∧ Ext w w') := by
  refine ⟨⟨(Lib.itoa n).toArray⟩, Lib.hid rfl, ?_, Lib.hid (fun w hp => itoa_any n w (by omega) (by omega) hp)⟩
  have := Lib.itoa_length_le n (by omega) (by omega)
  show (Lib.itoa n).toArray.size ≤ 21
  simpa using this
def partB (s : Sp) : ByteArray := ⟨(Lib.itoa s.1).toArray⟩ ++ ⟨#[45]⟩ ++ ⟨(Lib.itoa (s.2 - 1)).toArray⟩
def printB (l : List Sp) : ByteArray := if l = [] then ⟨#[]⟩ else ⟨#[98, 121, 116, 101, 115, 61]⟩ ++ ⟨(Lib.join (l.map fun s => (partB s).data.toList) [44]).toArray⟩
def oneStr (x : ByteArray) : Soft := ⟨fun v w => ∃ b, v = .slice (some ⟨b, 0, none⟩) 1 1 ∧ b < w.heap.size ∧ w.cell? ⟨b, 0, none⟩ = some (.string x), fun v w w' ⟨b, h1, h2, h3⟩ hx => ⟨b, h1, Nat.lt_of_lt_of_le h2 hx.size, (hx.cell (p := ⟨b, 0, none⟩) h2).trans h3⟩⟩
def prSoft (vs : List Value) (x : ByteArray) (i : Nat) : Soft := if i < vs.length then .eq (vs.getD i undef) else oneStr x
theorem one_str {w : World} {b : Nat} {x : ByteArray} (h : w.cell? ⟨b, 0, none⟩ = some (.string x)) : ∀ j u, ([x].flatMap encStr)[j]? = some u → w.cell? ((⟨b, 0, none⟩ : Addr).add j) = some u := by
  intro j u hu
  have hj := (List.getElem?_eq_some_iff.1 hu).1
  have hj0 : j = 0 := by simp [encStr] at hj; omega
  subst hj0
  simp [encStr] at hu
  subst hu
  exact h
theorem extra_join : Builder.Extra Tryz.prog Tryz.join_ren where
  sizeBuilder := by kernel_rfl
  liesBuilder := by kernel_rfl
  t5 := Tryz.underlying5
  a5 := Tryz.isAgg5
  z5 := Tryz.sizeOf5
  v5 := Tryz.zeroValue5
  infoByte := by kernel_rfl
  cellsByte := by kernel_rfl
  sizeByte := by kernel_rfl
  neB5 := by decide
theorem partB_len (s : Sp) (h0 : 0 ≤ s.1) (h1 : s.1 < s.2) (h2 : s.2 ≤ 1099511627776) : (partB s).data.toList.length ≤ 43 := by
  have k1 := Lib.itoa_length_le s.1 (by omega) (by omega)
  have k2 := Lib.itoa_length_le (s.2 - 1) (by omega) (by omega)
  have : (partB s).size = (Lib.itoa s.1).length + 1 + (Lib.itoa (s.2 - 1)).length := by
    unfold partB
    rw [ByteArray.size_append, ByteArray.size_append]
    show (Lib.itoa s.1).toArray.size + 1 + (Lib.itoa (s.2 - 1)).toArray.size = _
    simp
  have e : (partB s).data.toList.length = (partB s).size := by simp
  omega
theorem join_small : ∀ (l : List Sp), (∀ s ∈ l, 0 ≤ s.1 ∧ s.2 ≤ 1099511627776) → (∀ s ∈ l, s.1 < s.2) → (Lib.join (l.map fun s => (partB s).data.toList) [44]).length ≤ 44 * l.length
  | [], _, _ => by simp [Lib.join]
  | [s], h, k => by
    have h1 := h s (by simp)
    have h2 := k s (by simp)
    rw [List.map_cons, List.map_nil, Lib.join_one]
    have := partB_len s h1.1 h2 h1.2
    simp only [List.length_cons, List.length_nil]; omega
  | s :: t :: l, h, k => by
    have h1 := h s (by simp)
    have h2 := k s (by simp)
    have ih := join_small (t :: l) (fun x hx => h x (List.mem_cons_of_mem _ hx)) (fun x hx => k x (List.mem_cons_of_mem _ hx))
    have := partB_len s h1.1 h2 h1.2
    rw [List.map_cons, List.map_cons] at *
    rw [Tg.join_two, List.length_append, List.length_cons]
    simp only [List.length_cons] at ih ⊢
    omega
def PriRel (w : World) (l : List Sp) (i v : Value) (wr : World) : Prop := ∃ (k : Nat) (A' : Option Addr) (c' : Nat) (ps : List ByteArray), k ≤ l.length ∧ i = .int .i64 k ∧ v = .slice A' ps.length c' ∧ Hid (ps = (l.take k).map partB) ∧ Hid (ps.length = k) ∧ Hid (Owns 9 1 encStr w.heap.size wr A' c' ps) ∧ Hid (Ext w wr)
set_option maxHeartbeats 1000000 in
theorem print_any (A : Option Addr) (c : Nat) (l : List Sp) (w : World) (hs : SetIn l 1099511627776) (hl : l.length ≤ 10000) (hr : ReadsSp w w.heap.size A l) (hp : Pow10 w) :
    Calls Tryz.prog 28 #[.slice A l.length c] w fun e w' => e = .returned (.string (printB l)) ∧ Ext w w' := by
  have HR := Lib.hid hr
  have HS := Lib.hid hs
  have HP := Lib.hid hp
  clear hr hs hp
  by_cases h0 : l.length = 0
  · have e : printB l = ⟨#[]⟩ := by unfold printB; rw [if_pos (List.eq_nil_of_length_eq_zero h0)]
    rw [e]
    go_enter Tryz.func28, Tryz.ntmps28
    go_wp2
    go_ret
    exact ⟨rfl, (by (repeat (first | with_reducible exact Ext.refl _ | with_reducible exact Ext.refl _ | with_reducible refine Ext.drew ?_ | with_reducible refine Ext.drewN ?_ _ | with_reducible refine Ext.alloc ?_ _ | with_reducible refine Ext.onto ?_ _ | (with_reducible refine Ext.setCells ?_ ?_ _ _; rotate_left; focus (first | omega | (simp; done) | (simp; omega))) | (with_reducible refine Ext.setCell ?_ ?_ _; rotate_left; focus (first | omega | (simp; done) | (simp; omega))))))⟩
  have HE : Hid (printB l = ⟨#[98, 121, 116, 101, 115, 61]⟩ ++ ⟨(Lib.join (l.map fun s => (partB s).data.toList) [44]).toArray⟩) := Lib.hid (by unfold printB; rw [if_neg (fun e => h0 (by rw [e]; rfl))])
  generalize printB l = pb at *
  have h0b : ((l.length : Int) == 0) = false := by rw [beq_eq_false_iff_ne]; omega
  have H0 := Lib.hid h0
  clear h0
  go_enter Tryz.func28, Tryz.ntmps28
  go_wp2
  go_loopw [11, 3] (PriRel w l) (fun i _ _ => l.length - (intOf i).toNat)
  case atStart => exact ⟨0, none, 0, [], Nat.zero_le _, rfl, rfl, Lib.hid rfl, Lib.hid rfl, Lib.hid (Owns.nil _ _ _ _ _), Lib.hid (Ext.refl _)⟩
  case round =>
    obtain ⟨k, A', c', ps, hk, rfl, rfl, HPs, HPl, HO, HX⟩ := hrel
    have hpl : ps.length ≤ 10000 := by rw [HPl.out]; omega
    by_cases hlt : k < l.length
    · obtain ⟨b, off, rfl, hb, c1, c2⟩ := ReadsSp.cell (HR.out.ext HX.out (Nat.le_refl _)) k hlt
      have hbw : b < wr.heap.size := by have := HX.out.size; omega
      have hin := List.getElem_mem hlt
      have i1 := HS.out.1.2 _ hin
      have i2 := HS.out.2 _ hin
      have HJ : Hid ((l.take (k + 1)).map partB = (l.take k).map partB ++ [partB l[k]]) := Lib.hid (by rw [List.take_succ_eq_append_getElem hlt, List.map_append]; rfl)
      have HPw := Lib.hid (HP.out.ext HX.out)
      generalize l[k] = s at *
      obtain ⟨s1, s2⟩ := s
      simp only [] at c1 c2 i1 i2
      clear hin
      obtain ⟨x1, HX1, hx1, HI1⟩ := itoa_is s1 (by omega) (by omega)
      obtain ⟨x2, HX2, hx2, HI2⟩ := itoa_is (s2 - 1) (by omega) (by omega)
      have HQ : Hid (partB (s1, s2) = x1 ++ ⟨#[45]⟩ ++ x2) := Lib.hid (by rw [HX1.out, HX2.out]; rfl)
      have hz1 : (x1 ++ ⟨#[45]⟩).size = x1.size + 1 := by rw [ByteArray.size_append]; rfl
      clear HX1 HX2
      go_wp2
      have hws := HX.out.size
      refine wp_world (fun W => Ext wr W ∧ W.cell? ⟨wr.heap.size, 0, none⟩ = some (.int .i64 s1) ∧ W.cell? ⟨wr.heap.size, 1, none⟩ = some (.int .i64 s2) ∧ wr.heap.size < W.heap.size) ⟨(by (repeat (first | with_reducible exact Ext.refl _ | with_reducible exact Ext.refl _ | with_reducible refine Ext.drew ?_ | with_reducible refine Ext.drewN ?_ _ | with_reducible refine Ext.alloc ?_ _ | with_reducible refine Ext.onto ?_ _ | (with_reducible refine Ext.setCells ?_ ?_ _ _; rotate_left; focus (first | omega | (simp; done) | (simp; omega))) | (with_reducible refine Ext.setCell ?_ ?_ _; rotate_left; focus (first | omega | (simp; done) | (simp; omega)))))), by rw [alloc_cell_if, if_pos (by simp)]; rfl, by rw [alloc_cell_if, if_pos (by simp)]; rfl, by simp⟩ ?_
      generalize wr.heap.size = B at *
      rintro W0 ⟨hx0, z1, z2, hB0⟩
      have HX0 := Lib.hid hx0
      have HPw0 := Lib.hid (HPw.out.ext hx0)
      have hw0 := hx0.size
      clear hx0
      refine wp_region_soft 11 (prSoft [.slice A' ps.length c', .pointer (some ⟨B, 0, none⟩), .int .i64 s1, .string x1, .string (x1 ++ ⟨#[45]⟩), .pointer (some ⟨B, 1, none⟩), .int .i64 s2, .int .i64 (s2 - 1), .string x2, .string (x1 ++ ⟨#[45]⟩ ++ x2)] (x1 ++ ⟨#[45]⟩ ++ x2)) (by kernel_rfl) (by kernel_rfl) (lt_cons ?_ (lt_cons ?_ (lt_cons ?_ (lt_cons ?_ (lt_cons ?_ (lt_cons ?_ (lt_cons ?_ (lt_cons ?_ (lt_cons ?_ (lt_cons ?_ (lt_cons ?_ lt_none))))))))))) ?_
      ·
        intro o ho xs W hW hd Q' hQ; obtain rfl := Option.some.inj ho; clear ho; simp only [fillAt, dstOf, List.getElem?_cons_zero, List.getElem?_cons_succ, Option.bind_some, Act.put, List.setIfInBounds_toArray, List.set_cons_zero, List.set_cons_succ, Nat.zero_add, Nat.reduceAdd] at hQ ⊢; have HQ := Lib.hid hQ; have HD := Lib.hid hd; have HW := Lib.hid hW; have hsW := hW.size; clear hQ hd hW
        go_wp2
        exact HQ.out _ _ (Ext.refl _) rfl
      ·
        intro o ho xs W hW hd Q' hQ; obtain rfl := Option.some.inj ho; clear ho; simp only [fillAt, dstOf, List.getElem?_cons_zero, List.getElem?_cons_succ, Option.bind_some, Act.put, List.setIfInBounds_toArray, List.set_cons_zero, List.set_cons_succ, Nat.zero_add, Nat.reduceAdd] at hQ ⊢; have HQ := Lib.hid hQ; have HD := Lib.hid hd; have HW := Lib.hid hW; have hsW := hW.size; clear hQ hd hW
        go_wp2
        exact HQ.out _ _ (Ext.refl _) rfl
      ·
        intro o ho xs W hW hd Q' hQ; obtain rfl := Option.some.inj ho; clear ho; simp only [fillAt, dstOf, List.getElem?_cons_zero, List.getElem?_cons_succ, Option.bind_some, Act.put, List.setIfInBounds_toArray, List.set_cons_zero, List.set_cons_succ, Nat.zero_add, Nat.reduceAdd] at hQ ⊢; have HQ := Lib.hid hQ; have HD := Lib.hid hd; have HW := Lib.hid hW; have hsW := hW.size; clear hQ hd hW
        have hd1 : xs 1 = (.pointer (some ⟨B, 0, none⟩)) := (HD.out 1 (of_decide_eq_true (by kernel_rfl)))
        generalize xs 1 = x1 at hd1 HQ ⊢; subst hd1
        have hc : W.cell? ⟨B, 0, none⟩ = some ((.int .i64 s1)) := (HW.out.cell (p := ⟨B, 0, none⟩) (by show B < _; omega)).trans z1
        go_wp2
        exact HQ.out _ _ (Ext.refl _) rfl
      ·
        intro o ho xs W hW hd Q' hQ; obtain rfl := Option.some.inj ho; clear ho; simp only [fillAt, dstOf, List.getElem?_cons_zero, List.getElem?_cons_succ, Option.bind_some, Act.put, List.setIfInBounds_toArray, List.set_cons_zero, List.set_cons_succ, Nat.zero_add, Nat.reduceAdd] at hQ ⊢; have HQ := Lib.hid hQ; have HD := Lib.hid hd; have HW := Lib.hid hW; have hsW := hW.size; clear hQ hd hW
        have hd2 : xs 2 = .int .i64 s1 := (HD.out 2 (of_decide_eq_true (by kernel_rfl)))
        generalize xs 2 = x2 at hd2 HQ ⊢; subst hd2
        go_wp2_with (go_at_call 69; refine (HI1.out _ (HPw0.out.ext HW.out)).mono ?_; rintro e1 w1 ⟨rfl, hx⟩)
        exact HQ.out _ _ hx rfl
      ·
        intro o ho xs W hW hd Q' hQ; obtain rfl := Option.some.inj ho; clear ho; simp only [fillAt, dstOf, List.getElem?_cons_zero, List.getElem?_cons_succ, Option.bind_some, Act.put, List.setIfInBounds_toArray, List.set_cons_zero, List.set_cons_succ, Nat.zero_add, Nat.reduceAdd] at hQ ⊢; have HQ := Lib.hid hQ; have HD := Lib.hid hd; have HW := Lib.hid hW; have hsW := hW.size; clear hQ hd hW
        have hd3 : xs 3 = (.string x1) := (HD.out 3 (of_decide_eq_true (by kernel_rfl)))
        generalize xs 3 = x3 at hd3 HQ ⊢; subst hd3
        go_wp2
        exact HQ.out _ _ (Ext.refl _) rfl
      ·
        intro o ho xs W hW hd Q' hQ; obtain rfl := Option.some.inj ho; clear ho; simp only [fillAt, dstOf, List.getElem?_cons_zero, List.getElem?_cons_succ, Option.bind_some, Act.put, List.setIfInBounds_toArray, List.set_cons_zero, List.set_cons_succ, Nat.zero_add, Nat.reduceAdd] at hQ ⊢; have HQ := Lib.hid hQ; have HD := Lib.hid hd; have HW := Lib.hid hW; have hsW := hW.size; clear hQ hd hW
        go_wp2
        exact HQ.out _ _ (Ext.refl _) rfl
      ·
        intro o ho xs W hW hd Q' hQ; obtain rfl := Option.some.inj ho; clear ho; simp only [fillAt, dstOf, List.getElem?_cons_zero, List.getElem?_cons_succ, Option.bind_some, Act.put, List.setIfInBounds_toArray, List.set_cons_zero, List.set_cons_succ, Nat.zero_add, Nat.reduceAdd] at hQ ⊢; have HQ := Lib.hid hQ; have HD := Lib.hid hd; have HW := Lib.hid hW; have hsW := hW.size; clear hQ hd hW
        have hd5 : xs 5 = (.pointer (some ⟨B, 1, none⟩)) := (HD.out 5 (of_decide_eq_true (by kernel_rfl)))
        generalize xs 5 = x5 at hd5 HQ ⊢; subst hd5
        have hc : W.cell? ⟨B, 1, none⟩ = some ((.int .i64 s2)) := (HW.out.cell (p := ⟨B, 1, none⟩) (by show B < _; omega)).trans z2
        go_wp2
        exact HQ.out _ _ (Ext.refl _) rfl
      ·
        intro o ho xs W hW hd Q' hQ; obtain rfl := Option.some.inj ho; clear ho; simp only [fillAt, dstOf, List.getElem?_cons_zero, List.getElem?_cons_succ, Option.bind_some, Act.put, List.setIfInBounds_toArray, List.set_cons_zero, List.set_cons_succ, Nat.zero_add, Nat.reduceAdd] at hQ ⊢; have HQ := Lib.hid hQ; have HD := Lib.hid hd; have HW := Lib.hid hW; have hsW := hW.size; clear hQ hd hW
        have hd6 : xs 6 = (.int .i64 s2) := (HD.out 6 (of_decide_eq_true (by kernel_rfl)))
        generalize xs 6 = x6 at hd6 HQ ⊢; subst hd6
        go_wp2
        exact HQ.out _ _ (Ext.refl _) rfl
      ·
        intro o ho xs W hW hd Q' hQ; obtain rfl := Option.some.inj ho; clear ho; simp only [fillAt, dstOf, List.getElem?_cons_zero, List.getElem?_cons_succ, Option.bind_some, Act.put, List.setIfInBounds_toArray, List.set_cons_zero, List.set_cons_succ, Nat.zero_add, Nat.reduceAdd] at hQ ⊢; have HQ := Lib.hid hQ; have HD := Lib.hid hd; have HW := Lib.hid hW; have hsW := hW.size; clear hQ hd hW
        have hd7 : xs 7 = .int .i64 (s2 - 1) := (HD.out 7 (of_decide_eq_true (by kernel_rfl)))
        generalize xs 7 = x7 at hd7 HQ ⊢; subst hd7
        go_wp2_with (go_at_call 69; refine (HI2.out _ (HPw0.out.ext HW.out)).mono ?_; rintro e1 w1 ⟨rfl, hx⟩)
        exact HQ.out _ _ hx rfl
      ·
        intro o ho xs W hW hd Q' hQ; obtain rfl := Option.some.inj ho; clear ho; simp only [fillAt, dstOf, List.getElem?_cons_zero, List.getElem?_cons_succ, Option.bind_some, Act.put, List.setIfInBounds_toArray, List.set_cons_zero, List.set_cons_succ, Nat.zero_add, Nat.reduceAdd] at hQ ⊢; have HQ := Lib.hid hQ; have HD := Lib.hid hd; have HW := Lib.hid hW; have hsW := hW.size; clear hQ hd hW
        have hd4 : xs 4 = (.string (x1 ++ ⟨#[45]⟩)) := (HD.out 4 (of_decide_eq_true (by kernel_rfl)))
        generalize xs 4 = x4 at hd4 HQ ⊢; subst hd4
        have hd8 : xs 8 = (.string x2) := (HD.out 8 (of_decide_eq_true (by kernel_rfl)))
        generalize xs 8 = x8 at hd8 HQ ⊢; subst hd8
        go_wp2
        exact HQ.out _ _ (Ext.refl _) rfl
      ·
        intro o ho xs W hW hd Q' hQ; obtain rfl := Option.some.inj ho; clear ho; simp only [fillAt, dstOf, List.getElem?_cons_zero, List.getElem?_cons_succ, Option.bind_some, Act.put, List.setIfInBounds_toArray, List.set_cons_zero, List.set_cons_succ, Nat.zero_add, Nat.reduceAdd] at hQ ⊢; have HQ := Lib.hid hQ; have HD := Lib.hid hd; have HW := Lib.hid hW; have hsW := hW.size; clear hQ hd hW
        have hd9 : xs 9 = .string (x1 ++ ⟨#[45]⟩ ++ x2) := (HD.out 9 (of_decide_eq_true (by kernel_rfl)))
        generalize xs 9 = x9 at hd9 HQ ⊢; subst hd9
        go_wp2
        exact HQ.out _ _ ((Ext.refl _).alloc _) ⟨W.heap.size, rfl, by simp, by rw [alloc_cell_if, if_pos (by simp)]; rfl⟩
      ·
        intro xs W hW hS
        have h0 : xs 0 = .slice A' ps.length c' := hS 0 (by omega)
        obtain ⟨B1, h10, hB1, hc1⟩ : (oneStr (x1 ++ (⟨#[45]⟩ : ByteArray) ++ x2)).S (xs 10) W := hS 10 (by omega)
        simp only [fillAt, dstOf, List.getElem?_cons_zero, List.getElem?_cons_succ, Option.bind_some, Act.put, List.setIfInBounds_toArray, List.set_cons_zero, List.set_cons_succ, Nat.zero_add, Nat.reduceAdd, List.drop_succ_cons, List.drop_zero]
        generalize xs 0 = y0 at *; subst h0
        generalize xs 10 = y10 at *; subst h10
        have HWW := Lib.hid (HX0.out.trans hW)
        have hwW := hW.size
        clear hS hW
        go_wp2_with (at_builtin; refine app_from strT sE rfl _ _ rfl w.heap.size _ _ ps rfl (HO.out.ext HWW.out) _ 1 _ [x1 ++ ⟨#[45]⟩ ++ x2] rfl rfl (fun j u hu => one_str hc1 j u hu) (by omega) (by omega) (by omega) ?_; intro A3 c3 l3 w3 HL3 HO3 hB hl1 hl2 hG; have HO3' := Lib.hid HO3; have HX3 : Hid (Ext w w3) := Lib.hid ((HX.out.trans HWW.out).grown hB (Nat.le_refl _)); clear HO3 hG hB)
        go_roundw
        case rel => exact ⟨k + 1, A3, c3, l3, by omega, by go_num, rfl, Lib.hid (by rw [HL3.out, HPs.out, HJ.out, HQ.out]), Lib.hid (by rw [HL3.out, List.length_append, HPl.out]; rfl), HO3', HX3⟩
        case measure => simp [intOf]; omega
    · have e : k = l.length := by omega
      have hps := HPs.out
      rw [e, List.take_length] at hps
      have hpl0 : 0 < ps.length := by have := H0.out; rw [HPl.out]; omega
      obtain ⟨bk, ho, rfl, hbk, hcc⟩ := HO.out.reads sE hpl0
      have hcap : ps.length ≤ c' := by
        rcases HO.out.cases with ⟨q, _⟩ | ⟨g, cur, q, _, _, q4, _⟩
        · cases q
        · exact q4
      have hjl : (Lib.join (ps.map (·.data.toList)) [44]).length ≤ 140737488300000 := by
        rw [hps]
        have := join_small l (fun s hs => HS.out.2 s hs) (fun s hs => HS.out.1.2 s hs)
        rw [List.map_map]
        have e2 : ((fun x : ByteArray => x.data.toList) ∘ partB) = fun s => (partB s).data.toList := rfl
        rw [e2]
        omega
      have hJ := fun W (hx : Ext wr W) => Any.strings_Join Tryz.join extra_join bk ho c' ps ⟨#[44]⟩ W (fun j x hj => (Ext.cell (p := ⟨bk, ho + j, none⟩) hx hbk).trans (by
          obtain ⟨hj1, hj2⟩ := List.getElem?_eq_some_iff.1 hj
          have := hcc j hj1 0 (.string ps[j]) rfl
          rw [hj2] at this
          simpa using this)) (Nat.lt_of_lt_of_le hbk hx.size) (by omega) hcap (by show (Lib.join (ps.map (·.data.toList)) [44]).length ≤ _; omega)
      have HJ : Hid (∀ W, Ext wr W → Calls Tryz.prog 70 #[.slice (some ⟨bk, ho, none⟩) ps.length c', .string ⟨#[44]⟩] W fun e w' => e = .returned (.string ⟨(Lib.join (ps.map (·.data.toList)) [44]).toArray⟩) ∧ Ext W w') := Lib.hid (fun W hx => hJ W hx)
      have hsz : (⟨(Lib.join (ps.map (·.data.toList)) [44]).toArray⟩ : ByteArray).size ≤ 140737488300000 := by
        show (Lib.join (ps.map (·.data.toList)) [44]).toArray.size ≤ _
        simpa using hjl
      have HFin : Hid (⟨#[98, 121, 116, 101, 115, 61]⟩ ++ ⟨(Lib.join (ps.map (·.data.toList)) [44]).toArray⟩ = pb) := Lib.hid (by
        rw [HE.out, hps, List.map_map]; rfl)
      have hp6 : (⟨#[98, 121, 116, 101, 115, 61]⟩ : ByteArray).size = 6 := rfl
      clear hJ hjl hcc hps
      generalize (⟨(Lib.join (ps.map (·.data.toList)) [44]).toArray⟩ : ByteArray) = jb at *
      go_wp2_with (go_at_call 70; refine (HJ.out _ (by (repeat (first | with_reducible exact Ext.refl _ | with_reducible exact Ext.refl _ | with_reducible refine Ext.drew ?_ | with_reducible refine Ext.drewN ?_ _ | with_reducible refine Ext.alloc ?_ _ | with_reducible refine Ext.onto ?_ _ | (with_reducible refine Ext.setCells ?_ ?_ _ _; rotate_left; focus (first | omega | (simp; done) | (simp; omega))) | (with_reducible refine Ext.setCell ?_ ?_ _; rotate_left; focus (first | omega | (simp; done) | (simp; omega))))))).mono ?_; rintro e w' ⟨rfl, hxl⟩; obtain ⟨xl, rfl⟩ := hxl.asLater; clear hxl)
      go_ret
      exact ⟨by show Ending.returned (.string _) = _; rw [HFin.out], (by (repeat (first | with_reducible exact HX.out | with_reducible exact Ext.refl _ | with_reducible refine Ext.drew ?_ | with_reducible refine Ext.drewN ?_ _ | with_reducible refine Ext.alloc ?_ _ | with_reducible refine Ext.onto ?_ _ | (with_reducible refine Ext.setCells ?_ ?_ _ _; rotate_left; focus (first | omega | (simp; done) | (simp; omega))) | (with_reducible refine Ext.setCell ?_ ?_ _; rotate_left; focus (first | omega | (simp; done) | (simp; omega))))))⟩
end Go.Proofs.YthhblgjbgjceiaaGreatDoor
