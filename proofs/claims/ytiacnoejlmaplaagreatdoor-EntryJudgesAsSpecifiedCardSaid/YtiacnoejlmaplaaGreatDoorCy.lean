/- ranges.Minus, Missing, Covers. -/
import Derived.Test.YtiacnoejlmaplaaGreatDoorProg
import Derived.Test.YtiacnoejlmaplaaGreatDoorExt
import Derived.WalkKit
import Derived.WalkSpells
import Derived.WalkLawsBesides
import Derived.Deep.QuietTactic
import Derived.BigQuiet
import Derived.RangeFuncNested
import Derived.RangeFuncBound
import Derived.RangeFuncCalls
import Derived.RangeFuncLeaves
import Derived.Shelf.Abstract
import Derived.Shelf.RegionOpen
import Derived.OwnWalkIn
import Derived.TacticsInMore
import Derived.LoopNIn
import Derived.LoopIn
import Derived.Test.YtiacnoejlmaplaaGreatDoorCx
import Derived.Test.YtiacnoejlmaplaaGreatDoorSpw
set_option linter.unusedVariables false
set_option linter.unusedSimpArgs false
namespace Go.Proofs.YtiacnoejlmaplaaGreatDoor
open Go.RowKit Go.Shelf
open Go.Proofs
open Go.Proofs.Sp (Sp)
attribute [local go_sem] Oper.semAt_some

/-- What Minus collects: the pieces that the first has and the second has not. -/
def minusOf (l1 l2 : List Sp) (k : Nat) : List Sp := ((Sp.pieces (endsOf l1 l2)).take k).filter fun p => hasB l1 p.1 && !(hasB l2 p.1)
theorem minusOf_snoc (l1 l2 : List Sp) (k : Nat) (h : k < (Sp.pieces (endsOf l1 l2)).length) : minusOf l1 l2 (k + 1) = minusOf l1 l2 k ++ (if hasB l1 (Sp.pieces (endsOf l1 l2))[k].1 && !(hasB l2 (Sp.pieces (endsOf l1 l2))[k].1) then [(Sp.pieces (endsOf l1 l2))[k]] else []) := by
  unfold minusOf
  rw [List.take_succ_eq_append_getElem h, List.filter_append]
  congr 1
  by_cases hh : (hasB l1 (Sp.pieces (endsOf l1 l2))[k].1 && !(hasB l2 (Sp.pieces (endsOf l1 l2))[k].1)) = true
  · rw [if_pos hh]; exact List.filter_cons_of_pos hh
  · rw [if_neg hh]; exact List.filter_cons_of_neg hh
theorem minusOf_len (l1 l2 : List Sp) (k : Nat) : (minusOf l1 l2 k).length ≤ k := by
  unfold minusOf
  exact Nat.le_trans (List.length_filter_le _ _) (by rw [List.length_take]; omega)
theorem atB_has {l : List Sp} (hs : Sp.IsSet l) {p : Int} {i : Nat} (h : Sp.past l p i) : atB l i p = hasB l p := by
  rw [Bool.eq_iff_iff, hasB_iff, Sp.past_mem hs h]
  simp only [atB, Bool.and_eq_true, decide_eq_true_eq]
  constructor
  · rintro ⟨h1, h2⟩; exact ⟨h1, by simpa [h1] using h2⟩
  · rintro ⟨h1, h2⟩; exact ⟨h1, by simpa [h1] using h2⟩
theorem minus_mem {l1 l2 : List Sp} {k : Nat} (hk : (Sp.pieces (endsOf l1 l2)).length ≤ k) (x : Int) : Sp.mem (minusOf l1 l2 k) x ↔ Sp.mem l1 x ∧ ¬ Sp.mem l2 x := by
  have hso := endsOf_sorted l1 l2
  have hE1 : ∀ t ∈ l1, t.1 ∈ endsOf l1 l2 ∧ t.2 ∈ endsOf l1 l2 := fun t ht => by
    have := Sp.mem_ends (l := l1 ++ l2) (s := t) (List.mem_append.2 (.inl ht))
    exact ⟨(endsOf_mem ..).2 this.1, (endsOf_mem ..).2 this.2⟩
  have hE2 : ∀ t ∈ l2, t.1 ∈ endsOf l1 l2 ∧ t.2 ∈ endsOf l1 l2 := fun t ht => by
    have := Sp.mem_ends (l := l1 ++ l2) (s := t) (List.mem_append.2 (.inr ht))
    exact ⟨(endsOf_mem ..).2 this.1, (endsOf_mem ..).2 this.2⟩
  unfold minusOf
  rw [List.take_of_length_le hk]
  constructor
  · rintro ⟨s, hs, h1, h2⟩
    obtain ⟨hs1, hs2⟩ := List.mem_filter.1 hs
    obtain ⟨_, _, _, hn⟩ := Sp.pieces_none hso s hs1
    simp only [Bool.and_eq_true, Bool.not_eq_true', hasB_iff] at hs2
    refine ⟨(Sp.mem_piece hE1 hn h1 h2).2 hs2.1, fun hm => ?_⟩
    have := (Sp.mem_piece hE2 hn h1 h2).1 hm
    rw [← hasB_iff, hs2.2] at this
    cases this
  · rintro ⟨⟨t, ht, a, b⟩, hno⟩
    obtain ⟨s, hs, h1, h2⟩ := Sp.pieces_cover hso (hE1 t ht).1 (hE1 t ht).2 a b
    obtain ⟨_, _, _, hn⟩ := Sp.pieces_none hso s hs
    refine ⟨s, List.mem_filter.2 ⟨hs, ?_⟩, h1, h2⟩
    simp only [Bool.and_eq_true, Bool.not_eq_true', hasB_iff]
    refine ⟨(Sp.mem_piece hE1 hn h1 h2).1 ⟨t, ht, a, b⟩, ?_⟩
    cases hh : hasB l2 s.1 with
    | false => rfl
    | true => exact absurd ((Sp.mem_piece hE2 hn h1 h2).2 (hasB_iff.1 hh)) hno

theorem cut_any (A1 : Option Addr) (n1 c1 : Nat) (A2 : Option Addr) (n2 c2 : Nat) (w : World) :
    Calls Tryz.prog 82 #[.slice A1 n1 c1, .slice A2 n2 c2] w fun e w' => e = .returned (.func (.func 100) #[] #[.pointer (some ⟨w.heap.size, 0, none⟩), .pointer (some ⟨w.heap.size + 1, 0, none⟩)]) ∧
      (w.alloc (.cells #[.slice A1 n1 c1] 29)).alloc (.cells #[.slice A2 n2 c2] 29) = w' := by
  go_enter Tryz.func82, Tryz.ntmps82
  go_wp2
  go_ret
  exact ⟨rfl, rfl⟩

def bd2 (l : List Sp) : Prop := ∀ s ∈ l, (-4611686018427387904 ≤ s.1 ∧ s.1 ≤ 4611686018427387903) ∧ -4611686018427387904 ≤ s.2 ∧ s.2 ≤ 4611686018427387903
theorem minus_bd {l1 l2 : List Sp} (h1 : bd2 l1) (h2 : bd2 l2) (k : Nat) : bdSp (minusOf l1 l2 k) := by
  intro s hs
  have hs1 := List.mem_of_mem_take (List.mem_filter.1 hs).1
  obtain ⟨_, hm, _⟩ := Sp.pieces_none (endsOf_sorted l1 l2) s hs1
  rw [endsOf_mem] at hm
  obtain ⟨t, ht, hx⟩ := List.mem_flatMap.1 hm
  have hb : (-4611686018427387904 ≤ t.1 ∧ t.1 ≤ 4611686018427387903) ∧ -4611686018427387904 ≤ t.2 ∧ t.2 ≤ 4611686018427387903 := by
    rcases List.mem_append.1 ht with ht | ht
    · exact h1 t ht
    · exact h2 t ht
  simp only [List.mem_cons, List.not_mem_nil, or_false] at hx
  rcases hx with hx | hx <;> rw [hx]
  · exact hb.1
  · exact hb.2
theorem pieces_le (l1 l2 : List Sp) : (Sp.pieces (endsOf l1 l2)).length ≤ (l1.length + l2.length) * 2 := by
  have := endsOf_length l1 l2
  rw [Sp.pieces_length]; omega

set_option maxRecDepth 100000 in
set_option maxHeartbeats 4000000 in
theorem minus_any (A1 : Option Addr) (c1 : Nat) (l1 : List Sp) (A2 : Option Addr) (c2 : Nat) (l2 : List Sp) (w : World) (hs1 : Sp.IsSet l1) (hs2 : Sp.IsSet l2) (hb1 : bd2 l1) (hb2 : bd2 l2)
    (hlen : (l1.length + l2.length) * 32 ≤ 140737488350000) (hr1 : ReadsSp w w.heap.size A1 l1) (hr2 : ReadsSp w w.heap.size A2 l2) (z1 : A1 = none → c1 = 0) (z2 : A2 = none → c2 = 0) :
    Calls Tryz.prog 60 #[.slice A1 l1.length c1, .slice A2 l2.length c2] w fun e w' => ∃ A' c' out, e = .returned (.slice A' out.length c') ∧ Hid (SetOf (fun x => Sp.mem l1 x ∧ ¬ Sp.mem l2 x) out) ∧ out.length ≤ (l1.length + l2.length) * 2 ∧ OwnsSp w.heap.size w' A' c' out ∧ Ext w w' := by
  have HR1 := Lib.hid hr1
  have HR2 := Lib.hid hr2
  have HZ1 := Lib.hid z1
  have HZ2 := Lib.hid z2
  have HS1 := Lib.hid hs1
  have HS2 := Lib.hid hs2
  have HB1 := Lib.hid hb1
  have HB2 := Lib.hid hb2
  have hpl := pieces_le l1 l2
  clear hr1 hr2 z1 z2 hs1 hs2 hb1 hb2
  refine (callsIn_wide (n := 3)).1 ?_
  refine callsIn_of_wp_marks Tryz.func60 rfl trivial ?_ rfl
  simp only [Tryz.ntmps60, List.size_toArray, List.length_cons, List.length_nil, Nat.reduceAdd, Nat.reduceSub, Array.replicate_succ, Array.replicate_zero, List.push_toArray, List.append_toArray, List.nil_append, List.cons_append]
  gi_wp2_with (refine ⟨trivial, ?_⟩; gi_at_call 82; refine (callsIn_wide.2 (cut_any _ _ _ _ _ _ _)).mono ?_; rintro e w2 ⟨rfl, rfl⟩)
  have b1 : Boxed (((w.alloc (.cells #[.slice none 0 0] 29)).alloc (.cells #[.slice A1 l1.length c1] 29)).alloc (.cells #[.slice A2 l2.length c2] 29)) w.heap.size 29 (.slice none 0 0) := ((Boxed.new w 29 _).alloc _).alloc _
  have b2 : Boxed (((w.alloc (.cells #[.slice none 0 0] 29)).alloc (.cells #[.slice A1 l1.length c1] 29)).alloc (.cells #[.slice A2 l2.length c2] 29)) (w.heap.size + 1) 29 (.slice A1 l1.length c1) := by
    have := Boxed.new (w.alloc (.cells #[.slice none 0 0] 29)) 29 (.slice A1 l1.length c1); rw [World.size_alloc] at this; exact this.alloc _
  have b3 : Boxed (((w.alloc (.cells #[.slice none 0 0] 29)).alloc (.cells #[.slice A1 l1.length c1] 29)).alloc (.cells #[.slice A2 l2.length c2] 29)) (w.heap.size + 1 + 1) 29 (.slice A2 l2.length c2) := by
    have := Boxed.new ((w.alloc (.cells #[.slice none 0 0] 29)).alloc (.cells #[.slice A1 l1.length c1] 29)) 29 (.slice A2 l2.length c2); rw [World.size_alloc, World.size_alloc] at this; exact this
  have bs : (((w.alloc (.cells #[.slice none 0 0] 29)).alloc (.cells #[.slice A1 l1.length c1] 29)).alloc (.cells #[.slice A2 l2.length c2] 29)).heap.size = w.heap.size + 3 := by simp
  have bx : Ext w (((w.alloc (.cells #[.slice none 0 0] 29)).alloc (.cells #[.slice A1 l1.length c1] 29)).alloc (.cells #[.slice A2 l2.length c2] 29)) := (((Ext.refl _).alloc _).alloc _).alloc _
  generalize (((w.alloc (.cells #[.slice none 0 0] 29)).alloc (.cells #[.slice A1 l1.length c1] 29)).alloc (.cells #[.slice A2 l2.length c2] 29)) = W0 at b1 b2 b3 bs bx ⊢
  have hbs1 := Nat.le_of_eq bs
  have hbs2 := Nat.le_of_eq bs.symm
  clear bs
  refine rf_enter rfl (by omega) (gf := 100) (lb := #[.pointer (some ⟨w.heap.size + 1, 0, none⟩), .pointer (some ⟨w.heap.size + 1 + 1, 0, none⟩)]) rfl trivial (enters_of Tryz.func100 (by kernel_rfl) rfl) ?_
  intro fn WL hfn hE hEs hl0 hD0
  have hEa := Nat.le_of_eq hEs
  have hEb := Nat.le_of_eq hEs.symm
  clear hEs
  refine CallsIn.mono (cut1_in (W0.heap.size + 1) (w.heap.size + 1) (w.heap.size + 1 + 1) w.heap.size w.heap.size A1 c1 l1 A2 c2 l2 WL (by omega) (Boxed.ext b2 hE) (Boxed.ext b3 hE) (HR1.out.ext (bx.trans hE) (Nat.le_refl _)) (HR2.out.ext (bx.trans hE) (Nat.le_refl _)) HZ1.out HZ2.out (Nat.le_refl _) (by omega) (by omega) (by omega)
    (fun B k W => ∃ A' c' l', Hid (l' = minusOf l1 l2 k) ∧ Boxed W w.heap.size 29 (.slice A' l'.length c') ∧ OwnsSp B W A' c' l')
    (fun W1 hx => ⟨none, 0, [], Lib.hid (by simp [minusOf]), Boxed.ext (Boxed.ext b1 hE) hx, Owns.nil _ _ _ _ _⟩) (fun B k W1 W2 ⟨A', c', l', h1, h2, h3⟩ hx => ⟨A', c', l', h1, Boxed.ext h2 hx, h3.ext hx⟩) ?hY) ?post
  case hY =>
    rintro B k hk i j W1 HPs1 HPs2 ⟨A', c', l', HL, hbo, ho⟩ hBS hB1 hB2
    have hsz1 := hBS.size
    have hrec := (hBS.block (W0.heap.size + 1) (by omega) (by unfold CutS; omega)).trans hl0
    have hlt := (Array.getElem?_eq_some_iff.1 hrec).1
    have hll : l'.length ≤ k := by rw [HL.out]; exact minusOf_len l1 l2 k
    have HSn := Lib.hid (minusOf_snoc l1 l2 k hk)
    rw [← HL.out, ← atB_has HS1.out HPs1.out, ← atB_has HS2.out HPs2.out] at HSn
    clear HPs1 HPs2
    generalize atB l1 i (Sp.pieces (endsOf l1 l2))[k].1 = q1 at *
    generalize atB l2 j (Sp.pieces (endsOf l1 l2))[k].1 = q2 at *
    generalize (Sp.pieces (endsOf l1 l2))[k] = s at *
    obtain ⟨s1, s2⟩ := s
    refine rf_round hrec hfn rfl ?_
    have HREC := Lib.hid hrec
    clear hrec
    gi_wp2
    refine ⟨(Below.heap_alloc _ _ _ (by simp; omega)).trans ((Below.heap_alloc _ _ _ hlt).trans HREC.out), ?_⟩
    intro W2 hb2 hs2 hr2
    have hbp2 : Boxed W2 w.heap.size 29 (.slice A' l'.length c') := boxed_but ((hbo.alloc _).alloc _) hb2 (by omega)
    have ho2 : OwnsSp B W2 A' c' l' := ((ho.alloc _).alloc _).but hb2 (by omega)
    have hs2a : W2.heap.size ≤ W1.heap.size + 1 + 1 := Nat.le_of_eq hs2
    have hs2b : W1.heap.size + 1 + 1 ≤ W2.heap.size := Nat.le_of_eq hs2.symm
    have hnew : W2.heap[W1.heap.size]? = some (.cells #[.int .i64 s1, .int .i64 s2] 49 (0, 0)) := (hb2.block _ (by simp; omega) (fun e => by injection e; omega)).trans ((Below.heap_alloc _ _ _ (by simp)).trans (World.alloc_heap_new W1 _))
    have hnew2 : W2.heap[W1.heap.size + 1]? = some (.cells #[.bool q1, .bool q2] 130 (0, 0)) := by
      refine (hb2.block _ (by simp) (fun e => by injection e; omega)).trans ?_
      have := World.alloc_heap_new (W1.alloc (.cells #[.int .i64 s1, .int .i64 s2] 49)) (.cells #[.bool q1, .bool q2] 130)
      rw [World.size_alloc] at this
      exact this
    have c1' : W2.cell? ⟨W1.heap.size, 0, none⟩ = some (.int .i64 s1) := by rw [cell_of_cells hnew]; rfl
    have c2' : W2.cell? ⟨W1.heap.size, 1, none⟩ = some (.int .i64 s2) := by rw [cell_of_cells hnew]; rfl
    have c4' : W2.cell? ⟨W1.heap.size + 1, 0, none⟩ = some (.bool q1) := by rw [cell_of_cells hnew2]; rfl
    have c5' : W2.cell? ⟨W1.heap.size + 1, 1, none⟩ = some (.bool q2) := by rw [cell_of_cells hnew2]; rfl
    have c3' := hbp2.cell
    have HBt2 := Lib.hid hb2
    have HR2' := Lib.hid hr2
    have HO2 := Lib.hid ho2
    have HP2 := Lib.hid hbp2
    have HW12 : Hid (ButS (fun b => CutS w.heap.size B b ∨ b = W0.heap.size + 1) W1 W2) := Lib.hid (ButS.trans (ButS.of_ext (((Ext.refl W1).alloc _).alloc _)) (ButS.of_but hb2 (.inr (.inr rfl))))
    clear hb2 hr2 hnew hnew2 hs2 ho hbo ho2 hbp2
    cases q1 with
    | true =>
      cases q2 with
      | false =>
        gi_wp2_with (gi_at_builtin; refine app_fromIn spT spE rfl _ _ rfl B _ _ l' rfl (HO2.out.alloc _) _ 1 _ [(s1, s2)] rfl rfl (new_cellsAt (by omega) _ _) (by omega) (by omega) (by simp; omega) ?_; intro A3 c3 l3 w3 HL3 HO3 hB hl1 hl2 hG; have HO3' := Lib.hid HO3; have HB3 := Lib.hid hB; have HG3 := Lib.hid hG; have hbp3 : Boxed w3 w.heap.size 29 (.slice A' l'.length c') := (hB.block _ (by omega)).trans (HP2.out.alloc _); have hc3 := hbp3.cell; have hf3 := hbp3.frozen; have HP3 := Lib.hid hbp3; have hsz3 := hB.size; clear HO3 hB hG hbp3)
        refine ⟨?_, ?_⟩
        · refine (Below.heap_setCell _ _ _ _ (by show _ ≠ w.heap.size; omega)).trans ?_
          exact (HB3.out.block _ (by omega)).trans ((Below.heap_alloc _ _ _ (by omega)).trans HR2'.out)
        intro W4 hb4 hr4
        refine ⟨rfl, ⟨A3, c3, l3, Lib.hid (by rw [HL3.out, HSn.out]; rfl), boxed_but (HP3.out.set _) hb4 (by omega), (HO3'.out.other (p := ⟨w.heap.size, 0, none⟩) (by show w.heap.size < _; omega) _).but hb4 (by omega)⟩, ?_⟩
        refine ButS.back (l := W0.heap.size + 1) ?_ (hr4.trans HREC.out.symm)
        refine ButS.trans HW12.out ?_
        refine ButS.trans (b := w3) (ButS.trans (ButS.of_ext ((Ext.refl W2).alloc _)) (ButS.of_grownBy HG3.out (fun k e => .inl (.inr (HO2.out.blk k e))))) ?_
        exact ((ButS.refl _ w3).setCell (p := ⟨w.heap.size, 0, none⟩) (.inl (.inl (.inl rfl))) _).trans (ButS.of_but hb4 (.inr (.inr rfl)))
      | true =>
        gi_wp2
        refine ⟨HR2'.out, ?_⟩
        intro W4 hb4 hr4
        refine ⟨rfl, ⟨A', c', l', Lib.hid (by rw [HSn.out]; simp), boxed_but HP2.out hb4 (by omega), HO2.out.but hb4 (by omega)⟩, ?_⟩
        refine ButS.back (l := W0.heap.size + 1) ?_ (hr4.trans HREC.out.symm)
        exact ButS.trans HW12.out (ButS.of_but hb4 (.inr (.inr rfl)))
    | false =>
      gi_wp2
      refine ⟨HR2'.out, ?_⟩
      intro W4 hb4 hr4
      refine ⟨rfl, ⟨A', c', l', Lib.hid (by rw [HSn.out]; simp), boxed_but HP2.out hb4 (by omega), HO2.out.but hb4 (by omega)⟩, ?_⟩
      refine ButS.back (l := W0.heap.size + 1) ?_ (hr4.trans HREC.out.symm)
      exact ButS.trans HW12.out (ButS.of_but hb4 (.inr (.inr rfl)))
  case post =>
    rintro e W' ⟨⟨v', rfl⟩, B, hB1, ⟨A', c', l', HL, hbo, ho⟩, hB⟩
    have hl' : l'.length ≤ (l1.length + l2.length) * 2 := by rw [HL.out]; exact Nat.le_trans (minusOf_len _ _ _) hpl
    have HBd : Hid (bdSp l') := Lib.hid (by rw [HL.out]; exact minus_bd HB1.out HB2.out _)
    have HMm : Hid (∀ x, Sp.mem l' x ↔ Sp.mem l1 x ∧ ¬ Sp.mem l2 x) := Lib.hid (fun x => by rw [HL.out]; exact minus_mem (Nat.le_refl _) x)
    refine ⟨⟨_, rfl⟩, .inl ⟨(hB.block _ (by omega) (by unfold CutS; omega)).trans hl0, ?_⟩⟩
    intro W'' hBut
    have hK : W''.heap[W0.heap.size]? = some (.deferred (some [])) := (hBut.block _ (by have := hB.size; omega) (fun e => by injection e; omega)).trans ((hB.block _ (by omega) (by unfold CutS; omega)).trans hD0)
    have hc := (boxed_but hbo hBut (by omega)).cell
    have hEx : Ext w W'' := by
      have f1 : ButS (fun k => w.heap.size ≤ k) w W' := (ButS.of_ext (bx.trans hE)).trans (hB.mono (fun k _ e => by unfold CutS at e; omega))
      have f2 : ButS (fun k => w.heap.size ≤ k) w W'' := f1.trans (ButS.of_but hBut (.inr (by omega)))
      exact f2.toExt (fun k hk => by omega)
    have hszq := hEx.size
    have HEx := Lib.hid hEx
    have hKl := (Array.getElem?_eq_some_iff.1 hK).1
    have HO := Lib.hid ((ho.but hBut (by omega)).reads spE)
    have HK := Lib.hid hK
    clear hK hl0 hD0 hbo ho hB hBut hEx b1 b2 b3
    gi_wp2_with (refine ⟨trivial, ?_⟩; gi_at_call 61; refine (callsIn_wide.2 (of_any A' c' l' _ HBd.out (by omega) HO.out)).mono ?_; rintro e W3 ⟨A3, c3, out, rfl, HS, hol, ho3, hx3⟩; have HO3 := Lib.hid ho3; have HX3 := Lib.hid hx3; clear ho3 hx3)
    have hK3 : W3.heap[W0.heap.size]? = some (.deferred (some [])) := (HX3.out.below.block _ hKl).trans HK.out
    refine ⟨by simp, .inl ⟨_, _, rfl, run_takeDeferred hK3, ?_⟩⟩
    refine ⟨_, results_tmp rfl _ _ _, A3, c3, out, rfl, ?_, by omega, ?_, ?_⟩
    · obtain ⟨k1, k2⟩ := of_set HS.out
      exact Lib.hid ⟨k1, fun x => (k2 x).trans (HMm.out x)⟩
    · exact (HO3.out.but (grownBy_putObj' W3 W0.heap.size (.deferred none)) (by omega)).lower (by omega)
    · have g1 : ButS (fun k => w.heap.size ≤ k) w W3 := ButS.of_ext (HEx.out.trans HX3.out)
      exact (g1.trans (ButS.of_but (grownBy_putObj' W3 W0.heap.size (.deferred none)) (.inr (by omega)))).toExt (fun k hk => by omega)
end Go.Proofs.YtiacnoejlmaplaaGreatDoor
