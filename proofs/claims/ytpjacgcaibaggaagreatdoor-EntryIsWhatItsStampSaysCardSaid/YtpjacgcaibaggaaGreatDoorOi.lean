/- ranges.Of. -/
import Derived.Test.YtpjacgcaibaggaaGreatDoorProg
import Derived.Test.YtpjacgcaibaggaaGreatDoorExt
import Derived.WalkKit
import Derived.WalkSpells
import Derived.WalkLawsBesides
import Derived.Deep.QuietTactic
import Derived.BigQuiet
import Derived.Test.YtpjacgcaibaggaaGreatDoorOh
set_option linter.unusedVariables false
set_option linter.unusedSimpArgs false
namespace Go.Proofs.YtpjacgcaibaggaaGreatDoor
open Go.RowKit Go.Shelf Go.Sort
open Go.Proofs
open Go.Proofs.Sp (Sp)

theorem values_any (A : Option Addr) (n c : Nat) (w : World) :
    Calls Tryz.prog 135 #[.slice A n c] w fun e w' => e = .returned (.func (.func 173) #[] #[.pointer (some ⟨w.heap.size, 0, none⟩)]) ∧ w.alloc (.cells #[.slice A n c] 56) = w' := by
  go_enter Tryz.func135, Tryz.ntmps135
  go_wp2
  go_ret
  exact ⟨rfl, rfl⟩
theorem collect_ok (bl : Nat) (A : Option Addr) (c : Nat) (ls : List Sp) (w : World) (hlen : ls.length * 16 ≤ 140737488355328) (hbl : Boxed w bl 56 (.slice A ls.length c)) (hr : ReadsSp w w.heap.size A ls) :
    Calls Tryz.prog 171 #[.func (.func 173) #[] #[.pointer (some ⟨bl, 0, none⟩)]] w fun e w' =>
      ∃ A' c', e = .returned (.slice A' ls.length c') ∧ OwnsSp w.heap.size w' A' c' ls ∧ Ext w w' := by
  have H := Lib.hid (appendSeq_ok bl A c ls w hlen hbl hr)
  clear hbl hr
  go_enter Tryz.func171, Tryz.ntmps171
  go_wp2_with (go_at_call 214; refine H.out.mono ?_; rintro e w' ⟨A', c', rfl, ho, hx⟩)
  go_ret
  exact ⟨A', c', rfl, ho, hx⟩
def bdSp (ls : List Sp) : Prop := ∀ s ∈ ls, -4611686018427387904 ≤ s.1 ∧ s.1 ≤ 4611686018427387903
/-- The starts lie in a window, so that their differences are numbers. -/
def bdW (m : Int) (ls : List Sp) : Prop := ∀ s ∈ ls, m ≤ s.1 ∧ s.1 ≤ m + 9223372036854775807
theorem bdSp.w {ls : List Sp} (h : bdSp ls) : bdW (-4611686018427387904) ls := fun s hs => by have := h s hs; omega
theorem sorted_ok (m : Int) (bl : Nat) (A : Option Addr) (c : Nat) (ls : List Sp) (w : World) (hbd : bdW m ls) (hlen : ls.length * 16 ≤ 140737488355328) (hbl : Boxed w bl 56 (.slice A ls.length c)) (hr : ReadsSp w w.heap.size A ls) :
    Calls Tryz.prog 134 #[.func (.func 173) #[] #[.pointer (some ⟨bl, 0, none⟩)], .func (.func 136) #[] #[]] w fun e w' =>
      ∃ A' c' srt, e = .returned (.slice A' srt.length c') ∧ Hid (SortedOf ls srt) ∧ Hid (srt.length = ls.length) ∧ ReadsSp w' w'.heap.size A' srt ∧ Ext w w' := by
  have H := Lib.hid (collect_ok bl A c ls w hlen hbl hr)
  have HB := Lib.hid hbd
  clear hbl hr hbd
  go_enter Tryz.func134, Tryz.ntmps134
  go_wp2_with (first
    | (go_at_call 171; refine H.out.mono ?_; rintro e w1 ⟨A', c', rfl, ho, hx⟩; have HO := Lib.hid ho; have HX := Lib.hid hx; clear ho hx)
    | (go_at_call 172; refine (sortFunc_any m w.heap.size A' c' ls _ HB.out (by omega) HO.out).mono ?_; rintro e w2 ⟨rfl, srt, h1, h2, h3, h4⟩; have H1 := h1; have H2 := h2; have H3 := Lib.hid h3; have H4 := Lib.hid h4; clear h1 h2 h3 h4))
  go_ret
  exact ⟨A', c', srt, by rw [H2.out]; rfl, H1, H2, H3.out, HX.out.grown H4.out (Nat.le_refl _)⟩

theorem own_last {base : Nat} {w : World} {A : Option Addr} {c : Nat} {pre : List Sp} {t : Sp} (h : OwnsSp base w A c (pre ++ [t])) : ∃ g, A = some ⟨g, 0, none⟩ ∧ base ≤ g ∧ g < w.heap.size ∧ w.cell? ⟨g, pre.length * 2 + 1, none⟩ = some (.int .i64 t.2) ∧
    w.frozen? ⟨g, pre.length * 2 + 1, none⟩ = false ∧ ∀ (m : Int) (w' : World), w'.heap[g]? = w.heap[g]? → OwnsSp base (w'.setCell ⟨g, pre.length * 2 + 1, none⟩ (.int .i64 m)) A c (pre ++ [(t.1, m)]) := by
  have hr := h.reads spE
  rcases h.cases with ⟨_, _, e⟩ | ⟨g, cur, rfl, h2, h3, h4, h5, h6, h7⟩
  · simp at e
  · obtain ⟨b, off, e1, _, _, c2⟩ := ReadsSp.cell hr pre.length (by simp)
    injection e1 with e1
    injection e1 with e1 e2
    subst e1 e2
    have hl : (pre ++ [t]).length = pre.length + 1 := by simp
    refine ⟨g, rfl, h2, (Array.getElem?_eq_some_iff.1 h3).1, by simpa using c2, by simp [World.frozen?, h3], fun m w' hw => ?_⟩
    have hb : (w'.setCell ⟨g, pre.length * 2 + 1, none⟩ (.int .i64 m)).heap[g]? = some (.cells (cur.setIfInBounds (pre.length * 2 + 1) (.int .i64 m)) 26 (0, 0)) := by
      simp only [World.setCell, Array.getElem?_modify, if_true, hw, h3]
      rfl
    refine Owns.mk spE h2 hb (by rw [List.length_append] at h4 ⊢; exact h4) h5 (by simpa using h6) ?_
    rw [Array.toList_setIfInBounds]
    have e3 : (pre ++ [(t.1, m)]).length = pre.length + 1 := by simp
    rw [e3]
    rw [hl] at h7
    rw [List.take_set]
    rw [h7, List.flatMap_append, List.flatMap_append]
    have e4 : (pre.flatMap encSp).length = pre.length * 2 := spE.flat_len pre
    rw [List.set_append_right _ _ (by rw [e4]; omega), e4]
    simp [encSp]

/-- The result of Of: a set of the same bytes. -/
def SetOf (p : Int → Prop) (out : List Sp) : Prop := Sp.IsSet out ∧ ∀ x, Sp.mem out x ↔ p x
theorem out_cases (out : List Sp) : out = [] ∨ ∃ pre t, out = pre ++ [t] := by
  rcases List.eq_nil_or_concat out with h | ⟨l, t, h⟩
  · exact .inl h
  · exact .inr ⟨l, t, by rw [h, List.concat_eq_append]⟩
def OfRelS (w1 : World) (srt : List Sp) (i v : Value) (wr : World) : Prop := ∃ (k : Nat) (A' : Option Addr) (c' : Nat) (out : List Sp), k ≤ srt.length ∧ i = .int .i64 k ∧ v = .slice A' out.length c' ∧ out.length ≤ k ∧ Hid (out = Sp.joined (srt.take k)) ∧ Hid (OwnsSp w1.heap.size wr A' c' out) ∧ Hid (Ext w1 wr)
theorem joined_snoc (srt : List Sp) (k : Nat) (h : k < srt.length) : Sp.joined (srt.take (k + 1)) = Sp.step (Sp.joined (srt.take k)) srt[k] := by
  unfold Sp.joined
  rw [List.take_succ_eq_append_getElem h, List.foldl_append]; rfl

set_option maxRecDepth 100000 in
set_option maxHeartbeats 2000000 in
theorem of_anyW (m : Int) (A : Option Addr) (c : Nat) (ls : List Sp) (w : World) (hbd : bdW m ls) (hlen : ls.length * 16 ≤ 140737488355000) (hr : ReadsSp w w.heap.size A ls) :
    Calls Tryz.prog 104 #[.slice A ls.length c] w fun e w' => ∃ A' c' out, e = .returned (.slice A' out.length c') ∧ Hid (∃ srt, SortedOf ls srt ∧ out = Sp.joined srt) ∧ out.length ≤ ls.length ∧ OwnsSp w.heap.size w' A' c' out ∧ Ext w w' := by
  have HR := Lib.hid hr
  have HB := Lib.hid hbd
  clear hr hbd
  go_enter Tryz.func104, Tryz.ntmps104
  go_wp2_with (first
    | (go_at_call 135; refine (values_any _ _ _ _).mono ?_; rintro e w0 ⟨rfl, rfl⟩)
    | (go_at_call 134; refine (sorted_ok m w.heap.size A c ls _ HB.out (by omega) (Boxed.new w 56 _) (HR.out.on ((Ext.refl _).alloc _))).mono ?_; rintro e w1 ⟨A1, c1, srt, rfl, HS, HL, hr1, hx1⟩; have HR1 := Lib.hid hr1; have HX1 : Hid (Ext w w1) := Lib.hid (((Ext.refl w).alloc _).trans hx1); have hlen1 : srt.length ≤ ls.length := Nat.le_of_eq HL.out; clear hr1 hx1))
  go_loopw [13, 4] (OfRelS w1 srt) (fun i _ _ => srt.length - (intOf i).toNat)
  case atStart => exact ⟨0, none, 0, [], Nat.zero_le _, rfl, rfl, Nat.le_refl _, Lib.hid rfl, Lib.hid (Owns.nil _ _ _ _ _), Lib.hid (Ext.refl _)⟩
  case round =>
    obtain ⟨k, A', c', out, hk, rfl, rfl, hol, HO, HOw, HX⟩ := hrel
    have hsz := HX.out.size
    by_cases hlt : k < srt.length
    · obtain ⟨b, off, rfl, hb, c1', c2'⟩ := ReadsSp.cell (HR1.out.ext HX.out (Nat.le_refl _)) k hlt
      have HJ := Lib.hid (joined_snoc srt k hlt)
      rw [← HO.out] at HJ
      generalize srt[k] = s at *
      obtain ⟨s1, s2⟩ := s
      simp only [] at c1' c2'
      by_cases hem : s2 ≤ s1
      · have HJ2 : Hid (out = Sp.joined (srt.take (k + 1))) := Lib.hid (by rw [HJ.out, Sp.step_empty hem])
        go_wp2
        go_roundw
        case rel => exact ⟨k + 1, A', c', out, by omega, by go_num, rfl, by omega, HJ2, Lib.hid (HOw.out.alloc _), Lib.hid (HX.out.alloc _)⟩
        case measure => simp [intOf]; omega
      · rcases out_cases out with rfl | ⟨pre, t, rfl⟩
        · have HJ2 : Hid ([(s1, s2)] = Sp.joined (srt.take (k + 1))) := Lib.hid (by rw [HJ.out, Sp.step_nil (by show s1 < s2; omega)])
          go_wp2
          refine wp_region_later (by kernel_rfl) (by kernel_rfl) ?_
          repeat (first | go_big_quiet_step (fail) | quiet_step (fail))
          refine wpQuiet_nil ?_
          rintro _ ⟨xq, rfl⟩
          go_wp2_with (at_builtin; refine app_from spT spE rfl _ _ rfl w1.heap.size _ _ [] rfl (((HOw.out.alloc _).later _).alloc _) _ 1 _ [(s1, s2)] rfl rfl (new_cellsAt (by simp [later_size]) _ _) (by simp) (by simp) (by simp [later_size] <;> omega) ?_; intro A2 c2 l2 w2 HL2 HO2 hB hl1 hl2 _; have HO2' := Lib.hid HO2; have HB2 := Lib.hid hB; clear HO2 hB)
          go_roundw
          case rel => exact ⟨k + 1, A2, c2, l2, by omega, by go_num, rfl, by simp at hl1; omega, Lib.hid (by rw [HL2.out]; exact HJ2.out), HO2', Lib.hid ((((HX.out.alloc _).onto _).alloc _).grown HB2.out (Nat.le_refl _))⟩
          case measure => simp [intOf]; omega
        · obtain ⟨g, rfl, hg1, hg2, c3, f3, hset⟩ := own_last HOw.out
          have HSet := Lib.hid hset
          clear hset
          obtain ⟨t1, t2⟩ := t
          simp only [] at c3
          have d0 : decide (0 < pre.length + 1) = true := by simp
          have d1 : decide (0 < (pre.length : Int) + 1) = true := by simp <;> omega
          have hol' : pre.length + 1 ≤ k := by simpa using hol
          by_cases hj : s1 ≤ t2
          · have HJ2 : Hid (pre ++ [(t1, max t2 s2)] = Sp.joined (srt.take (k + 1))) := Lib.hid (by rw [HJ.out, Sp.step_join (by show s1 < s2; omega) hj])
            have d2 : decide (s1 ≤ t2) = true := by simp; omega
            go_wp2
            refine wp_region_later (by kernel_rfl) (by kernel_rfl) ?_
            repeat (first | go_big_quiet_step (fail) | quiet_step (fail))
            refine wpQuiet_nil ?_
            rintro _ ⟨xq, rfl⟩
            go_wp2
            refine wp_region_later_tail 14 (by kernel_rfl) (by kernel_rfl) ?_
            simp only [List.take_succ_cons, List.take_zero, List.drop_succ_cons, List.drop_zero]
            repeat (first | go_big_quiet_step (fail) | quiet_step (fail))
            refine wpQuiet_nil ?_
            rintro _ ⟨xq, rfl⟩
            go_wp2
            go_roundw
            case rel =>
              refine ⟨k + 1, some ⟨g, 0, none⟩, c', pre ++ [(t1, max t2 s2)], by omega, by go_num, by simp, by simp <;> omega, HJ2, Lib.hid (HSet.out _ _ ?_), Lib.hid (Ext.setCell (((HX.out.alloc _).onto _).onto _) hg1 _)⟩
              exact (Ext.below (((((Ext.refl wr).alloc _).onto _).onto _))).block g hg2
            case measure => simp [intOf]; omega
          · have HJ2 : Hid (pre ++ [(t1, t2)] ++ [(s1, s2)] = Sp.joined (srt.take (k + 1))) := Lib.hid (by rw [HJ.out, Sp.step_more (by show s1 < s2; omega) (by show t2 < s1; omega)])
            have d2 : decide (s1 ≤ t2) = false := by simp; omega
            go_wp2
            refine wp_region_later (by kernel_rfl) (by kernel_rfl) ?_
            repeat (first | go_big_quiet_step (fail) | quiet_step (fail))
            refine wpQuiet_nil ?_
            rintro _ ⟨xq, rfl⟩
            go_wp2_with (at_builtin; refine app_from spT spE rfl _ _ rfl w1.heap.size _ _ (pre ++ [(t1, t2)]) (by rw [List.length_append]; rfl) (((HOw.out.alloc _).later _).alloc _) _ 1 _ [(s1, s2)] rfl rfl (new_cellsAt (by simp [later_size]) _ _) (by simp <;> omega) (by simp <;> omega) (by simp [later_size] <;> omega) ?_; intro A2 c2 l2 w2 HL2 HO2 hB hl1 hl2 _; have HO2' := Lib.hid HO2; have HB2 := Lib.hid hB; clear HO2 hB)
            go_roundw
            case rel => exact ⟨k + 1, A2, c2, l2, by omega, by go_num, rfl, by simp at hl1; omega, Lib.hid (by rw [HL2.out]; exact HJ2.out), HO2', Lib.hid ((((HX.out.alloc _).onto _).alloc _).grown HB2.out (Nat.le_refl _))⟩
            case measure => simp [intOf]; omega
    · have e : k = srt.length := by omega
      subst e
      rw [List.take_length] at HO
      go_wp2
      go_ret
      exact ⟨A', c', out, rfl, Lib.hid ⟨srt, HS.out, HO.out⟩, by omega, HOw.out.lower HX1.out.size, HX1.out.trans HX.out⟩
theorem of_any (A : Option Addr) (c : Nat) (ls : List Sp) (w : World) (hbd : bdSp ls) (hlen : ls.length * 16 ≤ 140737488355000) (hr : ReadsSp w w.heap.size A ls) :
    Calls Tryz.prog 104 #[.slice A ls.length c] w fun e w' => ∃ A' c' out, e = .returned (.slice A' out.length c') ∧ Hid (∃ srt, SortedOf ls srt ∧ out = Sp.joined srt) ∧ out.length ≤ ls.length ∧ OwnsSp w.heap.size w' A' c' out ∧ Ext w w' := of_anyW _ A c ls w hbd.w hlen hr
end Go.Proofs.YtpjacgcaibaggaaGreatDoor
