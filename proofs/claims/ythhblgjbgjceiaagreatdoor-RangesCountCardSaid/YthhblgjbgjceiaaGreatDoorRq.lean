/- Walks of ranges: Parse. -/
import Derived.Test.YthhblgjbgjceiaaGreatDoorProg
import Derived.Test.YthhblgjbgjceiaaGreatDoorExt
import Derived.WalkKit
import Derived.WalkSpells
import Derived.WalkLawsBesides
import Derived.Deep.QuietTactic
import Derived.BigQuiet
import Derived.Test.YthhblgjbgjceiaaGreatDoorRn
import Derived.Test.YthhblgjbgjceiaaGreatDoorOi
import Derived.Defers
import Derived.Recover
import Derived.Laws.Pointers
import Derived.Lib.SplitLaws
import Derived.Test.YthhblgjbgjceiaaGreatDoorMt
set_option linter.unusedVariables false
set_option linter.unusedSimpArgs false
namespace Go.Proofs.YthhblgjbgjceiaaGreatDoor
open Go.RowKit Go.Shelf
open Go.Proofs
open Go.Proofs.Sp (Sp)

@[local go_sem] theorem assert_errno (v : Value) (W : World) : (Instr.typeAssert (.iface 34 v) 20 34 false).run Tryz.prog W = .ok v W := by kernel_rfl
theorem boxedAt {w : World} {b : Nat} {t : TypeId} {v : Value} (hb : b = w.heap.size) : Boxed (w.alloc (.cells #[v] t)) b t v := by subst hb; exact Boxed.new w t v
theorem catch_panic (bl be : Nat) (x y : Value) (n : Int) (w : World) (h1 : Boxed w bl 29 x) (h2 : Boxed w be 34 y) (hne : bl ≠ be) :
    CallsD Tryz.prog 63 #[.pointer (some ⟨bl, 0, none⟩), .pointer (some ⟨be, 0, none⟩)] (.panicking ({ v := .iface 34 (.int .i64 n), recovered := false } :: [])) w fun e u' w' =>
      e = .returned (.tuple #[]) ∧ u' = .panicking ({ v := .iface 34 (.int .i64 n), recovered := true } :: []) ∧ Boxed w' bl 29 (.slice none 0 0) ∧ Boxed w' be 34 (.int .i64 n) ∧ ButS (fun k => k = bl ∨ k = be) w w' := by
  refine callsD_of_wpS Tryz.func63 rfl fun c₀ cs hu => ?_
  have g1 := h1.cell
  have g2 := h2.cell
  have g3 := h1.frozen
  have g4 := h2.frozen
  apply wpS_seq
  apply wpS_region
  simp [wpOpsS, go_sem, recoverD, hu, Tryz.ntmps63, Exit.thenS]
  apply wpS_seq
  apply wpS_region
  simp [wpOpsS, go_sem, Exit.thenS]
  refine wpS_cond (t := true) (by simp [Act.eval, Array.replicate]) ?_
  simp only [if_true]
  refine wpS_of_wp ?_
  simp only [List.size_toArray, List.length_cons, List.length_nil, Nat.reduceAdd, Nat.reduceSub, Array.replicate_succ, Array.replicate_zero, List.push_toArray, List.append_toArray, List.nil_append, List.cons_append, List.setIfInBounds_toArray, List.set_cons_succ, List.set_cons_zero, Nat.reduceLeDiff]
  go_region
  simp [bodyPostS, results, Tryz.results63]
  refine ⟨(h1.set _).other hne _, (h2.other (Ne.symm hne) _).set _, ?_⟩
  exact (((ButS.refl (fun k => k = bl ∨ k = be) w).setCell (p := ⟨bl, 0, none⟩) (Or.inl (Or.inl rfl)) _).setCell (p := ⟨be, 0, none⟩) (Or.inl (Or.inr rfl)) _).trans (ButS.of_ext (Ext.drew (Ext.refl _)))
theorem parse_arg (text : ByteArray) (size : Int) (w : World) (h : size < 0 ∨ 1099511627776 < size) :
    Calls Tryz.prog 24 #[.string text, .int .i64 size] w fun e w' => e = .returned (.tuple #[.slice none 0 0, .int .i64 1]) ∧ Ext w w' := by
  go_enter_defers Tryz.func24, Tryz.ntmps24
  go_wp2
  all_goals simp [bodyPostD, Leaves, settle, results, Tryz.results24, go_sem]
  all_goals exact (by (repeat (first | with_reducible exact Ext.refl _ | with_reducible exact Ext.refl _ | with_reducible refine Ext.drew ?_ | with_reducible refine Ext.drewN ?_ _ | with_reducible refine Ext.alloc ?_ _ | with_reducible refine Ext.onto ?_ _ | (with_reducible refine Ext.setCells ?_ ?_ _ _; rotate_left; focus (first | omega | (simp; done) | (simp; omega))) | (with_reducible refine Ext.setCell ?_ ?_ _; rotate_left; focus (first | omega | (simp; done) | (simp; omega))))))
theorem cutp_any (s : ByteArray) (w : World) : Calls Tryz.prog 64 #[.string s, .string ⟨#[98, 121, 116, 101, 115, 61]⟩] w fun e w' => e = .returned (.tuple #[.string ⟨(Lib.trimPrefix s.data.toList Rp.pre).toArray⟩, .bool (Lib.hasPrefix s.data.toList Rp.pre)]) ∧ w' = w := by
  have h := Any.strings_CutPrefix Tryz.cutPrefix s ⟨#[98, 121, 116, 101, 115, 61]⟩ w
  change Calls Tryz.prog 64 _ _ _ at h
  exact h
theorem parse_long (text : ByteArray) (size : Int) (w : World) (h : ¬ (size < 0 ∨ 1099511627776 < size)) (hl : 10000 < text.size) :
    Calls Tryz.prog 24 #[.string text, .int .i64 size] w fun e w' => e = .returned (.tuple #[.slice none 0 0, .int .i64 2]) ∧ Ext w w' := by
  go_enter_defers Tryz.func24, Tryz.ntmps24
  go_wp2
  all_goals first | (exfalso; omega) | skip
  all_goals simp [bodyPostD, Leaves, settle, results, Tryz.results24, go_sem]
  all_goals exact (by (repeat (first | with_reducible exact Ext.refl _ | with_reducible exact Ext.refl _ | with_reducible refine Ext.drew ?_ | with_reducible refine Ext.drewN ?_ _ | with_reducible refine Ext.alloc ?_ _ | with_reducible refine Ext.onto ?_ _ | (with_reducible refine Ext.setCells ?_ ?_ _ _; rotate_left; focus (first | omega | (simp; done) | (simp; omega))) | (with_reducible refine Ext.setCell ?_ ?_ _; rotate_left; focus (first | omega | (simp; done) | (simp; omega))))))
theorem parse_nopre (text : ByteArray) (size : Int) (w : World) (h : ¬ (size < 0 ∨ 1099511627776 < size)) (hl : text.size ≤ 10000) (hp : Lib.hasPrefix text.data.toList Rp.pre = false) :
    Calls Tryz.prog 24 #[.string text, .int .i64 size] w fun e w' => e = .returned (.tuple #[.slice none 0 0, .int .i64 3]) ∧ Ext w w' := by
  have hmf : ∀ (fn : Fn) (first cap : Array Value) (w : World), (Instr.makeFunc fn first cap).run Tryz.prog w = .ok (.func fn first cap) w := fun _ _ _ _ => rfl
  have HP := Lib.hid hp
  clear hp
  go_enter_defers Tryz.func24, Tryz.ntmps24
  go_wp2_with (go_at_call 64; refine (cutp_any text _).mono ?_; rw [HP.out]; rintro e w' ⟨rfl, rfl⟩)
  all_goals
    refine leaves_cons (f := 63) (args := #[.pointer (some ⟨w.heap.size, 0, none⟩), .pointer (some ⟨w.heap.size + 1, 0, none⟩)]) (by simp) (by simp [go_sem]) ?_
    refine (catch_panic w.heap.size (w.heap.size + 1) _ _ 3 _ ((Boxed.new w 29 _).alloc _) (boxedAt (by simp)) (by omega)).mono ?_
    rintro e u' w'' ⟨rfl, rfl, hc1, hc2, hB⟩
    have d1 := hc1.cell
    have d2 := hc2.cell
    simp [Leaves, settle, results, Tryz.results24, go_sem, d1, d2]
    have hxd : Ext w _ := ((ButS.of_ext (S := fun k => k = w.heap.size ∨ k = w.heap.size + 1) ((((Ext.refl w).alloc _).alloc _))).trans hB).toExt (fun k hk => by show ¬ (_ ∨ _); omega)
    first | exact hxd | exact ⟨none, 0, ⟨rfl, rfl⟩, Owns.nil _ _ _ _ _, hxd⟩
theorem catch_idle (bl be : Nat) (w : World) :
    CallsD Tryz.prog 63 #[.pointer (some ⟨bl, 0, none⟩), .pointer (some ⟨be, 0, none⟩)] .returning w fun e u' w' => e = .returned (.tuple #[]) ∧ u' = .returning ∧ w' = w := by
  refine callsD_of_wpS Tryz.func63 rfl fun c₀ cs hu => ?_
  apply wpS_seq
  apply wpS_region
  simp [wpOpsS, go_sem, recoverD, hu, Tryz.ntmps63, Exit.thenS]
  apply wpS_seq
  apply wpS_region
  simp [wpOpsS, go_sem, Exit.thenS]
  refine wpS_cond (t := false) (by simp [Act.eval, Array.replicate]) ?_
  simp only [Bool.false_eq_true, if_false]
  refine wpS_of_wp (wp_skip ?_)
  cases c₀
  simp_all [bodyPostS, results, Tryz.results63]
theorem split_any (s : ByteArray) (m : Int) (w : World) (hs : s.size ≤ 10000) (hm : w.cell? ⟨0, 0, none⟩ = some (.int .i64 m)) :
    Calls Tryz.prog 65 #[.string s, .string ⟨#[44]⟩] w fun e w' => ∃ ps : List ByteArray, Hid (ps.map (·.data.toList) = Rp.piecesOf s.data.toList) ∧ e = .returned (.slice (some ⟨w.heap.size, 0, none⟩) ps.length ps.length) ∧ w' = w.alloc (.cells (ps.map Value.string).toArray 9) := by
  have h := Any.strings_Split Tryz.splitS (by kernel_rfl) s ⟨#[44]⟩ m w (by omega) hm (by decide)
  change Calls Tryz.prog 65 _ _ _ at h
  have hl := Lib.splitB_all ⟨#[44]⟩ (by decide) 0 _ s rfl
  refine h.mono (fun e w' ⟨a, b⟩ => ⟨Lib.splitB ⟨#[44]⟩ 0 (Lib.countB s ⟨#[44]⟩) s, Lib.hid ?_, ?_, b⟩)
  · rw [Lib.splitB_data]; rfl
  · rw [a, hl]
theorem pcut_any (s : ByteArray) (m : Int) (w : World) (hs : s.size ≤ 10000) (hm : w.cell? ⟨0, 0, none⟩ = some (.int .i64 m)) (a b : List UInt8) (is : Bool) (hc : Lib.cut s.data.toList [45] = (a, b, is)) :
    Calls Tryz.prog 66 #[.string s, .string ⟨#[45]⟩] w fun e w' => e = .returned (.tuple #[.string ⟨a.toArray⟩, .string ⟨b.toArray⟩, .bool is]) ∧ Ext w w' := by
  have h := Any.strings_Cut Tryz.cutS s ⟨#[45]⟩ m w (by omega) hm
  change Calls Tryz.prog 66 _ _ _ at h
  refine h.mono (fun e w' ⟨h1, n, h2⟩ => ⟨?_, by rw [h2]; exact Ext.drewN (Ext.refl _) _⟩)
  rw [h1]
  show Ending.returned (.tuple #[.string ⟨(Lib.cut s.data.toList [45]).1.toArray⟩, .string ⟨(Lib.cut s.data.toList [45]).2.1.toArray⟩, .bool (Lib.cut s.data.toList [45]).2.2]) = _
  rw [hc]
theorem readAll_snoc (size : Int) : ∀ (l : List (List UInt8)) (p : (List UInt8)), Rp.readAll size (l ++ [p]) = (Rp.readAll size l).bind fun o => (Rp.partP size p).map fun s => o ++ [s]
  | [], p => by cases h : Rp.partP size p <;> simp [Rp.readAll, h]
  | q :: l, p => by
    rw [List.cons_append, Rp.readAll, Rp.readAll, readAll_snoc size l p]
    cases Rp.partP size q <;> cases Rp.readAll size l <;> cases Rp.partP size p <;> simp
theorem readAll_none (size : Int) : ∀ (l : List (List UInt8)) (k : Nat) (h : k < l.length), Rp.partP size l[k] = none → Rp.readAll size l = none
  | [], k, h, _ => by simp at h
  | q :: l, 0, h, e => by rw [Rp.readAll]; simp at e; rw [e]; rfl
  | q :: l, k + 1, h, e => by
    rw [Rp.readAll, readAll_none size l k (by simpa using h) (by simpa using e)]
    cases Rp.partP size q <;> rfl
/-- The bounds of what a piece says. -/
theorem part_bd {size : Int} {p : List UInt8} {s : Sp} (h0 : 0 ≤ size) (h1 : size ≤ 1099511627776) (h : Rp.partP size p = some s) : (0 ≤ s.1 ∧ s.1 ≤ 1000000000000000) ∧ 0 ≤ s.2 ∧ s.2 ≤ 1099511627776 := by
  unfold Rp.partP at h
  split at h
  · unfold Rp.readP at h
    split at h
    · cases hb : Rp.numP (Lib.cut p [45]).2.1 with
      | none => rw [hb] at h; cases h
      | some n =>
        rw [hb] at h
        have := Rp.num_bd hb
        simp only [Option.map_some, Option.some.injEq] at h
        subst h
        simp only []
        omega
    · split at h
      · cases hb : Rp.numP (Lib.cut p [45]).1 with
        | none => rw [hb] at h; cases h
        | some n =>
          rw [hb] at h
          have := Rp.num_bd hb
          simp only [Option.map_some, Option.some.injEq] at h
          subst h
          simp only []
          omega
      · cases ha : Rp.numP (Lib.cut p [45]).1 with
        | none => rw [ha] at h; cases h
        | some n =>
          cases hb : Rp.numP (Lib.cut p [45]).2.1 with
          | none => rw [ha, hb] at h; cases h
          | some m =>
            rw [ha, hb] at h
            have k1 := Rp.num_bd ha
            have k2 := Rp.num_bd hb
            simp only [Option.bind_some] at h
            split at h
            · cases h
            · simp only [Option.some.injEq] at h
              subst h
              simp only []
              omega
  · cases h
theorem mem_join_len : ∀ (l : List (List UInt8)) (p : List UInt8), p ∈ l → p.length ≤ (Lib.join l [44]).length
  | [], p, h => by cases h
  | [q], p, h => by
    simp at h; subst h
    rw [Lib.join_one]; exact Nat.le_refl _
  | q :: r :: l, p, h => by
    rw [Tg.join_two, List.length_append, List.length_cons]
    rcases List.mem_cons.1 h with h | h
    · subst h; omega
    · have := mem_join_len (r :: l) p h
      omega
theorem pieces_len {s : List UInt8} {p : List UInt8} (h : p ∈ Rp.piecesOf s) : p.length ≤ s.length := by
  have hc := Rp.pieces_cut s
  have := mem_join_len _ p h
  rwa [hc.join] at this
theorem pieces_num (s : List UInt8) : (Rp.piecesOf s).length ≤ s.length + 1 := by
  have hc := Rp.pieces_cut s
  suffices H : ∀ l : List (List UInt8), l.length ≤ (Lib.join l [44]).length + 1 by
    have := H (Rp.piecesOf s)
    rwa [hc.join] at this
  intro l
  induction l with
  | nil => simp
  | cons q l ih =>
    cases l with
    | nil => simp
    | cons r l =>
      rw [Tg.join_two, List.length_append, List.length_cons, List.length_cons]
      simp only [List.length_cons] at ih ⊢
      omega
theorem cell_lt {w : World} {p : Addr} {v : Value} (h : w.cell? p = some v) : p.block < w.heap.size := by
  rcases Nat.lt_or_ge p.block w.heap.size with k | k
  · exact k
  · exfalso
    simp only [World.cell?, Array.getElem?_eq_none k] at h
    cases h
theorem readAll_bd (size : Int) : ∀ (l : List (List UInt8)) (out : List Sp), Rp.readAll size l = some out → ∀ s ∈ out, 0 ≤ size → size ≤ 1099511627776 → (0 ≤ s.1 ∧ s.1 ≤ 1000000000000000) ∧ 0 ≤ s.2 ∧ s.2 ≤ 1099511627776
  | [], out, h, s, hs, _, _ => by
    simp only [Rp.readAll, Option.some.injEq] at h
    subst h; cases hs
  | p :: l, out, h, s, hs, h0, h1 => by
    unfold Rp.readAll at h
    cases hp : Rp.partP size p with
    | none => rw [hp] at h; cases h
    | some q =>
      cases hl : Rp.readAll size l with
      | none => rw [hp, hl] at h; cases h
      | some o =>
        rw [hp, hl] at h
        simp only [Option.bind_some, Option.map_some, Option.some.injEq] at h
        subst h
        rcases List.mem_cons.1 hs with e | e
        · subst e; exact part_bd h0 h1 hp
        · exact readAll_bd size l o hl s e h0 h1
theorem cut_len {p a b : List UInt8} {is : Bool} (h : Lib.cut p [45] = (a, b, is)) : a.length ≤ p.length ∧ b.length ≤ p.length := by
  unfold Lib.cut at h
  split at h
  · obtain ⟨e1, e2⟩ := Prod.mk.inj h
    obtain ⟨e2, _⟩ := Prod.mk.inj e2
    rw [← e1, ← e2, List.length_take, List.length_drop]
    omega
  · obtain ⟨e1, e2⟩ := Prod.mk.inj h
    obtain ⟨e2, _⟩ := Prod.mk.inj e2
    rw [← e1, ← e2]
    simp
theorem number_l (l : List UInt8) (n : Int) (h : Rp.numP l = some n) (w : World) : Calls Tryz.prog 67 #[.string ⟨l.toArray⟩] w fun e w' => e = .returned (.int .i64 n) ∧ Ext w w' := number_ok ⟨l.toArray⟩ n w h
theorem number_e (l : List UInt8) (hl : l.length ≤ 10000) (h : Rp.numP l = none) (w : World) : Calls Tryz.prog 67 #[.string ⟨l.toArray⟩] w fun e w' => e = .panicked [{ v := .iface 34 (.int .i64 3), recovered := false }] ∧ Ext w w' := number_no ⟨l.toArray⟩ w (by show l.toArray.size ≤ _; simp; omega) h
theorem cell_setCell_other {w : World} {p q : Addr} (v : Value) (h : q.block ≠ p.block) : (w.setCell p v).cell? q = w.cell? q := by
  rw [World.cell?_setCell_other]
  exact fun e => h (by rw [← e])
def ParRel (w : World) (size : Int) (P : List (List UInt8)) (ps : List ByteArray) (i : Value) (wr : World) : Prop :=
  ∃ (k : Nat) (A' : Option Addr) (c' : Nat) (out : List Sp), k ≤ ps.length ∧ i = .int .i64 k ∧ Hid (Rp.readAll size (P.take k) = some out) ∧ Hid (out.length = k) ∧ Hid (Boxed wr w.heap.size 29 (.slice A' out.length c')) ∧ Hid (Boxed wr (w.heap.size + 1) 34 (.int .i64 0)) ∧
    Hid (OwnsSp (w.heap.size + 1 + 1 + 1) wr A' c' out) ∧ Hid (Ext w wr) ∧ w.heap.size + 1 + 1 < wr.heap.size ∧ Hid (∀ j (h : j < ps.length), wr.cell? ⟨w.heap.size + 1 + 1, j, none⟩ = some (.string ps[j]))
set_option maxRecDepth 100000 in
set_option maxHeartbeats 4000000 in
theorem parse_some (text : ByteArray) (size m : Int) (w : World) (h0 : 0 ≤ size) (h1 : size ≤ 1099511627776) (hl : text.size ≤ 10000) (hp : Lib.hasPrefix text.data.toList Rp.pre = true) (u : List Sp) (n : Int)
    (hm : w.cell? ⟨0, 0, none⟩ = some (.int .i64 m)) (hu : Rp.endN ((Rp.readAll size (Rp.piecesOf (Lib.trimPrefix text.data.toList Rp.pre))).map Rp.unionN) = (u, n)) :
    Calls Tryz.prog 24 #[.string text, .int .i64 size] w fun e w' => ∃ A' c', e = .returned (.tuple #[.slice A' u.length c', .int .i64 n]) ∧ OwnsSp w.heap.size w' A' c' u ∧ Ext w w' := by
  have hmf : ∀ (fn : Fn) (first cap : Array Value) (w : World), (Instr.makeFunc fn first cap).run Tryz.prog w = .ok (.func fn first cap) w := fun _ _ _ _ => rfl
  have HP := Lib.hid hp
  have HM := Lib.hid hm
  have hmlt : 0 < w.heap.size := cell_lt hm
  have HU := Lib.hid hu
  obtain ⟨r, hr⟩ : ∃ r, Lib.trimPrefix text.data.toList Rp.pre = r := ⟨_, rfl⟩
  have hrl : r.length ≤ 10000 := by
    rw [← hr]
    unfold Lib.trimPrefix
    have : text.data.toList.length = text.size := by simp
    split <;> first | omega | (rw [List.length_drop]; omega)
  rw [hr] at HU
  have HR := Lib.hid hr
  obtain ⟨P, hP⟩ : ∃ P, Rp.piecesOf r = P := ⟨_, rfl⟩
  have hPn : P.length ≤ 10001 := by rw [← hP]; exact Nat.le_trans (pieces_num r) (by omega)
  have HPl : Hid (∀ p ∈ P, p.length ≤ 10000) := Lib.hid (fun p hp' => by rw [← hP] at hp'; exact Nat.le_trans (pieces_len hp') hrl)
  rw [hP] at HU
  have HPp := Lib.hid hP
  have hrs : (⟨r.toArray⟩ : ByteArray).size ≤ 10000 := by show r.toArray.size ≤ 10000; simpa using hrl
  clear hp hm hu hr hP
  go_enter_defers Tryz.func24, Tryz.ntmps24
  go_wp2_with (first
    | (go_at_call 64; refine (cutp_any text _).mono ?_; rw [HP.out, HR.out]; rintro e w' ⟨rfl, rfl⟩)
    | (go_at_call 65; refine (split_any ⟨r.toArray⟩ m _ hrs ((Ext.cell (p := ⟨0, 0, none⟩) (((Ext.refl w).alloc _).alloc _) hmlt).trans HM.out)).mono ?_; rintro e w' ⟨ps, hps, rfl, rfl⟩))
  all_goals first | (exfalso; omega) | skip
  have hps2 := hps.out
  rw [HPp.out] at hps2
  have hpl : ps.length = P.length := by rw [← hps2]; simp
  have HPS : Hid (∀ k (h : k < ps.length) (h2 : k < P.length), ps[k].data.toList = P[k]) := Lib.hid (fun k h h2 => by
    simp only [← hps2, List.getElem_map])
  have HPL := Lib.hid hpl
  have hpn : ps.length ≤ 10001 := by omega
  clear hps hps2 hpl
  go_loopw [38] (ParRel w size P ps) (fun i _ => ps.length - (intOf i).toNat)
  case atStart =>
    refine ⟨0, none, 0, [], Nat.zero_le _, rfl, Lib.hid rfl, Lib.hid rfl, Lib.hid (((Boxed.new w 29 _).alloc _).alloc _), Lib.hid ((boxedAt (by simp)).alloc _), Lib.hid (Owns.nil _ _ _ _ _), Lib.hid (by (repeat (first | with_reducible exact Ext.refl _ | with_reducible exact Ext.refl _ | with_reducible refine Ext.drew ?_ | with_reducible refine Ext.drewN ?_ _ | with_reducible refine Ext.alloc ?_ _ | with_reducible refine Ext.onto ?_ _ | (with_reducible refine Ext.setCells ?_ ?_ _ _; rotate_left; focus (first | omega | (simp; done) | (simp; omega))) | (with_reducible refine Ext.setCell ?_ ?_ _; rotate_left; focus (first | omega | (simp; done) | (simp; omega)))))), by simp, Lib.hid (fun j hj => ?_)⟩
    have := new_cellsAt (w := (w.alloc (.cells #[.slice none 0 0] 29)).alloc (.cells #[.int .i64 0] 34)) (b := w.heap.size + 1 + 1) (by simp) (ps.map Value.string).toArray 9 j (.string ps[j]) (by simp [hj])
    rw [Addr.add_lit, Nat.zero_add] at this
    exact this
  case round =>
    obtain ⟨k, A', c', out, hk, rfl, HO, hol, HBL, HBE, HOw, HX, hbp, HPc⟩ := hrel
    have holb : out.length ≤ 10001 := by rw [hol.out]; omega
    have hmw : 0 < wr.heap.size := Nat.lt_of_lt_of_le hmlt HX.out.size
    have hmc : wr.cell? ⟨0, 0, none⟩ = some (.int .i64 m) := (Ext.cell (p := ⟨0, 0, none⟩) HX.out hmlt).trans HM.out
    have HMC := Lib.hid hmc
    clear hmc
    by_cases hlts : k < ps.length
    · have hlt : k < P.length := by have := HPL.out; omega
      have y1 := HPc.out k hlts
      have hd := HPS.out k hlts hlt
      have hbd := HPl.out P[k] (List.getElem_mem hlt)
      have HJ := Lib.hid (readAll_snoc size (P.take k) P[k])
      rw [← List.take_succ_eq_append_getElem hlt, HO.out] at HJ
      have hNn := readAll_none size P k hlt
      generalize ps[k] = s at *
      obtain ⟨⟨a, b, is⟩, hc⟩ : ∃ c, Lib.cut P[k] [45] = c := ⟨_, rfl⟩
      have hpt : Rp.partP size P[k] = if is = true then Rp.readP size a b else none := by unfold Rp.partP; rw [hc]
      have hcl := cut_len hc
      have hpb := fun (q : Sp) (hq : Rp.partP size P[k] = some q) => part_bd h0 h1 hq
      rw [← hd] at hc
      generalize P[k] = p at *
      have hal : a.length ≤ 10000 := by omega
      have hbl' : b.length ≤ 10000 := by omega
      have HDie : Hid (Rp.partP size p = none → u = [] ∧ n = 3) := Lib.hid (fun h => by
        have := HU.out
        rw [hNn h] at this
        obtain ⟨e1, e2⟩ := Prod.mk.inj this
        exact ⟨e1.symm, e2.symm⟩)
      have hss : s.size ≤ 10000 := by
        have : s.data.toList.length = s.size := by simp
        rw [← this, hd]; exact hbd
      have HCt := Lib.hid (fun W (hx : Ext wr W) => pcut_any s m W hss ((Ext.cell (p := ⟨0, 0, none⟩) hx hmw).trans HMC.out) a b is hc)
      have HPt := Lib.hid hpt
      have HPb := Lib.hid hpb
      have g1 := HBL.out.cell
      have g2 := HBE.out.cell
      have g3 := HBL.out.frozen
      have g4 := HBE.out.frozen
      clear hNn hpt hcl hpb hd hbd hc hss HPS HPl hlt hPn
      have HN1 : Hid True := Lib.hid trivial
      have HN2 : Hid True := Lib.hid trivial
      cases is with
      | false =>
        have hn : Rp.partP size p = none := HPt.out
        obtain ⟨rfl, rfl⟩ := HDie.out hn
        clear hn
        go_wp2_with (first
          | (go_at_call 66; refine (HCt.out _ (by (repeat (first | with_reducible exact Ext.refl _ | with_reducible exact Ext.refl _ | with_reducible refine Ext.drew ?_ | with_reducible refine Ext.drewN ?_ _ | with_reducible refine Ext.alloc ?_ _ | with_reducible refine Ext.onto ?_ _ | (with_reducible refine Ext.setCells ?_ ?_ _ _; rotate_left; focus (first | omega | (simp; done) | (simp; omega))) | (with_reducible refine Ext.setCell ?_ ?_ _; rotate_left; focus (first | omega | (simp; done) | (simp; omega))))))).mono ?_; rintro e w' ⟨rfl, hxl⟩; obtain ⟨xl, rfl⟩ := hxl.asLater; clear hxl)
          | (go_at_call 67; first | (with_reducible refine (HN1.out _).mono ?_; rintro e w' ⟨rfl, hxl⟩; obtain ⟨xl, rfl⟩ := hxl.asLater; clear hxl) | (with_reducible refine (HN2.out _).mono ?_; rintro e w' ⟨rfl, hxl⟩; obtain ⟨xl, rfl⟩ := hxl.asLater; clear hxl))
          | (at_builtin; refine app_from spT spE rfl _ _ rfl (w.heap.size + 1 + 1 + 1) _ _ out rfl (HOw.out.ext (by (repeat (first | with_reducible exact Ext.refl _ | with_reducible exact Ext.refl _ | with_reducible refine Ext.drew ?_ | with_reducible refine Ext.drewN ?_ _ | with_reducible refine Ext.alloc ?_ _ | with_reducible refine Ext.onto ?_ _ | (with_reducible refine Ext.setCells ?_ ?_ _ _; rotate_left; focus (first | omega | (simp; done) | (simp; omega))) | (with_reducible refine Ext.setCell ?_ ?_ _; rotate_left; focus (first | omega | (simp; done) | (simp; omega))))))) _ 1 _ [(0, 0)] rfl rfl (new_cellsAt (by simp [later_size]) _ _) (by omega) (by omega) (by simp [later_size] <;> omega) ?_; intro A3 c3 l3 w3 HL3 HO3 hB hl1 hl2 hG; have HO3' := Lib.hid HO3; have HB3 := Lib.hid hB; have hbx3 : Boxed w3 w.heap.size 29 (.slice A' out.length c') := (hB.block _ (by omega)).trans (Boxed.ext HBL.out (by (repeat (first | with_reducible exact Ext.refl _ | with_reducible exact Ext.refl _ | with_reducible refine Ext.drew ?_ | with_reducible refine Ext.drewN ?_ _ | with_reducible refine Ext.alloc ?_ _ | with_reducible refine Ext.onto ?_ _ | (with_reducible refine Ext.setCells ?_ ?_ _ _; rotate_left; focus (first | omega | (simp; done) | (simp; omega))) | (with_reducible refine Ext.setCell ?_ ?_ _; rotate_left; focus (first | omega | (simp; done) | (simp; omega))))))); have hc3 := hbx3.cell; have hf3 := hbx3.frozen; have HX3 : Hid (Ext w w3) := Lib.hid ((HX.out.trans (show Ext wr _ from (by (repeat (first | with_reducible exact Ext.refl _ | with_reducible exact Ext.refl _ | with_reducible refine Ext.drew ?_ | with_reducible refine Ext.drewN ?_ _ | with_reducible refine Ext.alloc ?_ _ | with_reducible refine Ext.onto ?_ _ | (with_reducible refine Ext.setCells ?_ ?_ _ _; rotate_left; focus (first | omega | (simp; done) | (simp; omega))) | (with_reducible refine Ext.setCell ?_ ?_ _; rotate_left; focus (first | omega | (simp; done) | (simp; omega)))))))).grown hB (by omega)); have HBX3 := Lib.hid hbx3; clear HO3 hG hbx3))
        all_goals first | (exfalso; simp_all; done) | skip
        all_goals
          refine leaves_cons (f := 63) (args := #[.pointer (some ⟨w.heap.size, 0, none⟩), .pointer (some ⟨w.heap.size + 1, 0, none⟩)]) (by simp) (by simp [go_sem]) ?_
          refine (catch_panic w.heap.size (w.heap.size + 1) _ _ 3 _ (Boxed.ext HBL.out (by (repeat (first | with_reducible exact Ext.refl _ | with_reducible exact Ext.refl _ | with_reducible refine Ext.drew ?_ | with_reducible refine Ext.drewN ?_ _ | with_reducible refine Ext.alloc ?_ _ | with_reducible refine Ext.onto ?_ _ | (with_reducible refine Ext.setCells ?_ ?_ _ _; rotate_left; focus (first | omega | (simp; done) | (simp; omega))) | (with_reducible refine Ext.setCell ?_ ?_ _; rotate_left; focus (first | omega | (simp; done) | (simp; omega))))))) (Boxed.ext HBE.out (by (repeat (first | with_reducible exact Ext.refl _ | with_reducible exact Ext.refl _ | with_reducible refine Ext.drew ?_ | with_reducible refine Ext.drewN ?_ _ | with_reducible refine Ext.alloc ?_ _ | with_reducible refine Ext.onto ?_ _ | (with_reducible refine Ext.setCells ?_ ?_ _ _; rotate_left; focus (first | omega | (simp; done) | (simp; omega))) | (with_reducible refine Ext.setCell ?_ ?_ _; rotate_left; focus (first | omega | (simp; done) | (simp; omega))))))) (by omega)).mono ?_
          rintro e u' w'' ⟨rfl, rfl, hc1, hc2, hB⟩
          have d1 := hc1.cell
          have d2 := hc2.cell
          simp [Leaves, settle, results, Tryz.results24, go_sem, d1, d2]
          have hxd : Ext w _ := ((ButS.of_ext (S := fun k => k = w.heap.size ∨ k = w.heap.size + 1) (HX.out.trans (by (repeat (first | with_reducible exact Ext.refl _ | with_reducible exact Ext.refl _ | with_reducible refine Ext.drew ?_ | with_reducible refine Ext.drewN ?_ _ | with_reducible refine Ext.alloc ?_ _ | with_reducible refine Ext.onto ?_ _ | (with_reducible refine Ext.setCells ?_ ?_ _ _; rotate_left; focus (first | omega | (simp; done) | (simp; omega))) | (with_reducible refine Ext.setCell ?_ ?_ _; rotate_left; focus (first | omega | (simp; done) | (simp; omega)))))))).trans hB).toExt (fun k hk => by show ¬ (_ ∨ _); omega)
          first | exact hxd | exact ⟨none, 0, ⟨rfl, rfl⟩, Owns.nil _ _ _ _ _, hxd⟩
      | true =>
        have hrd : Rp.partP size p = Rp.readP size a b := HPt.out
        unfold Rp.readP at hrd
        clear HPt
        by_cases ha : a = []
        · rw [if_pos ha] at hrd
          subst ha
          cases hb : Rp.numP b with
          | none =>
            have hn : Rp.partP size p = none := by rw [hrd, hb]; rfl
            obtain ⟨rfl, rfl⟩ := HDie.out hn
            have HN1 := Lib.hid (number_e b hbl' hb)
            clear hn hrd hb
            go_wp2_with (first
              | (go_at_call 66; refine (HCt.out _ (by (repeat (first | with_reducible exact Ext.refl _ | with_reducible exact Ext.refl _ | with_reducible refine Ext.drew ?_ | with_reducible refine Ext.drewN ?_ _ | with_reducible refine Ext.alloc ?_ _ | with_reducible refine Ext.onto ?_ _ | (with_reducible refine Ext.setCells ?_ ?_ _ _; rotate_left; focus (first | omega | (simp; done) | (simp; omega))) | (with_reducible refine Ext.setCell ?_ ?_ _; rotate_left; focus (first | omega | (simp; done) | (simp; omega))))))).mono ?_; rintro e w' ⟨rfl, hxl⟩; obtain ⟨xl, rfl⟩ := hxl.asLater; clear hxl)
              | (go_at_call 67; first | (with_reducible refine (HN1.out _).mono ?_; rintro e w' ⟨rfl, hxl⟩; obtain ⟨xl, rfl⟩ := hxl.asLater; clear hxl) | (with_reducible refine (HN2.out _).mono ?_; rintro e w' ⟨rfl, hxl⟩; obtain ⟨xl, rfl⟩ := hxl.asLater; clear hxl))
              | (at_builtin; refine app_from spT spE rfl _ _ rfl (w.heap.size + 1 + 1 + 1) _ _ out rfl (HOw.out.ext (by (repeat (first | with_reducible exact Ext.refl _ | with_reducible exact Ext.refl _ | with_reducible refine Ext.drew ?_ | with_reducible refine Ext.drewN ?_ _ | with_reducible refine Ext.alloc ?_ _ | with_reducible refine Ext.onto ?_ _ | (with_reducible refine Ext.setCells ?_ ?_ _ _; rotate_left; focus (first | omega | (simp; done) | (simp; omega))) | (with_reducible refine Ext.setCell ?_ ?_ _; rotate_left; focus (first | omega | (simp; done) | (simp; omega))))))) _ 1 _ [(0, 0)] rfl rfl (new_cellsAt (by simp [later_size]) _ _) (by omega) (by omega) (by simp [later_size] <;> omega) ?_; intro A3 c3 l3 w3 HL3 HO3 hB hl1 hl2 hG; have HO3' := Lib.hid HO3; have HB3 := Lib.hid hB; have hbx3 : Boxed w3 w.heap.size 29 (.slice A' out.length c') := (hB.block _ (by omega)).trans (Boxed.ext HBL.out (by (repeat (first | with_reducible exact Ext.refl _ | with_reducible exact Ext.refl _ | with_reducible refine Ext.drew ?_ | with_reducible refine Ext.drewN ?_ _ | with_reducible refine Ext.alloc ?_ _ | with_reducible refine Ext.onto ?_ _ | (with_reducible refine Ext.setCells ?_ ?_ _ _; rotate_left; focus (first | omega | (simp; done) | (simp; omega))) | (with_reducible refine Ext.setCell ?_ ?_ _; rotate_left; focus (first | omega | (simp; done) | (simp; omega))))))); have hc3 := hbx3.cell; have hf3 := hbx3.frozen; have HX3 : Hid (Ext w w3) := Lib.hid ((HX.out.trans (show Ext wr _ from (by (repeat (first | with_reducible exact Ext.refl _ | with_reducible exact Ext.refl _ | with_reducible refine Ext.drew ?_ | with_reducible refine Ext.drewN ?_ _ | with_reducible refine Ext.alloc ?_ _ | with_reducible refine Ext.onto ?_ _ | (with_reducible refine Ext.setCells ?_ ?_ _ _; rotate_left; focus (first | omega | (simp; done) | (simp; omega))) | (with_reducible refine Ext.setCell ?_ ?_ _; rotate_left; focus (first | omega | (simp; done) | (simp; omega)))))))).grown hB (by omega)); have HBX3 := Lib.hid hbx3; clear HO3 hG hbx3))
            all_goals first | (exfalso; simp_all; done) | skip
            all_goals
              refine leaves_cons (f := 63) (args := #[.pointer (some ⟨w.heap.size, 0, none⟩), .pointer (some ⟨w.heap.size + 1, 0, none⟩)]) (by simp) (by simp [go_sem]) ?_
              refine (catch_panic w.heap.size (w.heap.size + 1) _ _ 3 _ (Boxed.ext HBL.out (by (repeat (first | with_reducible exact Ext.refl _ | with_reducible exact Ext.refl _ | with_reducible refine Ext.drew ?_ | with_reducible refine Ext.drewN ?_ _ | with_reducible refine Ext.alloc ?_ _ | with_reducible refine Ext.onto ?_ _ | (with_reducible refine Ext.setCells ?_ ?_ _ _; rotate_left; focus (first | omega | (simp; done) | (simp; omega))) | (with_reducible refine Ext.setCell ?_ ?_ _; rotate_left; focus (first | omega | (simp; done) | (simp; omega))))))) (Boxed.ext HBE.out (by (repeat (first | with_reducible exact Ext.refl _ | with_reducible exact Ext.refl _ | with_reducible refine Ext.drew ?_ | with_reducible refine Ext.drewN ?_ _ | with_reducible refine Ext.alloc ?_ _ | with_reducible refine Ext.onto ?_ _ | (with_reducible refine Ext.setCells ?_ ?_ _ _; rotate_left; focus (first | omega | (simp; done) | (simp; omega))) | (with_reducible refine Ext.setCell ?_ ?_ _; rotate_left; focus (first | omega | (simp; done) | (simp; omega))))))) (by omega)).mono ?_
              rintro e u' w'' ⟨rfl, rfl, hc1, hc2, hB⟩
              have d1 := hc1.cell
              have d2 := hc2.cell
              simp [Leaves, settle, results, Tryz.results24, go_sem, d1, d2]
              have hxd : Ext w _ := ((ButS.of_ext (S := fun k => k = w.heap.size ∨ k = w.heap.size + 1) (HX.out.trans (by (repeat (first | with_reducible exact Ext.refl _ | with_reducible exact Ext.refl _ | with_reducible refine Ext.drew ?_ | with_reducible refine Ext.drewN ?_ _ | with_reducible refine Ext.alloc ?_ _ | with_reducible refine Ext.onto ?_ _ | (with_reducible refine Ext.setCells ?_ ?_ _ _; rotate_left; focus (first | omega | (simp; done) | (simp; omega))) | (with_reducible refine Ext.setCell ?_ ?_ _; rotate_left; focus (first | omega | (simp; done) | (simp; omega)))))))).trans hB).toExt (fun k hk => by show ¬ (_ ∨ _); omega)
              first | exact hxd | exact ⟨none, 0, ⟨rfl, rfl⟩, Owns.nil _ _ _ _ _, hxd⟩
          | some nb =>
            have HS : Hid (Rp.partP size p = some (max 0 (size - nb), size)) := Lib.hid (by rw [hrd, hb]; rfl)
            have HN1 := Lib.hid (number_l b nb hb)
            have hnb := Rp.num_bd hb
            obtain ⟨n0, n1⟩ := hnb
            clear hrd hb
            go_wp2_with (first
              | (go_at_call 66; refine (HCt.out _ (by (repeat (first | with_reducible exact Ext.refl _ | with_reducible exact Ext.refl _ | with_reducible refine Ext.drew ?_ | with_reducible refine Ext.drewN ?_ _ | with_reducible refine Ext.alloc ?_ _ | with_reducible refine Ext.onto ?_ _ | (with_reducible refine Ext.setCells ?_ ?_ _ _; rotate_left; focus (first | omega | (simp; done) | (simp; omega))) | (with_reducible refine Ext.setCell ?_ ?_ _; rotate_left; focus (first | omega | (simp; done) | (simp; omega))))))).mono ?_; rintro e w' ⟨rfl, hxl⟩; obtain ⟨xl, rfl⟩ := hxl.asLater; clear hxl)
              | (go_at_call 67; first | (with_reducible refine (HN1.out _).mono ?_; rintro e w' ⟨rfl, hxl⟩; obtain ⟨xl, rfl⟩ := hxl.asLater; clear hxl) | (with_reducible refine (HN2.out _).mono ?_; rintro e w' ⟨rfl, hxl⟩; obtain ⟨xl, rfl⟩ := hxl.asLater; clear hxl))
              | (at_builtin; refine app_from spT spE rfl _ _ rfl (w.heap.size + 1 + 1 + 1) _ _ out rfl (HOw.out.ext (by (repeat (first | with_reducible exact Ext.refl _ | with_reducible exact Ext.refl _ | with_reducible refine Ext.drew ?_ | with_reducible refine Ext.drewN ?_ _ | with_reducible refine Ext.alloc ?_ _ | with_reducible refine Ext.onto ?_ _ | (with_reducible refine Ext.setCells ?_ ?_ _ _; rotate_left; focus (first | omega | (simp; done) | (simp; omega))) | (with_reducible refine Ext.setCell ?_ ?_ _; rotate_left; focus (first | omega | (simp; done) | (simp; omega))))))) _ 1 _ [(max 0 (size - nb), size)] rfl rfl (new_cellsAt (by simp [later_size]) _ _) (by omega) (by omega) (by simp [later_size] <;> omega) ?_; intro A3 c3 l3 w3 HL3 HO3 hB hl1 hl2 hG; have HO3' := Lib.hid HO3; have HB3 := Lib.hid hB; have hbx3 : Boxed w3 w.heap.size 29 (.slice A' out.length c') := (hB.block _ (by omega)).trans (Boxed.ext HBL.out (by (repeat (first | with_reducible exact Ext.refl _ | with_reducible exact Ext.refl _ | with_reducible refine Ext.drew ?_ | with_reducible refine Ext.drewN ?_ _ | with_reducible refine Ext.alloc ?_ _ | with_reducible refine Ext.onto ?_ _ | (with_reducible refine Ext.setCells ?_ ?_ _ _; rotate_left; focus (first | omega | (simp; done) | (simp; omega))) | (with_reducible refine Ext.setCell ?_ ?_ _; rotate_left; focus (first | omega | (simp; done) | (simp; omega))))))); have hc3 := hbx3.cell; have hf3 := hbx3.frozen; have HX3 : Hid (Ext w w3) := Lib.hid ((HX.out.trans (show Ext wr _ from (by (repeat (first | with_reducible exact Ext.refl _ | with_reducible exact Ext.refl _ | with_reducible refine Ext.drew ?_ | with_reducible refine Ext.drewN ?_ _ | with_reducible refine Ext.alloc ?_ _ | with_reducible refine Ext.onto ?_ _ | (with_reducible refine Ext.setCells ?_ ?_ _ _; rotate_left; focus (first | omega | (simp; done) | (simp; omega))) | (with_reducible refine Ext.setCell ?_ ?_ _; rotate_left; focus (first | omega | (simp; done) | (simp; omega)))))))).grown hB (by omega)); have HBX3 := Lib.hid hbx3; clear HO3 hG hbx3))
            all_goals first | (exfalso; simp_all; done) | skip
            all_goals
              go_roundw
              case rel =>
                have hq := HL3.out
                have hin : w.heap.size < w.heap.size + 1 + 1 + 1 := by omega
                refine ⟨k + 1, A3, c3, l3, by omega, by go_num, Lib.hid (by rw [HJ.out, HS.out, hq]; rfl), Lib.hid (by rw [hq, List.length_append, hol.out]; rfl), Lib.hid (HBX3.out.set _), Lib.hid ?_, Lib.hid (HO3'.out.other (p := ⟨w.heap.size, 0, none⟩) hin _), Lib.hid (HX3.out.setCell (p := ⟨w.heap.size, 0, none⟩) (Nat.le_refl _) _), ?_, Lib.hid (fun j hj => ?_)⟩
                · have hx := HBE.out
                  exact Boxed.other ((HB3.out.block _ (by omega)).trans (Boxed.ext hx (by (repeat (first | with_reducible exact Ext.refl _ | with_reducible exact Ext.refl _ | with_reducible refine Ext.drew ?_ | with_reducible refine Ext.drewN ?_ _ | with_reducible refine Ext.alloc ?_ _ | with_reducible refine Ext.onto ?_ _ | (with_reducible refine Ext.setCells ?_ ?_ _ _; rotate_left; focus (first | omega | (simp; done) | (simp; omega))) | (with_reducible refine Ext.setCell ?_ ?_ _; rotate_left; focus (first | omega | (simp; done) | (simp; omega)))))))) (by omega) _
                · have h1 := HB3.out.size
                  simp [later_size] at h1 ⊢
                  omega
                · refine Eq.trans (cell_setCell_other _ (by show w.heap.size + 1 + 1 ≠ w.heap.size; omega)) ?_
                  refine (HB3.out.cell (p := ⟨w.heap.size + 1 + 1, j, none⟩) (by show w.heap.size + 1 + 1 < _; omega)).trans ?_
                  exact (Ext.cell (p := ⟨w.heap.size + 1 + 1, j, none⟩) (by (repeat (first | with_reducible exact Ext.refl _ | with_reducible exact Ext.refl _ | with_reducible refine Ext.drew ?_ | with_reducible refine Ext.drewN ?_ _ | with_reducible refine Ext.alloc ?_ _ | with_reducible refine Ext.onto ?_ _ | (with_reducible refine Ext.setCells ?_ ?_ _ _; rotate_left; focus (first | omega | (simp; done) | (simp; omega))) | (with_reducible refine Ext.setCell ?_ ?_ _; rotate_left; focus (first | omega | (simp; done) | (simp; omega)))))) hbp).trans (HPc.out j hj)
              case measure => simp [intOf]; omega
        · rw [if_neg ha] at hrd
          have hae : a.isEmpty = false := by cases a <;> simp_all
          by_cases hbn : b = []
          · rw [if_pos hbn] at hrd
            subst hbn
            clear ha
            cases hna : Rp.numP a with
            | none =>
              have hn : Rp.partP size p = none := by rw [hrd, hna]; rfl
              obtain ⟨rfl, rfl⟩ := HDie.out hn
              have HN1 := Lib.hid (number_e a hal hna)
              clear hn hrd hna
              go_wp2_with (first
                | (go_at_call 66; refine (HCt.out _ (by (repeat (first | with_reducible exact Ext.refl _ | with_reducible exact Ext.refl _ | with_reducible refine Ext.drew ?_ | with_reducible refine Ext.drewN ?_ _ | with_reducible refine Ext.alloc ?_ _ | with_reducible refine Ext.onto ?_ _ | (with_reducible refine Ext.setCells ?_ ?_ _ _; rotate_left; focus (first | omega | (simp; done) | (simp; omega))) | (with_reducible refine Ext.setCell ?_ ?_ _; rotate_left; focus (first | omega | (simp; done) | (simp; omega))))))).mono ?_; rintro e w' ⟨rfl, hxl⟩; obtain ⟨xl, rfl⟩ := hxl.asLater; clear hxl)
                | (go_at_call 67; first | (with_reducible refine (HN1.out _).mono ?_; rintro e w' ⟨rfl, hxl⟩; obtain ⟨xl, rfl⟩ := hxl.asLater; clear hxl) | (with_reducible refine (HN2.out _).mono ?_; rintro e w' ⟨rfl, hxl⟩; obtain ⟨xl, rfl⟩ := hxl.asLater; clear hxl))
                | (at_builtin; refine app_from spT spE rfl _ _ rfl (w.heap.size + 1 + 1 + 1) _ _ out rfl (HOw.out.ext (by (repeat (first | with_reducible exact Ext.refl _ | with_reducible exact Ext.refl _ | with_reducible refine Ext.drew ?_ | with_reducible refine Ext.drewN ?_ _ | with_reducible refine Ext.alloc ?_ _ | with_reducible refine Ext.onto ?_ _ | (with_reducible refine Ext.setCells ?_ ?_ _ _; rotate_left; focus (first | omega | (simp; done) | (simp; omega))) | (with_reducible refine Ext.setCell ?_ ?_ _; rotate_left; focus (first | omega | (simp; done) | (simp; omega))))))) _ 1 _ [(0, 0)] rfl rfl (new_cellsAt (by simp [later_size]) _ _) (by omega) (by omega) (by simp [later_size] <;> omega) ?_; intro A3 c3 l3 w3 HL3 HO3 hB hl1 hl2 hG; have HO3' := Lib.hid HO3; have HB3 := Lib.hid hB; have hbx3 : Boxed w3 w.heap.size 29 (.slice A' out.length c') := (hB.block _ (by omega)).trans (Boxed.ext HBL.out (by (repeat (first | with_reducible exact Ext.refl _ | with_reducible exact Ext.refl _ | with_reducible refine Ext.drew ?_ | with_reducible refine Ext.drewN ?_ _ | with_reducible refine Ext.alloc ?_ _ | with_reducible refine Ext.onto ?_ _ | (with_reducible refine Ext.setCells ?_ ?_ _ _; rotate_left; focus (first | omega | (simp; done) | (simp; omega))) | (with_reducible refine Ext.setCell ?_ ?_ _; rotate_left; focus (first | omega | (simp; done) | (simp; omega))))))); have hc3 := hbx3.cell; have hf3 := hbx3.frozen; have HX3 : Hid (Ext w w3) := Lib.hid ((HX.out.trans (show Ext wr _ from (by (repeat (first | with_reducible exact Ext.refl _ | with_reducible exact Ext.refl _ | with_reducible refine Ext.drew ?_ | with_reducible refine Ext.drewN ?_ _ | with_reducible refine Ext.alloc ?_ _ | with_reducible refine Ext.onto ?_ _ | (with_reducible refine Ext.setCells ?_ ?_ _ _; rotate_left; focus (first | omega | (simp; done) | (simp; omega))) | (with_reducible refine Ext.setCell ?_ ?_ _; rotate_left; focus (first | omega | (simp; done) | (simp; omega)))))))).grown hB (by omega)); have HBX3 := Lib.hid hbx3; clear HO3 hG hbx3))
              all_goals first | (exfalso; simp_all; done) | skip
              all_goals
                refine leaves_cons (f := 63) (args := #[.pointer (some ⟨w.heap.size, 0, none⟩), .pointer (some ⟨w.heap.size + 1, 0, none⟩)]) (by simp) (by simp [go_sem]) ?_
                refine (catch_panic w.heap.size (w.heap.size + 1) _ _ 3 _ (Boxed.ext HBL.out (by (repeat (first | with_reducible exact Ext.refl _ | with_reducible exact Ext.refl _ | with_reducible refine Ext.drew ?_ | with_reducible refine Ext.drewN ?_ _ | with_reducible refine Ext.alloc ?_ _ | with_reducible refine Ext.onto ?_ _ | (with_reducible refine Ext.setCells ?_ ?_ _ _; rotate_left; focus (first | omega | (simp; done) | (simp; omega))) | (with_reducible refine Ext.setCell ?_ ?_ _; rotate_left; focus (first | omega | (simp; done) | (simp; omega))))))) (Boxed.ext HBE.out (by (repeat (first | with_reducible exact Ext.refl _ | with_reducible exact Ext.refl _ | with_reducible refine Ext.drew ?_ | with_reducible refine Ext.drewN ?_ _ | with_reducible refine Ext.alloc ?_ _ | with_reducible refine Ext.onto ?_ _ | (with_reducible refine Ext.setCells ?_ ?_ _ _; rotate_left; focus (first | omega | (simp; done) | (simp; omega))) | (with_reducible refine Ext.setCell ?_ ?_ _; rotate_left; focus (first | omega | (simp; done) | (simp; omega))))))) (by omega)).mono ?_
                rintro e u' w'' ⟨rfl, rfl, hc1, hc2, hB⟩
                have d1 := hc1.cell
                have d2 := hc2.cell
                simp [Leaves, settle, results, Tryz.results24, go_sem, d1, d2]
                have hxd : Ext w _ := ((ButS.of_ext (S := fun k => k = w.heap.size ∨ k = w.heap.size + 1) (HX.out.trans (by (repeat (first | with_reducible exact Ext.refl _ | with_reducible exact Ext.refl _ | with_reducible refine Ext.drew ?_ | with_reducible refine Ext.drewN ?_ _ | with_reducible refine Ext.alloc ?_ _ | with_reducible refine Ext.onto ?_ _ | (with_reducible refine Ext.setCells ?_ ?_ _ _; rotate_left; focus (first | omega | (simp; done) | (simp; omega))) | (with_reducible refine Ext.setCell ?_ ?_ _; rotate_left; focus (first | omega | (simp; done) | (simp; omega)))))))).trans hB).toExt (fun k hk => by show ¬ (_ ∨ _); omega)
                first | exact hxd | exact ⟨none, 0, ⟨rfl, rfl⟩, Owns.nil _ _ _ _ _, hxd⟩
            | some na =>
              have HS : Hid (Rp.partP size p = some (na, size)) := Lib.hid (by rw [hrd, hna]; rfl)
              have HN1 := Lib.hid (number_l a na hna)
              obtain ⟨n0, n1⟩ := Rp.num_bd hna
              clear hrd hna
              go_wp2_with (first
                | (go_at_call 66; refine (HCt.out _ (by (repeat (first | with_reducible exact Ext.refl _ | with_reducible exact Ext.refl _ | with_reducible refine Ext.drew ?_ | with_reducible refine Ext.drewN ?_ _ | with_reducible refine Ext.alloc ?_ _ | with_reducible refine Ext.onto ?_ _ | (with_reducible refine Ext.setCells ?_ ?_ _ _; rotate_left; focus (first | omega | (simp; done) | (simp; omega))) | (with_reducible refine Ext.setCell ?_ ?_ _; rotate_left; focus (first | omega | (simp; done) | (simp; omega))))))).mono ?_; rintro e w' ⟨rfl, hxl⟩; obtain ⟨xl, rfl⟩ := hxl.asLater; clear hxl)
                | (go_at_call 67; first | (with_reducible refine (HN1.out _).mono ?_; rintro e w' ⟨rfl, hxl⟩; obtain ⟨xl, rfl⟩ := hxl.asLater; clear hxl) | (with_reducible refine (HN2.out _).mono ?_; rintro e w' ⟨rfl, hxl⟩; obtain ⟨xl, rfl⟩ := hxl.asLater; clear hxl))
                | (at_builtin; refine app_from spT spE rfl _ _ rfl (w.heap.size + 1 + 1 + 1) _ _ out rfl (HOw.out.ext (by (repeat (first | with_reducible exact Ext.refl _ | with_reducible exact Ext.refl _ | with_reducible refine Ext.drew ?_ | with_reducible refine Ext.drewN ?_ _ | with_reducible refine Ext.alloc ?_ _ | with_reducible refine Ext.onto ?_ _ | (with_reducible refine Ext.setCells ?_ ?_ _ _; rotate_left; focus (first | omega | (simp; done) | (simp; omega))) | (with_reducible refine Ext.setCell ?_ ?_ _; rotate_left; focus (first | omega | (simp; done) | (simp; omega))))))) _ 1 _ [(na, size)] rfl rfl (new_cellsAt (by simp [later_size]) _ _) (by omega) (by omega) (by simp [later_size] <;> omega) ?_; intro A3 c3 l3 w3 HL3 HO3 hB hl1 hl2 hG; have HO3' := Lib.hid HO3; have HB3 := Lib.hid hB; have hbx3 : Boxed w3 w.heap.size 29 (.slice A' out.length c') := (hB.block _ (by omega)).trans (Boxed.ext HBL.out (by (repeat (first | with_reducible exact Ext.refl _ | with_reducible exact Ext.refl _ | with_reducible refine Ext.drew ?_ | with_reducible refine Ext.drewN ?_ _ | with_reducible refine Ext.alloc ?_ _ | with_reducible refine Ext.onto ?_ _ | (with_reducible refine Ext.setCells ?_ ?_ _ _; rotate_left; focus (first | omega | (simp; done) | (simp; omega))) | (with_reducible refine Ext.setCell ?_ ?_ _; rotate_left; focus (first | omega | (simp; done) | (simp; omega))))))); have hc3 := hbx3.cell; have hf3 := hbx3.frozen; have HX3 : Hid (Ext w w3) := Lib.hid ((HX.out.trans (show Ext wr _ from (by (repeat (first | with_reducible exact Ext.refl _ | with_reducible exact Ext.refl _ | with_reducible refine Ext.drew ?_ | with_reducible refine Ext.drewN ?_ _ | with_reducible refine Ext.alloc ?_ _ | with_reducible refine Ext.onto ?_ _ | (with_reducible refine Ext.setCells ?_ ?_ _ _; rotate_left; focus (first | omega | (simp; done) | (simp; omega))) | (with_reducible refine Ext.setCell ?_ ?_ _; rotate_left; focus (first | omega | (simp; done) | (simp; omega)))))))).grown hB (by omega)); have HBX3 := Lib.hid hbx3; clear HO3 hG hbx3))
              all_goals first | (exfalso; simp_all; done) | skip
              all_goals
                go_roundw
                case rel =>
                  have hq := HL3.out
                  have hin : w.heap.size < w.heap.size + 1 + 1 + 1 := by omega
                  refine ⟨k + 1, A3, c3, l3, by omega, by go_num, Lib.hid (by rw [HJ.out, HS.out, hq]; rfl), Lib.hid (by rw [hq, List.length_append, hol.out]; rfl), Lib.hid (HBX3.out.set _), Lib.hid ?_, Lib.hid (HO3'.out.other (p := ⟨w.heap.size, 0, none⟩) hin _), Lib.hid (HX3.out.setCell (p := ⟨w.heap.size, 0, none⟩) (Nat.le_refl _) _), ?_, Lib.hid (fun j hj => ?_)⟩
                  · have hx := HBE.out
                    exact Boxed.other ((HB3.out.block _ (by omega)).trans (Boxed.ext hx (by (repeat (first | with_reducible exact Ext.refl _ | with_reducible exact Ext.refl _ | with_reducible refine Ext.drew ?_ | with_reducible refine Ext.drewN ?_ _ | with_reducible refine Ext.alloc ?_ _ | with_reducible refine Ext.onto ?_ _ | (with_reducible refine Ext.setCells ?_ ?_ _ _; rotate_left; focus (first | omega | (simp; done) | (simp; omega))) | (with_reducible refine Ext.setCell ?_ ?_ _; rotate_left; focus (first | omega | (simp; done) | (simp; omega)))))))) (by omega) _
                  · have h1 := HB3.out.size
                    simp [later_size] at h1 ⊢
                    omega
                  · refine Eq.trans (cell_setCell_other _ (by show w.heap.size + 1 + 1 ≠ w.heap.size; omega)) ?_
                    refine (HB3.out.cell (p := ⟨w.heap.size + 1 + 1, j, none⟩) (by show w.heap.size + 1 + 1 < _; omega)).trans ?_
                    exact (Ext.cell (p := ⟨w.heap.size + 1 + 1, j, none⟩) (by (repeat (first | with_reducible exact Ext.refl _ | with_reducible exact Ext.refl _ | with_reducible refine Ext.drew ?_ | with_reducible refine Ext.drewN ?_ _ | with_reducible refine Ext.alloc ?_ _ | with_reducible refine Ext.onto ?_ _ | (with_reducible refine Ext.setCells ?_ ?_ _ _; rotate_left; focus (first | omega | (simp; done) | (simp; omega))) | (with_reducible refine Ext.setCell ?_ ?_ _; rotate_left; focus (first | omega | (simp; done) | (simp; omega)))))) hbp).trans (HPc.out j hj)
                case measure => simp [intOf]; omega
          · rw [if_neg hbn] at hrd
            have hbe : b.isEmpty = false := by cases b <;> simp_all
            clear ha hbn
            cases hna : Rp.numP a with
            | none =>
              have hn : Rp.partP size p = none := by rw [hrd, hna]; rfl
              obtain ⟨rfl, rfl⟩ := HDie.out hn
              have HN1 := Lib.hid (number_e a hal hna)
              clear hn hrd hna
              go_wp2_with (first
                | (go_at_call 66; refine (HCt.out _ (by (repeat (first | with_reducible exact Ext.refl _ | with_reducible exact Ext.refl _ | with_reducible refine Ext.drew ?_ | with_reducible refine Ext.drewN ?_ _ | with_reducible refine Ext.alloc ?_ _ | with_reducible refine Ext.onto ?_ _ | (with_reducible refine Ext.setCells ?_ ?_ _ _; rotate_left; focus (first | omega | (simp; done) | (simp; omega))) | (with_reducible refine Ext.setCell ?_ ?_ _; rotate_left; focus (first | omega | (simp; done) | (simp; omega))))))).mono ?_; rintro e w' ⟨rfl, hxl⟩; obtain ⟨xl, rfl⟩ := hxl.asLater; clear hxl)
                | (go_at_call 67; first | (with_reducible refine (HN1.out _).mono ?_; rintro e w' ⟨rfl, hxl⟩; obtain ⟨xl, rfl⟩ := hxl.asLater; clear hxl) | (with_reducible refine (HN2.out _).mono ?_; rintro e w' ⟨rfl, hxl⟩; obtain ⟨xl, rfl⟩ := hxl.asLater; clear hxl))
                | (at_builtin; refine app_from spT spE rfl _ _ rfl (w.heap.size + 1 + 1 + 1) _ _ out rfl (HOw.out.ext (by (repeat (first | with_reducible exact Ext.refl _ | with_reducible exact Ext.refl _ | with_reducible refine Ext.drew ?_ | with_reducible refine Ext.drewN ?_ _ | with_reducible refine Ext.alloc ?_ _ | with_reducible refine Ext.onto ?_ _ | (with_reducible refine Ext.setCells ?_ ?_ _ _; rotate_left; focus (first | omega | (simp; done) | (simp; omega))) | (with_reducible refine Ext.setCell ?_ ?_ _; rotate_left; focus (first | omega | (simp; done) | (simp; omega))))))) _ 1 _ [(0, 0)] rfl rfl (new_cellsAt (by simp [later_size]) _ _) (by omega) (by omega) (by simp [later_size] <;> omega) ?_; intro A3 c3 l3 w3 HL3 HO3 hB hl1 hl2 hG; have HO3' := Lib.hid HO3; have HB3 := Lib.hid hB; have hbx3 : Boxed w3 w.heap.size 29 (.slice A' out.length c') := (hB.block _ (by omega)).trans (Boxed.ext HBL.out (by (repeat (first | with_reducible exact Ext.refl _ | with_reducible exact Ext.refl _ | with_reducible refine Ext.drew ?_ | with_reducible refine Ext.drewN ?_ _ | with_reducible refine Ext.alloc ?_ _ | with_reducible refine Ext.onto ?_ _ | (with_reducible refine Ext.setCells ?_ ?_ _ _; rotate_left; focus (first | omega | (simp; done) | (simp; omega))) | (with_reducible refine Ext.setCell ?_ ?_ _; rotate_left; focus (first | omega | (simp; done) | (simp; omega))))))); have hc3 := hbx3.cell; have hf3 := hbx3.frozen; have HX3 : Hid (Ext w w3) := Lib.hid ((HX.out.trans (show Ext wr _ from (by (repeat (first | with_reducible exact Ext.refl _ | with_reducible exact Ext.refl _ | with_reducible refine Ext.drew ?_ | with_reducible refine Ext.drewN ?_ _ | with_reducible refine Ext.alloc ?_ _ | with_reducible refine Ext.onto ?_ _ | (with_reducible refine Ext.setCells ?_ ?_ _ _; rotate_left; focus (first | omega | (simp; done) | (simp; omega))) | (with_reducible refine Ext.setCell ?_ ?_ _; rotate_left; focus (first | omega | (simp; done) | (simp; omega)))))))).grown hB (by omega)); have HBX3 := Lib.hid hbx3; clear HO3 hG hbx3))
              all_goals first | (exfalso; simp_all; done) | skip
              all_goals
                refine leaves_cons (f := 63) (args := #[.pointer (some ⟨w.heap.size, 0, none⟩), .pointer (some ⟨w.heap.size + 1, 0, none⟩)]) (by simp) (by simp [go_sem]) ?_
                refine (catch_panic w.heap.size (w.heap.size + 1) _ _ 3 _ (Boxed.ext HBL.out (by (repeat (first | with_reducible exact Ext.refl _ | with_reducible exact Ext.refl _ | with_reducible refine Ext.drew ?_ | with_reducible refine Ext.drewN ?_ _ | with_reducible refine Ext.alloc ?_ _ | with_reducible refine Ext.onto ?_ _ | (with_reducible refine Ext.setCells ?_ ?_ _ _; rotate_left; focus (first | omega | (simp; done) | (simp; omega))) | (with_reducible refine Ext.setCell ?_ ?_ _; rotate_left; focus (first | omega | (simp; done) | (simp; omega))))))) (Boxed.ext HBE.out (by (repeat (first | with_reducible exact Ext.refl _ | with_reducible exact Ext.refl _ | with_reducible refine Ext.drew ?_ | with_reducible refine Ext.drewN ?_ _ | with_reducible refine Ext.alloc ?_ _ | with_reducible refine Ext.onto ?_ _ | (with_reducible refine Ext.setCells ?_ ?_ _ _; rotate_left; focus (first | omega | (simp; done) | (simp; omega))) | (with_reducible refine Ext.setCell ?_ ?_ _; rotate_left; focus (first | omega | (simp; done) | (simp; omega))))))) (by omega)).mono ?_
                rintro e u' w'' ⟨rfl, rfl, hc1, hc2, hB⟩
                have d1 := hc1.cell
                have d2 := hc2.cell
                simp [Leaves, settle, results, Tryz.results24, go_sem, d1, d2]
                have hxd : Ext w _ := ((ButS.of_ext (S := fun k => k = w.heap.size ∨ k = w.heap.size + 1) (HX.out.trans (by (repeat (first | with_reducible exact Ext.refl _ | with_reducible exact Ext.refl _ | with_reducible refine Ext.drew ?_ | with_reducible refine Ext.drewN ?_ _ | with_reducible refine Ext.alloc ?_ _ | with_reducible refine Ext.onto ?_ _ | (with_reducible refine Ext.setCells ?_ ?_ _ _; rotate_left; focus (first | omega | (simp; done) | (simp; omega))) | (with_reducible refine Ext.setCell ?_ ?_ _; rotate_left; focus (first | omega | (simp; done) | (simp; omega)))))))).trans hB).toExt (fun k hk => by show ¬ (_ ∨ _); omega)
                first | exact hxd | exact ⟨none, 0, ⟨rfl, rfl⟩, Owns.nil _ _ _ _ _, hxd⟩
            | some na =>
              have HN1 := Lib.hid (number_l a na hna)
              obtain ⟨n0, n1⟩ := Rp.num_bd hna
              cases hnb : Rp.numP b with
              | none =>
                have hn : Rp.partP size p = none := by rw [hrd, hna, hnb]; rfl
                obtain ⟨rfl, rfl⟩ := HDie.out hn
                have HN2 := Lib.hid (number_e b hbl' hnb)
                clear hn hrd hna hnb
                go_wp2_with (first
                  | (go_at_call 66; refine (HCt.out _ (by (repeat (first | with_reducible exact Ext.refl _ | with_reducible exact Ext.refl _ | with_reducible refine Ext.drew ?_ | with_reducible refine Ext.drewN ?_ _ | with_reducible refine Ext.alloc ?_ _ | with_reducible refine Ext.onto ?_ _ | (with_reducible refine Ext.setCells ?_ ?_ _ _; rotate_left; focus (first | omega | (simp; done) | (simp; omega))) | (with_reducible refine Ext.setCell ?_ ?_ _; rotate_left; focus (first | omega | (simp; done) | (simp; omega))))))).mono ?_; rintro e w' ⟨rfl, hxl⟩; obtain ⟨xl, rfl⟩ := hxl.asLater; clear hxl)
                  | (go_at_call 67; first | (with_reducible refine (HN1.out _).mono ?_; rintro e w' ⟨rfl, hxl⟩; obtain ⟨xl, rfl⟩ := hxl.asLater; clear hxl) | (with_reducible refine (HN2.out _).mono ?_; rintro e w' ⟨rfl, hxl⟩; obtain ⟨xl, rfl⟩ := hxl.asLater; clear hxl))
                  | (at_builtin; refine app_from spT spE rfl _ _ rfl (w.heap.size + 1 + 1 + 1) _ _ out rfl (HOw.out.ext (by (repeat (first | with_reducible exact Ext.refl _ | with_reducible exact Ext.refl _ | with_reducible refine Ext.drew ?_ | with_reducible refine Ext.drewN ?_ _ | with_reducible refine Ext.alloc ?_ _ | with_reducible refine Ext.onto ?_ _ | (with_reducible refine Ext.setCells ?_ ?_ _ _; rotate_left; focus (first | omega | (simp; done) | (simp; omega))) | (with_reducible refine Ext.setCell ?_ ?_ _; rotate_left; focus (first | omega | (simp; done) | (simp; omega))))))) _ 1 _ [(0, 0)] rfl rfl (new_cellsAt (by simp [later_size]) _ _) (by omega) (by omega) (by simp [later_size] <;> omega) ?_; intro A3 c3 l3 w3 HL3 HO3 hB hl1 hl2 hG; have HO3' := Lib.hid HO3; have HB3 := Lib.hid hB; have hbx3 : Boxed w3 w.heap.size 29 (.slice A' out.length c') := (hB.block _ (by omega)).trans (Boxed.ext HBL.out (by (repeat (first | with_reducible exact Ext.refl _ | with_reducible exact Ext.refl _ | with_reducible refine Ext.drew ?_ | with_reducible refine Ext.drewN ?_ _ | with_reducible refine Ext.alloc ?_ _ | with_reducible refine Ext.onto ?_ _ | (with_reducible refine Ext.setCells ?_ ?_ _ _; rotate_left; focus (first | omega | (simp; done) | (simp; omega))) | (with_reducible refine Ext.setCell ?_ ?_ _; rotate_left; focus (first | omega | (simp; done) | (simp; omega))))))); have hc3 := hbx3.cell; have hf3 := hbx3.frozen; have HX3 : Hid (Ext w w3) := Lib.hid ((HX.out.trans (show Ext wr _ from (by (repeat (first | with_reducible exact Ext.refl _ | with_reducible exact Ext.refl _ | with_reducible refine Ext.drew ?_ | with_reducible refine Ext.drewN ?_ _ | with_reducible refine Ext.alloc ?_ _ | with_reducible refine Ext.onto ?_ _ | (with_reducible refine Ext.setCells ?_ ?_ _ _; rotate_left; focus (first | omega | (simp; done) | (simp; omega))) | (with_reducible refine Ext.setCell ?_ ?_ _; rotate_left; focus (first | omega | (simp; done) | (simp; omega)))))))).grown hB (by omega)); have HBX3 := Lib.hid hbx3; clear HO3 hG hbx3))
                all_goals first | (exfalso; simp_all; done) | skip
                all_goals
                  refine leaves_cons (f := 63) (args := #[.pointer (some ⟨w.heap.size, 0, none⟩), .pointer (some ⟨w.heap.size + 1, 0, none⟩)]) (by simp) (by simp [go_sem]) ?_
                  refine (catch_panic w.heap.size (w.heap.size + 1) _ _ 3 _ (Boxed.ext HBL.out (by (repeat (first | with_reducible exact Ext.refl _ | with_reducible exact Ext.refl _ | with_reducible refine Ext.drew ?_ | with_reducible refine Ext.drewN ?_ _ | with_reducible refine Ext.alloc ?_ _ | with_reducible refine Ext.onto ?_ _ | (with_reducible refine Ext.setCells ?_ ?_ _ _; rotate_left; focus (first | omega | (simp; done) | (simp; omega))) | (with_reducible refine Ext.setCell ?_ ?_ _; rotate_left; focus (first | omega | (simp; done) | (simp; omega))))))) (Boxed.ext HBE.out (by (repeat (first | with_reducible exact Ext.refl _ | with_reducible exact Ext.refl _ | with_reducible refine Ext.drew ?_ | with_reducible refine Ext.drewN ?_ _ | with_reducible refine Ext.alloc ?_ _ | with_reducible refine Ext.onto ?_ _ | (with_reducible refine Ext.setCells ?_ ?_ _ _; rotate_left; focus (first | omega | (simp; done) | (simp; omega))) | (with_reducible refine Ext.setCell ?_ ?_ _; rotate_left; focus (first | omega | (simp; done) | (simp; omega))))))) (by omega)).mono ?_
                  rintro e u' w'' ⟨rfl, rfl, hc1, hc2, hB⟩
                  have d1 := hc1.cell
                  have d2 := hc2.cell
                  simp [Leaves, settle, results, Tryz.results24, go_sem, d1, d2]
                  have hxd : Ext w _ := ((ButS.of_ext (S := fun k => k = w.heap.size ∨ k = w.heap.size + 1) (HX.out.trans (by (repeat (first | with_reducible exact Ext.refl _ | with_reducible exact Ext.refl _ | with_reducible refine Ext.drew ?_ | with_reducible refine Ext.drewN ?_ _ | with_reducible refine Ext.alloc ?_ _ | with_reducible refine Ext.onto ?_ _ | (with_reducible refine Ext.setCells ?_ ?_ _ _; rotate_left; focus (first | omega | (simp; done) | (simp; omega))) | (with_reducible refine Ext.setCell ?_ ?_ _; rotate_left; focus (first | omega | (simp; done) | (simp; omega)))))))).trans hB).toExt (fun k hk => by show ¬ (_ ∨ _); omega)
                  first | exact hxd | exact ⟨none, 0, ⟨rfl, rfl⟩, Owns.nil _ _ _ _ _, hxd⟩
              | some nb =>
                have HN2 := Lib.hid (number_l b nb hnb)
                obtain ⟨m0, m1⟩ := Rp.num_bd hnb
                by_cases hlt2 : nb < na
                · have hn : Rp.partP size p = none := by rw [hrd, hna, hnb]; simp [hlt2]
                  obtain ⟨rfl, rfl⟩ := HDie.out hn
                  clear hn hrd hna hnb
                  go_wp2_with (first
                    | (go_at_call 66; refine (HCt.out _ (by (repeat (first | with_reducible exact Ext.refl _ | with_reducible exact Ext.refl _ | with_reducible refine Ext.drew ?_ | with_reducible refine Ext.drewN ?_ _ | with_reducible refine Ext.alloc ?_ _ | with_reducible refine Ext.onto ?_ _ | (with_reducible refine Ext.setCells ?_ ?_ _ _; rotate_left; focus (first | omega | (simp; done) | (simp; omega))) | (with_reducible refine Ext.setCell ?_ ?_ _; rotate_left; focus (first | omega | (simp; done) | (simp; omega))))))).mono ?_; rintro e w' ⟨rfl, hxl⟩; obtain ⟨xl, rfl⟩ := hxl.asLater; clear hxl)
                    | (go_at_call 67; first | (with_reducible refine (HN1.out _).mono ?_; rintro e w' ⟨rfl, hxl⟩; obtain ⟨xl, rfl⟩ := hxl.asLater; clear hxl) | (with_reducible refine (HN2.out _).mono ?_; rintro e w' ⟨rfl, hxl⟩; obtain ⟨xl, rfl⟩ := hxl.asLater; clear hxl))
                    | (at_builtin; refine app_from spT spE rfl _ _ rfl (w.heap.size + 1 + 1 + 1) _ _ out rfl (HOw.out.ext (by (repeat (first | with_reducible exact Ext.refl _ | with_reducible exact Ext.refl _ | with_reducible refine Ext.drew ?_ | with_reducible refine Ext.drewN ?_ _ | with_reducible refine Ext.alloc ?_ _ | with_reducible refine Ext.onto ?_ _ | (with_reducible refine Ext.setCells ?_ ?_ _ _; rotate_left; focus (first | omega | (simp; done) | (simp; omega))) | (with_reducible refine Ext.setCell ?_ ?_ _; rotate_left; focus (first | omega | (simp; done) | (simp; omega))))))) _ 1 _ [(0, 0)] rfl rfl (new_cellsAt (by simp [later_size]) _ _) (by omega) (by omega) (by simp [later_size] <;> omega) ?_; intro A3 c3 l3 w3 HL3 HO3 hB hl1 hl2 hG; have HO3' := Lib.hid HO3; have HB3 := Lib.hid hB; have hbx3 : Boxed w3 w.heap.size 29 (.slice A' out.length c') := (hB.block _ (by omega)).trans (Boxed.ext HBL.out (by (repeat (first | with_reducible exact Ext.refl _ | with_reducible exact Ext.refl _ | with_reducible refine Ext.drew ?_ | with_reducible refine Ext.drewN ?_ _ | with_reducible refine Ext.alloc ?_ _ | with_reducible refine Ext.onto ?_ _ | (with_reducible refine Ext.setCells ?_ ?_ _ _; rotate_left; focus (first | omega | (simp; done) | (simp; omega))) | (with_reducible refine Ext.setCell ?_ ?_ _; rotate_left; focus (first | omega | (simp; done) | (simp; omega))))))); have hc3 := hbx3.cell; have hf3 := hbx3.frozen; have HX3 : Hid (Ext w w3) := Lib.hid ((HX.out.trans (show Ext wr _ from (by (repeat (first | with_reducible exact Ext.refl _ | with_reducible exact Ext.refl _ | with_reducible refine Ext.drew ?_ | with_reducible refine Ext.drewN ?_ _ | with_reducible refine Ext.alloc ?_ _ | with_reducible refine Ext.onto ?_ _ | (with_reducible refine Ext.setCells ?_ ?_ _ _; rotate_left; focus (first | omega | (simp; done) | (simp; omega))) | (with_reducible refine Ext.setCell ?_ ?_ _; rotate_left; focus (first | omega | (simp; done) | (simp; omega)))))))).grown hB (by omega)); have HBX3 := Lib.hid hbx3; clear HO3 hG hbx3))
                  all_goals first | (exfalso; simp_all; done) | skip
                  all_goals
                    refine leaves_cons (f := 63) (args := #[.pointer (some ⟨w.heap.size, 0, none⟩), .pointer (some ⟨w.heap.size + 1, 0, none⟩)]) (by simp) (by simp [go_sem]) ?_
                    refine (catch_panic w.heap.size (w.heap.size + 1) _ _ 3 _ (Boxed.ext HBL.out (by (repeat (first | with_reducible exact Ext.refl _ | with_reducible exact Ext.refl _ | with_reducible refine Ext.drew ?_ | with_reducible refine Ext.drewN ?_ _ | with_reducible refine Ext.alloc ?_ _ | with_reducible refine Ext.onto ?_ _ | (with_reducible refine Ext.setCells ?_ ?_ _ _; rotate_left; focus (first | omega | (simp; done) | (simp; omega))) | (with_reducible refine Ext.setCell ?_ ?_ _; rotate_left; focus (first | omega | (simp; done) | (simp; omega))))))) (Boxed.ext HBE.out (by (repeat (first | with_reducible exact Ext.refl _ | with_reducible exact Ext.refl _ | with_reducible refine Ext.drew ?_ | with_reducible refine Ext.drewN ?_ _ | with_reducible refine Ext.alloc ?_ _ | with_reducible refine Ext.onto ?_ _ | (with_reducible refine Ext.setCells ?_ ?_ _ _; rotate_left; focus (first | omega | (simp; done) | (simp; omega))) | (with_reducible refine Ext.setCell ?_ ?_ _; rotate_left; focus (first | omega | (simp; done) | (simp; omega))))))) (by omega)).mono ?_
                    rintro e u' w'' ⟨rfl, rfl, hc1, hc2, hB⟩
                    have d1 := hc1.cell
                    have d2 := hc2.cell
                    simp [Leaves, settle, results, Tryz.results24, go_sem, d1, d2]
                    have hxd : Ext w _ := ((ButS.of_ext (S := fun k => k = w.heap.size ∨ k = w.heap.size + 1) (HX.out.trans (by (repeat (first | with_reducible exact Ext.refl _ | with_reducible exact Ext.refl _ | with_reducible refine Ext.drew ?_ | with_reducible refine Ext.drewN ?_ _ | with_reducible refine Ext.alloc ?_ _ | with_reducible refine Ext.onto ?_ _ | (with_reducible refine Ext.setCells ?_ ?_ _ _; rotate_left; focus (first | omega | (simp; done) | (simp; omega))) | (with_reducible refine Ext.setCell ?_ ?_ _; rotate_left; focus (first | omega | (simp; done) | (simp; omega)))))))).trans hB).toExt (fun k hk => by show ¬ (_ ∨ _); omega)
                    first | exact hxd | exact ⟨none, 0, ⟨rfl, rfl⟩, Owns.nil _ _ _ _ _, hxd⟩
                · have HS : Hid (Rp.partP size p = some (na, min size (nb + 1))) := Lib.hid (by rw [hrd, hna, hnb]; simp [hlt2])
                  clear hrd hna hnb
                  go_wp2_with (first
                    | (go_at_call 66; refine (HCt.out _ (by (repeat (first | with_reducible exact Ext.refl _ | with_reducible exact Ext.refl _ | with_reducible refine Ext.drew ?_ | with_reducible refine Ext.drewN ?_ _ | with_reducible refine Ext.alloc ?_ _ | with_reducible refine Ext.onto ?_ _ | (with_reducible refine Ext.setCells ?_ ?_ _ _; rotate_left; focus (first | omega | (simp; done) | (simp; omega))) | (with_reducible refine Ext.setCell ?_ ?_ _; rotate_left; focus (first | omega | (simp; done) | (simp; omega))))))).mono ?_; rintro e w' ⟨rfl, hxl⟩; obtain ⟨xl, rfl⟩ := hxl.asLater; clear hxl)
                    | (go_at_call 67; first | (with_reducible refine (HN1.out _).mono ?_; rintro e w' ⟨rfl, hxl⟩; obtain ⟨xl, rfl⟩ := hxl.asLater; clear hxl) | (with_reducible refine (HN2.out _).mono ?_; rintro e w' ⟨rfl, hxl⟩; obtain ⟨xl, rfl⟩ := hxl.asLater; clear hxl))
                    | (at_builtin; refine app_from spT spE rfl _ _ rfl (w.heap.size + 1 + 1 + 1) _ _ out rfl (HOw.out.ext (by (repeat (first | with_reducible exact Ext.refl _ | with_reducible exact Ext.refl _ | with_reducible refine Ext.drew ?_ | with_reducible refine Ext.drewN ?_ _ | with_reducible refine Ext.alloc ?_ _ | with_reducible refine Ext.onto ?_ _ | (with_reducible refine Ext.setCells ?_ ?_ _ _; rotate_left; focus (first | omega | (simp; done) | (simp; omega))) | (with_reducible refine Ext.setCell ?_ ?_ _; rotate_left; focus (first | omega | (simp; done) | (simp; omega))))))) _ 1 _ [(na, min size (nb + 1))] rfl rfl (new_cellsAt (by simp [later_size]) _ _) (by omega) (by omega) (by simp [later_size] <;> omega) ?_; intro A3 c3 l3 w3 HL3 HO3 hB hl1 hl2 hG; have HO3' := Lib.hid HO3; have HB3 := Lib.hid hB; have hbx3 : Boxed w3 w.heap.size 29 (.slice A' out.length c') := (hB.block _ (by omega)).trans (Boxed.ext HBL.out (by (repeat (first | with_reducible exact Ext.refl _ | with_reducible exact Ext.refl _ | with_reducible refine Ext.drew ?_ | with_reducible refine Ext.drewN ?_ _ | with_reducible refine Ext.alloc ?_ _ | with_reducible refine Ext.onto ?_ _ | (with_reducible refine Ext.setCells ?_ ?_ _ _; rotate_left; focus (first | omega | (simp; done) | (simp; omega))) | (with_reducible refine Ext.setCell ?_ ?_ _; rotate_left; focus (first | omega | (simp; done) | (simp; omega))))))); have hc3 := hbx3.cell; have hf3 := hbx3.frozen; have HX3 : Hid (Ext w w3) := Lib.hid ((HX.out.trans (show Ext wr _ from (by (repeat (first | with_reducible exact Ext.refl _ | with_reducible exact Ext.refl _ | with_reducible refine Ext.drew ?_ | with_reducible refine Ext.drewN ?_ _ | with_reducible refine Ext.alloc ?_ _ | with_reducible refine Ext.onto ?_ _ | (with_reducible refine Ext.setCells ?_ ?_ _ _; rotate_left; focus (first | omega | (simp; done) | (simp; omega))) | (with_reducible refine Ext.setCell ?_ ?_ _; rotate_left; focus (first | omega | (simp; done) | (simp; omega)))))))).grown hB (by omega)); have HBX3 := Lib.hid hbx3; clear HO3 hG hbx3))
                  all_goals first | (exfalso; simp_all; done) | skip
                  all_goals
                    go_roundw
                    case rel =>
                      have hq := HL3.out
                      have hin : w.heap.size < w.heap.size + 1 + 1 + 1 := by omega
                      refine ⟨k + 1, A3, c3, l3, by omega, by go_num, Lib.hid (by rw [HJ.out, HS.out, hq]; rfl), Lib.hid (by rw [hq, List.length_append, hol.out]; rfl), Lib.hid (HBX3.out.set _), Lib.hid ?_, Lib.hid (HO3'.out.other (p := ⟨w.heap.size, 0, none⟩) hin _), Lib.hid (HX3.out.setCell (p := ⟨w.heap.size, 0, none⟩) (Nat.le_refl _) _), ?_, Lib.hid (fun j hj => ?_)⟩
                      · have hx := HBE.out
                        exact Boxed.other ((HB3.out.block _ (by omega)).trans (Boxed.ext hx (by (repeat (first | with_reducible exact Ext.refl _ | with_reducible exact Ext.refl _ | with_reducible refine Ext.drew ?_ | with_reducible refine Ext.drewN ?_ _ | with_reducible refine Ext.alloc ?_ _ | with_reducible refine Ext.onto ?_ _ | (with_reducible refine Ext.setCells ?_ ?_ _ _; rotate_left; focus (first | omega | (simp; done) | (simp; omega))) | (with_reducible refine Ext.setCell ?_ ?_ _; rotate_left; focus (first | omega | (simp; done) | (simp; omega)))))))) (by omega) _
                      · have h1 := HB3.out.size
                        simp [later_size] at h1 ⊢
                        omega
                      · refine Eq.trans (cell_setCell_other _ (by show w.heap.size + 1 + 1 ≠ w.heap.size; omega)) ?_
                        refine (HB3.out.cell (p := ⟨w.heap.size + 1 + 1, j, none⟩) (by show w.heap.size + 1 + 1 < _; omega)).trans ?_
                        exact (Ext.cell (p := ⟨w.heap.size + 1 + 1, j, none⟩) (by (repeat (first | with_reducible exact Ext.refl _ | with_reducible exact Ext.refl _ | with_reducible refine Ext.drew ?_ | with_reducible refine Ext.drewN ?_ _ | with_reducible refine Ext.alloc ?_ _ | with_reducible refine Ext.onto ?_ _ | (with_reducible refine Ext.setCells ?_ ?_ _ _; rotate_left; focus (first | omega | (simp; done) | (simp; omega))) | (with_reducible refine Ext.setCell ?_ ?_ _; rotate_left; focus (first | omega | (simp; done) | (simp; omega)))))) hbp).trans (HPc.out j hj)
                    case measure => simp [intOf]; omega
    · have hke : k = P.length := by have := HPL.out; omega
      have hO := HO.out
      rw [hke, List.take_length] at hO
      have HBd : Hid (bdSp out) := Lib.hid (fun s hs => by
        have := readAll_bd size P out hO s hs h0 h1
        omega)
      rw [hO] at HU
      have g1 := HBL.out.cell
      have g2 := HBE.out.cell
      have g3 := HBL.out.frozen
      have g4 := HBE.out.frozen
      clear hO hke HPS HPl HO HPc hPn
      go_wp2_with (go_at_call 33; refine (of_any A' c' out _ HBd.out (by omega) ((HOw.out.ext (by (repeat (first | with_reducible exact Ext.refl _ | with_reducible exact Ext.refl _ | with_reducible refine Ext.drew ?_ | with_reducible refine Ext.drewN ?_ _ | with_reducible refine Ext.alloc ?_ _ | with_reducible refine Ext.onto ?_ _ | (with_reducible refine Ext.setCells ?_ ?_ _ _; rotate_left; focus (first | omega | (simp; done) | (simp; omega))) | (with_reducible refine Ext.setCell ?_ ?_ _; rotate_left; focus (first | omega | (simp; done) | (simp; omega))))))).reads spE)).mono ?_; rintro e w3 ⟨A3, c3, o3, rfl, HS, hol3, ho3, hx3⟩; have HO3 := Lib.hid ho3; have HX3 := Lib.hid hx3; have HB3 := Lib.hid (Boxed.ext HBL.out hx3); have HE3 := Lib.hid (Boxed.ext HBE.out hx3); have g5 := HB3.out.cell; have g6 := HB3.out.frozen; have g7 := HE3.out.cell; have g8 := HE3.out.frozen; clear ho3 hx3)
      · have hz : ((o3.length : Int) == 0) = true := by assumption
        have ho : o3 = [] := List.eq_nil_of_length_eq_zero (by simpa using hz)
        have hu := HU.out
        obtain ⟨k1, k2⟩ := of_set HS.out
        have hun : Rp.unionN out = o3 := (Rp.union_alike (l := out) k1 k2).symm
        rw [Option.map_some, hun] at hu
        subst ho
        obtain ⟨e1, e2⟩ := Prod.mk.inj hu
        subst e1 e2
        refine leaves_cons (f := 63) (args := #[.pointer (some ⟨w.heap.size, 0, none⟩), .pointer (some ⟨w.heap.size + 1, 0, none⟩)]) (by simp) (by simp [go_sem]) ?_
        refine (catch_panic w.heap.size (w.heap.size + 1) _ _ 70 _ (HB3.out.set _) (HE3.out.other (by omega) _) (by omega)).mono ?_
        rintro e u' w'' ⟨rfl, rfl, hc1, hc2, hB⟩
        have d1 := hc1.cell
        have d2 := hc2.cell
        simp [Leaves, settle, results, Tryz.results24, go_sem, d1, d2]
        have hxd : Ext w _ := ((ButS.of_ext (S := fun k => k = w.heap.size ∨ k = w.heap.size + 1) ((HX.out.trans HX3.out).setCell (p := ⟨w.heap.size, 0, none⟩) (Nat.le_refl _) _)).trans hB).toExt (fun k hk => by show ¬ (_ ∨ _); omega)
        first | exact hxd | exact ⟨none, 0, ⟨rfl, rfl⟩, Owns.nil _ _ _ _ _, hxd⟩
      · have hz : ((o3.length : Int) == 0) = false := by assumption
        have ho : o3 ≠ [] := fun e => by subst e; simp at hz
        have hu := HU.out
        obtain ⟨k1, k2⟩ := of_set HS.out
        have hun : Rp.unionN out = o3 := (Rp.union_alike (l := out) k1 k2).symm
        rw [Option.map_some, hun] at hu
        simp only [Rp.endN, if_neg ho] at hu
        obtain ⟨e1, e2⟩ := Prod.mk.inj hu
        subst e1 e2
        clear hu k1 k2 HU HS hun hz
        refine leaves_cons (f := 63) (args := #[.pointer (some ⟨w.heap.size, 0, none⟩), .pointer (some ⟨w.heap.size + 1, 0, none⟩)]) (by simp) (by simp [go_sem]) ?_
        refine (catch_idle w.heap.size (w.heap.size + 1) _).mono ?_
        rintro e u' w'' ⟨rfl, rfl, hw⟩
        have d1 : w''.cell? ⟨w.heap.size, 0, none⟩ = some (.slice A3 o3.length c3) := by rw [hw]; exact Boxed.cell (((HB3.out.set _).set _).other (by omega) _)
        have d2 : w''.cell? ⟨w.heap.size + 1, 0, none⟩ = some (.int .i64 0) := by rw [hw]; exact Boxed.cell (((HE3.out.other (by omega) _).other (by omega) _).set _)
        have hO : OwnsSp w.heap.size w'' A3 c3 o3 := by
          rw [hw]
          exact (((HO3.out.other (p := ⟨w.heap.size, 0, none⟩) (by show w.heap.size < _; omega) _).other (p := ⟨w.heap.size, 0, none⟩) (by show w.heap.size < _; omega) _).other (p := ⟨w.heap.size + 1, 0, none⟩) (by show w.heap.size + 1 < _; omega) _).lower (by omega)
        have hX : Ext w w'' := by
          rw [hw]
          exact (((HX.out.trans HX3.out).setCell (p := ⟨w.heap.size, 0, none⟩) (Nat.le_refl _) _).setCell (p := ⟨w.heap.size, 0, none⟩) (Nat.le_refl _) _).setCell (p := ⟨w.heap.size + 1, 0, none⟩) (by show w.heap.size ≤ w.heap.size + 1; omega) _
        clear hw
        simp [Leaves, settle, results, Tryz.results24, go_sem, d1, d2]
        exact ⟨A3, c3, ⟨rfl, rfl⟩, hO, hX⟩
/-- THE CONTRACT of the program's Parse. -/
theorem parse_any (text : ByteArray) (size m : Int) (w : World) (hm : w.cell? ⟨0, 0, none⟩ = some (.int .i64 m)) (u : List Sp) (n : Int) (hu : Rp.parseN size text.data.toList = (u, n)) :
    Calls Tryz.prog 24 #[.string text, .int .i64 size] w fun e w' => ∃ A' c', e = .returned (.tuple #[.slice A' u.length c', .int .i64 n]) ∧ OwnsSp w.heap.size w' A' c' u ∧ Ext w w' := by
  have hl : text.data.toList.length = text.size := by simp
  unfold Rp.parseN at hu
  rw [hl] at hu
  by_cases h : size < 0 ∨ 1099511627776 < size
  · rw [if_pos h] at hu
    obtain ⟨rfl, rfl⟩ := Prod.mk.inj hu
    exact (parse_arg text size w h).mono (fun e w' ⟨a, b⟩ => ⟨none, 0, a, Owns.nil _ _ _ _ _, b⟩)
  rw [if_neg h] at hu
  by_cases h2 : 10000 < text.size
  · rw [if_pos h2] at hu
    obtain ⟨rfl, rfl⟩ := Prod.mk.inj hu
    exact (parse_long text size w h h2).mono (fun e w' ⟨a, b⟩ => ⟨none, 0, a, Owns.nil _ _ _ _ _, b⟩)
  rw [if_neg h2] at hu
  by_cases h3 : Lib.hasPrefix text.data.toList Rp.pre = false
  · rw [if_pos h3] at hu
    obtain ⟨rfl, rfl⟩ := Prod.mk.inj hu
    exact (parse_nopre text size w h (by omega) h3).mono (fun e w' ⟨a, b⟩ => ⟨none, 0, a, Owns.nil _ _ _ _ _, b⟩)
  rw [if_neg h3] at hu
  have h3' : Lib.hasPrefix text.data.toList Rp.pre = true := by simpa using h3
  refine parse_some text size m w (by omega) (by omega) (by omega) h3' u n hm ?_
  rw [← hu]
  have e : Lib.trimPrefix text.data.toList Rp.pre = text.data.toList.drop 6 := by
    unfold Lib.trimPrefix
    rw [if_pos h3']
    rfl
  rw [e]
end Go.Proofs.YthhblgjbgjceiaaGreatDoor
