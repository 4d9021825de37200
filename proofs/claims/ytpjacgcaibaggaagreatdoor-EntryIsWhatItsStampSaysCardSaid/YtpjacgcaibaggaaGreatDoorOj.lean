/- slices.Clone at spans; ranges.Add. -/
import Derived.Test.YtpjacgcaibaggaaGreatDoorProg
import Derived.Test.YtpjacgcaibaggaaGreatDoorExt
import Derived.WalkKit
import Derived.WalkSpells
import Derived.WalkLawsBesides
import Derived.Deep.QuietTactic
import Derived.BigQuiet
import Derived.Test.YtpjacgcaibaggaaGreatDoorOi
import Derived.Test.YtpjacgcaibaggaaGreatDoorSoft
set_option linter.unusedVariables false
set_option linter.unusedSimpArgs false
namespace Go.Proofs.YtpjacgcaibaggaaGreatDoor
open Go.RowKit Go.Shelf Go.Sort
open Go.Proofs
open Go.Proofs.Sp (Sp)

def plainA (A : Option Addr) : Prop := ∀ a, A = some a → ∃ b off, a = ⟨b, off, none⟩
theorem OwnsSp.plain {base : Nat} {w : World} {A : Option Addr} {c : Nat} {l : List Sp} (h : OwnsSp base w A c l) : plainA A := by
  rintro a rfl
  rcases h.cases with ⟨k, _⟩ | ⟨g, cur, k, _⟩
  · cases k
  · injection k with k
    exact ⟨g, 0, k⟩
theorem spInfo : (Tryz.prog.info? 26).map (fun i => (i.zero, i.size, i.bytes)) = some (some (.agg #[.int .i64 0, .int .i64 0]), 2, 16) := by kernel_rfl
set_option maxRecDepth 100000 in
theorem clone_any (A : Option Addr) (c : Nat) (ls : List Sp) (w : World) (hA : plainA A) (hlen : ls.length * 16 ≤ 140737488355328) (hr : ReadsSp w w.heap.size A ls) :
    Calls Tryz.prog 67 #[.slice A ls.length c] w fun e w' => ∃ A' c', e = .returned (.slice A' ls.length c') ∧ OwnsSp w.heap.size w' A' c' ls ∧ Ext w w' := by
  obtain ⟨i, hi, hz, h1, h2⟩ := info_parts spInfo
  cases A with
  | none =>
    have hn : ls = [] := by
      rcases Nat.eq_zero_or_pos ls.length with q | q
      · exact List.eq_nil_of_length_eq_zero q
      · obtain ⟨b, off, k, _⟩ := hr q
        cases k
    subst hn
    have hcon := AnyE.slices_Clone_nil Tryz.cloneSp 0 c w
    change Calls Tryz.prog 67 _ _ _ at hcon
    refine hcon.mono ?_
    rintro e w' ⟨rfl, rfl⟩
    exact ⟨none, 0, rfl, Owns.nil _ _ _ _ _, Ext.refl _⟩
  | some a =>
    obtain ⟨b, off, rfl⟩ := hA a rfl
    have hcon := AnyE.slices_Clone Tryz.cloneSp i (.agg #[.int .i64 0, .int .i64 0]) 2 16 hi hz h1 h2 rfl (by decide) sizeSp b off ls.length c (ls.flatMap encSp) w (spE.flat_len ls) (by unfold maxLen; omega) hlen
      (fun j u hj => by
        have hj' := (List.getElem?_eq_some_iff.1 hj).1
        rw [spE.flat_len] at hj'
        obtain ⟨b', off', e1, _, h3⟩ := hr (by omega)
        injection e1 with e1
        injection e1 with e1 e2
        subst e1 e2
        have k := spE.flat_get ls (j / 2) (by omega) (j % 2) (by omega)
        rw [show j / 2 * 2 + j % 2 = j by omega, hj] at k
        have := h3 (j / 2) (by omega) (j % 2) u k.symm
        rw [show off + j / 2 * 2 + j % 2 = off + j by omega] at this
        exact this) (spE.flat_one ls)
    change Calls Tryz.prog 67 _ _ _ at hcon
    refine hcon.mono ?_
    rintro e w' ⟨v', rfl, k1, _, k3⟩
    have hv : ∃ A' c'', v' = .slice A' ls.length c'' := by
      rcases k1.2 with ⟨rfl, q⟩ | ⟨g, cap, cur, rfl, _⟩
      · exact ⟨none, 0, by rw [q]⟩
      · exact ⟨_, _, rfl⟩
    obtain ⟨A', c'', rfl⟩ := hv
    exact ⟨A', c'', rfl, k1, k3⟩

def ownSoft (ls : List Sp) (base : Nat) : Soft := ⟨fun v w => ∃ A c, v = .slice A ls.length c ∧ OwnsSp base w A c ls, fun v w w' ⟨A, c, h1, h2⟩ hx => ⟨A, c, h1, h2.ext hx⟩⟩
def oneSp (s : Sp) : Soft := ⟨fun v w => ∃ b, v = .slice (some ⟨b, 0, none⟩) 1 1 ∧ b < w.heap.size ∧ w.cell? ⟨b, 0, none⟩ = some (.int .i64 s.1) ∧ w.cell? ⟨b, 1, none⟩ = some (.int .i64 s.2), fun v w w' ⟨b, h1, h2, h3, h4⟩ hx => ⟨b, h1, Nat.lt_of_lt_of_le h2 hx.size, (hx.cell (p := ⟨b, 0, none⟩) h2).trans h3, (hx.cell (p := ⟨b, 1, none⟩) h2).trans h4⟩⟩
def addSoft (A : Option Addr) (c : Nat) (ls : List Sp) (s : Sp) (base : Nat) : Nat → Soft
  | 0 => .eq (.slice A ls.length c)
  | 1 => ownSoft ls base
  | 2 => .eq (.agg #[.int .i64 s.1, .int .i64 s.2])
  | _ => oneSp s
theorem one_cells {w : World} {b : Nat} {s : Sp} (h1 : w.cell? ⟨b, 0, none⟩ = some (.int .i64 s.1)) (h2 : w.cell? ⟨b, 1, none⟩ = some (.int .i64 s.2)) : ∀ j u, ([s].flatMap encSp)[j]? = some u → w.cell? ((⟨b, 0, none⟩ : Addr).add j) = some u := by
  intro j u hu
  rw [addr_add, Nat.zero_add]
  match j, hu with
  | 0, hu => simp [encSp] at hu; subst hu; exact h1
  | 1, hu => simp [encSp] at hu; subst hu; exact h2
  | j + 2, hu => simp [encSp] at hu
theorem mem_perm {a b : List Sp} (h : a.Perm b) (x : Int) : Sp.mem a x ↔ Sp.mem b x := by
  unfold Sp.mem
  constructor
  · rintro ⟨s, hs, k⟩; exact ⟨s, h.mem_iff.1 hs, k⟩
  · rintro ⟨s, hs, k⟩; exact ⟨s, h.mem_iff.2 hs, k⟩
theorem of_set {ls out : List Sp} (h : ∃ srt, SortedOf ls srt ∧ out = Sp.joined srt) : SetOf (Sp.mem ls) out := by
  obtain ⟨srt, ⟨h1, h2⟩, rfl⟩ := h
  obtain ⟨k1, k2⟩ := Sp.joined_spec h2
  exact ⟨k1, fun x => (k2 x).trans (mem_perm h1 x)⟩

set_option maxRecDepth 100000 in
set_option maxHeartbeats 2000000 in
theorem add_any (A : Option Addr) (c : Nat) (ls : List Sp) (s : Sp) (w : World) (hA : plainA A) (hbd : bdSp (ls ++ [s])) (hlen : ls.length * 16 ≤ 140737488350000) (hr : ReadsSp w w.heap.size A ls) :
    Calls Tryz.prog 64 #[.slice A ls.length c, .agg #[.int .i64 s.1, .int .i64 s.2]] w fun e w' => ∃ A' c' out, e = .returned (.slice A' out.length c') ∧ Hid (∃ srt, SortedOf (ls ++ [s]) srt ∧ out = Sp.joined srt) ∧ out.length ≤ ls.length + 1 ∧ OwnsSp w.heap.size w' A' c' out ∧ Ext w w' := by
  have HR := Lib.hid hr
  have HB := Lib.hid hbd
  have HA := Lib.hid hA
  clear hr hbd hA
  go_enter Tryz.func64, Tryz.ntmps64
  go_wp2
  refine wp_region_soft 4 (addSoft A c ls s (w.heap.size + 1)) (by kernel_rfl) (by kernel_rfl) (lt_cons ?_ (lt_cons ?_ (lt_cons ?_ (lt_cons ?_ lt_none)))) ?_
  · intro o ho xs W hW hd Q' hQ; obtain rfl := Option.some.inj ho; clear ho; simp only [fillAt, dstOf, List.getElem?_cons_zero, List.getElem?_cons_succ, Option.bind_some, Act.put, List.setIfInBounds_toArray, List.set_cons_zero, List.set_cons_succ, Nat.zero_add, Nat.reduceAdd] at hQ ⊢; have HQ := Lib.hid hQ; have HD := Lib.hid hd; have HW := Lib.hid hW; have hsW := hW.size; clear hQ hd hW
    go_wp2
    exact HQ.out _ _ (Ext.refl _) rfl
  · intro o ho xs W hW hd Q' hQ; obtain rfl := Option.some.inj ho; clear ho; simp only [fillAt, dstOf, List.getElem?_cons_zero, List.getElem?_cons_succ, Option.bind_some, Act.put, List.setIfInBounds_toArray, List.set_cons_zero, List.set_cons_succ, Nat.zero_add, Nat.reduceAdd] at hQ ⊢; have HQ := Lib.hid hQ; have HD := Lib.hid hd; have HW := Lib.hid hW; have hsW := hW.size; clear hQ hd hW
    have h0 : xs 0 = .slice A ls.length c := (HD.out 0 (of_decide_eq_true (by kernel_rfl)))
    generalize xs 0 = x0 at h0 HQ ⊢; subst h0
    go_wp2_with (go_at_call 67; refine (clone_any A c ls _ HA.out (by omega) (HR.out.on (((Ext.refl _).alloc _).trans HW.out))).mono ?_; rintro e w1 ⟨A', c', rfl, ho, hx⟩)
    exact HQ.out _ _ hx ⟨A', c', rfl, ho.lower (by have := HW.out.size; simp at this; omega)⟩
  · intro o ho xs W hW hd Q' hQ; obtain rfl := Option.some.inj ho; clear ho; simp only [fillAt, dstOf, List.getElem?_cons_zero, List.getElem?_cons_succ, Option.bind_some, Act.put, List.setIfInBounds_toArray, List.set_cons_zero, List.set_cons_succ, Nat.zero_add, Nat.reduceAdd] at hQ ⊢; have HQ := Lib.hid hQ; have HD := Lib.hid hd; have HW := Lib.hid hW; have hsW := hW.size; clear hQ hd hW
    have c1 : W.cell? ⟨w.heap.size, 0, none⟩ = some (.int .i64 s.1) := (HW.out.cell (p := ⟨w.heap.size, 0, none⟩) (by simp)).trans (by rw [alloc_cell_if, if_pos rfl]; rfl)
    have c2 : W.cell? ⟨w.heap.size, 1, none⟩ = some (.int .i64 s.2) := (HW.out.cell (p := ⟨w.heap.size, 1, none⟩) (by simp)).trans (by rw [alloc_cell_if, if_pos rfl]; rfl)
    go_wp2
    exact HQ.out _ _ (Ext.refl _) rfl
  · intro o ho xs W hW hd Q' hQ; obtain rfl := Option.some.inj ho; clear ho; simp only [fillAt, dstOf, List.getElem?_cons_zero, List.getElem?_cons_succ, Option.bind_some, Act.put, List.setIfInBounds_toArray, List.set_cons_zero, List.set_cons_succ, Nat.zero_add, Nat.reduceAdd] at hQ ⊢; have HQ := Lib.hid hQ; have HD := Lib.hid hd; have HW := Lib.hid hW; have hsW := hW.size; clear hQ hd hW
    have h2 : xs 2 = .agg #[.int .i64 s.1, .int .i64 s.2] := (HD.out 2 (of_decide_eq_true (by kernel_rfl)))
    generalize xs 2 = x2 at h2 HQ ⊢; subst h2
    go_wp2
    exact HQ.out _ _ ((Ext.refl _).alloc _) ⟨W.heap.size, rfl, by simp, by rw [alloc_cell_if, if_pos rfl]; rfl, by rw [alloc_cell_if, if_pos rfl]; rfl⟩
  · intro xs W hW hS
    obtain ⟨A1, c1, h1, ho⟩ : (ownSoft ls (w.heap.size + 1)).S (xs 1) W := hS 1 (by omega)
    obtain ⟨b, h3, hb, k1, k2⟩ : (oneSp s).S (xs 3) W := hS 3 (by omega)
    simp only [fillAt, dstOf, List.getElem?_cons_zero, List.getElem?_cons_succ, Option.bind_some, Act.put, List.setIfInBounds_toArray, List.set_cons_zero, List.set_cons_succ, Nat.zero_add, Nat.reduceAdd, List.drop_succ_cons, List.drop_zero]
    generalize xs 1 = x1 at h1 ⊢; subst h1
    generalize xs 3 = x3 at h3 ⊢; subst h3
    have HO := Lib.hid ho
    have HW := Lib.hid hW
    have hsW := hW.size
    rw [World.size_alloc] at hsW
    have HK1 := Lib.hid k1
    have HK2 := Lib.hid k2
    clear ho hW k1 k2 hS
    go_wp2_with (first
      | (at_builtin; refine app_from spT spE rfl _ _ rfl (w.heap.size + 1) _ _ ls rfl HO.out ⟨b, 0, none⟩ 1 1 [s] rfl rfl (one_cells HK1.out HK2.out) (by omega) (by omega) (by omega) ?_; intro A2 c2 l2 w2 HL2 HO2 hB hl1 hl2 _; have HO2' := Lib.hid HO2; have HB2 := Lib.hid hB; clear HO2 hB)
      | (go_at_call 104; refine (of_any A2 c2 l2 _ (by rw [HL2.out]; exact HB.out) (by omega) (HO2'.out.reads spE)).mono ?_; rintro e w3 ⟨A3, c3, out, rfl, HS, hol, ho3, hx3⟩; have HO3 := Lib.hid ho3; have HX3 := Lib.hid hx3; clear ho3 hx3))
    go_ret
    have hsB := HB2.out.size
    have hEx : Ext w w2 := (((Ext.refl w).alloc _).trans HW.out).grown HB2.out (by omega)
    exact ⟨A3, c3, out, rfl, by have h := HS; rw [HL2.out] at h; exact h, by omega, HO3.out.lower (by omega), hEx.trans HX3.out⟩
end Go.Proofs.YtpjacgcaibaggaaGreatDoor
