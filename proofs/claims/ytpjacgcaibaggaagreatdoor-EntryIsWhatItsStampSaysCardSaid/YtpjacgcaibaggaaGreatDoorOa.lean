/- What came in, opened: a law's last step for any law; slices of spans. -/
import Derived.Test.YtpjacgcaibaggaaGreatDoorRows
import Derived.Test.YtpjacgcaibaggaaGreatDoorExt
import Derived.ProofKit
import Derived.Lib.SmallJoins
import Derived.MakeChecks
import Derived.OpenShut
import Derived.Test.YtpjacgcaibaggaaGreatDoorOj
import Derived.Deep.Slices
set_option linter.unusedVariables false
set_option linter.unusedSimpArgs false
namespace Go.Proofs.YtpjacgcaibaggaaGreatDoor
open Go.ChangeShapes Go.WideShapes Go.ChangeAt Go.RowKit Go.Joins

section
variable {H : Type} {enc : TypeId × Value → H} {P : Program}

theorem trodAll_ext {W W' : World} (hl : laidOutB P = true) (hx : Ext W W') : ∀ {ts : List TypeId} {vs : List Value} {ds : List (DataW H)} {ps : List MemPlace},
    (ts.all fun t => P.readableRec t && decide (t < P.types.size)) = true → (∀ x ∈ ps, x.block < W.heap.size) →
    DataW.TrodAll enc P W 0 (fun _ => true) true ts vs ds ps → DataW.TrodAll enc P W' 0 (fun b => decide (b < W.heap.size)) true ts vs ds ps
  | [], [], [], _, _, _, h => h
  | [], [], _ :: _, _, _, _, h => h.elim
  | [], _ :: _, _, _, _, _, h => h.elim
  | _ :: _, [], _, _, _, _, h => h.elim
  | _ :: _, _ :: _, [], _, _, _, h => h.elim
  | t :: ts, v :: vs, d :: ds, ps, ha, hlt, h => by
    obtain ⟨p, q, h1, h2, rfl⟩ := h
    simp only [List.all_cons, Bool.and_eq_true, decide_eq_true_eq] at ha
    refine ⟨p, q, Below.trod hl ha.1.1 ha.1.2 h1 hx.below (fun x hx => hlt x (List.mem_append.2 (.inl hx))), trodAll_ext hl hx (by simpa using ha.2) (fun x hx => hlt x (List.mem_append.2 (.inr hx))) h2, rfl⟩

/-- WHATEVER THE LAW: true; each argument reads as it did; nothing that was there has turned. -/
theorem law_post {f : Func} {s : ChangeSpec} {W W' : World} {args : Array Value} {ds gs : List (DataW H)} {before : List MemPlace} (hl : laidOutB P = true)
    (hts : (f.params.toList.all fun t => P.readableRec t && decide (t < P.types.size)) = true) (hvs : s.vars = [])
    (hW : DataW.Whole enc P f.params.toList s.vars false W args.toList ds gs before) (hx : Ext W W') (tb : TypeId) (hrt : f.resultTypes = #[tb]) (hb : P.underlying tb = some .bool)
    (hr : (s.fn H (ds ++ gs)).results = [.lit (.bool true)]) (ha : (s.fn H (ds ++ gs)).args = ds) (hv : (s.fn H (ds ++ gs)).vars = []) :
    s.post enc P f false true false false W args (.bool true) W' := by
  have hlt : ∀ p ∈ before, p.block < W.heap.size := fun p hp => hW.lt p hp
  have hW' := hW
  obtain ⟨p, q, hA, hV, rfl, _, _⟩ := hW
  rw [hvs] at hV
  obtain ⟨rfl, rfl⟩ := trodVars_none hV
  simp only [List.append_nil] at hlt hW'
  refine ⟨ds, [], p, [], p, [], hW', ?_, ?_, ?_, World.keptBut_mono (fun x hx => ⟨hx, .inr (.inl hx)⟩) (hx.below.frame (· ∈ p)), fun h => by cases h⟩
  · rw [hr, hrt]
    exact trodAll_mk1 (shut_bool hb true)
  · rw [ha]; exact trodAll_ext hl hx hts hlt hA
  · rw [hv, hvs]; rfl
end

theorem Tryz.own : ownKnob Tryz.prog.godebug = none := by kernel_rfl
theorem Tryz.laidOut : laidOutB Tryz.prog = true := by kernel_rfl

section
variable {H : Type} {enc : TypeId × Value → H} {w : World} {base : Nat} {spare : Nat → Bool} {held : Bool}
set_option maxRecDepth 100000 in
theorem open_period {r : Reach} {b0 : Nat} {v : Value} {d : DataW H} {p : List MemPlace} (hv : Value.okWide Tryz.prog w r b0 45 v) (h : DataW.Trod enc Tryz.prog w base spare held 45 v d p) :
    ∃ a b : Int, v = .agg #[.int .i64 a, .int .i64 b] ∧ (Lit.int .i64 a).wf = true ∧ (Lit.int .i64 b).wf = true := by
  obtain ⟨c0, c1, y0, y1, m, rfl, _, _, hy0, hy1⟩ := open_agg2 Tryz.underlying45 (by kernel_rfl) (by kernel_rfl) hv h
  obtain ⟨a, e0, _, wa⟩ := DataW.trod_int Tryz.underlying3 hy0
  obtain ⟨b, e1, _, wb⟩ := DataW.trod_int Tryz.underlying3 hy1
  simp at e0 e1
  subst e0 e1
  exact ⟨a, b, rfl, wa, wb⟩
end
end Go.Proofs.YtpjacgcaibaggaaGreatDoor

namespace Go.Proofs.YtpjacgcaibaggaaGreatDoor
open Go.ChangeShapes Go.WideShapes Go.ChangeAt Go.RowKit Go.Joins Go.Deep
open Go.Proofs
open Go.Proofs.Sp (Sp)

theorem seg {L M : List Value} {o n : Nat} (h : (L.drop o).take n = M) : L.drop o = M ++ L.drop (o + n) := by
  rw [← h, ← List.drop_drop, List.take_append_drop]
theorem list_each {α : Type} (d : α) (Q : Nat → α → Prop) : ∀ n : Nat, (∀ i, i < n → ∃ x, Q i x) → ∃ l : List α, l.length = n ∧ ∀ i, i < n → Q i (l.getD i d)
  | 0, _ => ⟨[], rfl, fun i h => by omega⟩
  | n + 1, h => by
    obtain ⟨l, hl, hq⟩ := list_each d Q n (fun i hi => h i (by omega))
    obtain ⟨x, hx⟩ := h n (by omega)
    refine ⟨l ++ [x], by simp [hl], fun i hi => ?_⟩
    by_cases e : i = n
    · subst e; rw [List.getD_eq_getElem?_getD, List.getElem?_append_right (by omega), hl, Nat.sub_self]; exact hx
    · have hin : i < n := by omega
      have := hq i hin
      rw [List.getD_eq_getElem?_getD] at this ⊢
      rwa [List.getElem?_append_left (by omega)]
theorem cell_there {w : World} {a : Addr} {v : Value} (h : w.cell? a = some v) : a.block < w.heap.size := by
  unfold World.cell? at h
  cases ho : w.heap[a.block]? with
  | none => simp [ho] at h
  | some o => exact (Array.getElem?_eq_some_iff.1 ho).1

section
variable {H : Type} {enc : TypeId × Value → H} {w : World} {base : Nat} {spare : Nat → Bool} {held : Bool}
set_option maxRecDepth 100000 in
theorem sp_of_trod {m : Nat} {v : Value} {x : DataW H × List MemPlace} (h : DataW.trod enc Tryz.prog w 0 (fun _ => true) held m 56 [v] = some x) :
    ∃ (A : Option Addr) (c : Nat) (l : List Sp), v = .slice A l.length c ∧ l.length ≤ maxLen ∧ ReadsSp w w.heap.size A l := by
  have hC : Tryz.prog.cellsOf 26 = 2 := by kernel_rfl
  have hC1 : Tryz.prog.cellsOf 3 = 1 := by kernel_rfl
  rcases open_slice Tryz.underlying56 h with ⟨hcs, _⟩ | ⟨a, len, cap, m, n, D, Pl, hcs, hb, hl, hm, hmm, hx, hi⟩
  · simp at hcs
    subst hcs
    exact ⟨none, 0, [], rfl, by simp, Reads.nil _ _ _ _ _⟩
  · simp at hcs
    subst hcs
    have hlm : len ≤ m := by rw [hmm]; simp; omega
    obtain ⟨l, hll, hq⟩ := list_each ((0 : Int), (0 : Int)) (fun i s => w.cell? (a.add (i * 2)) = some (.int .i64 s.1) ∧ w.cell? (a.add (i * 2 + 1)) = some (.int .i64 s.2)) len (fun i hil => by
      obtain ⟨cs', hc, ht⟩ := hi i (by omega)
      rw [hC] at hc
      obtain ⟨_, hcl, hat⟩ := World.cells?_some hc
      obtain ⟨ys, n', _, _, _, hyl, hg⟩ := DataW.trod_struct Tryz.underlying26 ht
      have g0 := hg 0 _ rfl
      have g1 := hg 1 _ rfl
      simp only [List.getElem_toArray, List.getElem_cons_succ, List.getElem_cons_zero, hC1] at g0 g1
      have hl2 : ys.length = 2 := hyl
      rw [List.getElem?_eq_getElem (by omega)] at g0 g1
      obtain ⟨x0, e0, _, _⟩ := DataW.trod_int Tryz.underlying3 g0
      obtain ⟨x1, e1, _, _⟩ := DataW.trod_int Tryz.underlying3 g1
      match cs', hcl with
      | [c0, c1], _ =>
        simp at e0 e1
        subst e0 e1
        have a0 := hat 0 (by omega)
        have a1 := hat 1 (by omega)
        rw [add_add] at a0 a1
        exact ⟨(x0, x1), by simpa using a0, by simpa using a1⟩)
    refine ⟨some a, cap, l, by rw [hll], by rw [hll]; omega, ?_⟩
    intro h0
    have h00 := (hq 0 (by omega)).1
    have ea : a.add (0 * 2) = a := by simp [Addr.add]
    rw [ea] at h00
    have hlt := cell_there h00
    have hs : a.spot = none := by
      unfold World.cell? at h00
      cases ho : w.heap[a.block]? with
      | none => simp [ho] at h00
      | some o => cases hs : a.spot with
        | none => rfl
        | some s => cases o <;> simp [ho, hs] at h00
    refine ⟨a.block, a.off, by cases a; simp at hs; simp [hs], hlt, fun i hi j v hv => ?_⟩
    have e1 : a.add (i * 2) = ⟨a.block, a.off + i * 2, none⟩ := by
      unfold Addr.add
      by_cases h : i * 2 = 0
      · rw [if_pos h, h]; cases a; simp at hs; simp [hs]
      · rw [if_neg h]
    have e2 : a.add (i * 2 + 1) = ⟨a.block, a.off + i * 2 + 1, none⟩ := by
      unfold Addr.add
      rw [if_neg (by omega)]; simp [Nat.add_assoc]
    have hqi := hq i (by omega)
    rw [e1, e2, List.getD_eq_getElem?_getD, List.getElem?_eq_getElem hi, Option.getD_some] at hqi
    have hj : j < 2 := by
      have := (List.getElem?_eq_some_iff.1 hv).1
      simpa [encSp] using this
    have h3 : j = 0 ∨ j = 1 := by omega
    rcases h3 with h3 | h3 <;> subst h3 <;> simp [encSp] at hv <;> subst hv
    · exact hqi.1
    · exact hqi.2
set_option maxRecDepth 100000 in
theorem plain_of_ok {r : Reach} {b0 : Nat} {n c : Nat} {A : Option Addr} (h : Cell.okWide Tryz.prog w r b0 56 (.slice A n c)) : plainA A := by
  intro a ha
  subst ha
  unfold Cell.okWide at h
  rw [Tryz.underlying56] at h
  simp only [] at h
  unfold Cell.ok at h
  rw [Tryz.underlying56] at h
  simp only [] at h
  obtain ⟨_, _, _, hs, _⟩ := h
  exact ⟨a.block, a.off, by cases a; simp at hs; simp [hs]⟩
set_option maxRecDepth 100000 in
theorem none_of_ok {r : Reach} {b0 : Nat} {n c : Nat} {A : Option Addr} (h : Cell.okWide Tryz.prog w r b0 56 (.slice A n c)) : A = none → c = 0 := by
  intro ha
  subst ha
  unfold Cell.okWide at h
  rw [Tryz.underlying56] at h
  simp only [] at h
  unfold Cell.ok at h
  rw [Tryz.underlying56] at h
  cases c with
  | zero => rfl
  | succ c => cases n <;> simp at h
end
end Go.Proofs.YtpjacgcaibaggaaGreatDoor
