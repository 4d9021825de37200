
import Derived.WalkKit
import Derived.WalkSpells
import Derived.WalkLawsBesides
import Derived.Deep.QuietTactic
import Derived.BigQuiet
import Derived.Test.YtpfhmcdcmepfdaaGreatDoorQJv
import Derived.Test.YtpfhmcdcmepfdaaGreatDoorQKi
set_option maxRecDepth 100000
set_option maxHeartbeats 64000000
set_option linter.unusedVariables false
set_option linter.unusedSimpArgs false
namespace Go.Proofs.YtpfhmcdcmepfdaaGreatDoor
open Go.RowKit Go.Shelf
open Go.Proofs
theorem reads_at {α : Type} {size : Nat} {enc : α → List Value} (E : EncTy enc size) {w : World} {B : Nat} {A : Option Addr} {l : List α} (h : Reads size enc w B A l) (i : Nat) (hi : i < l.length) :
  ∃ b off, A = some ⟨b, off, none⟩ ∧ b < B ∧ rowOf w b (off + i * size) size = some (enc l[i]).toArray ∧ ∀ j v, (enc l[i])[j]? = some v → w.cell? ⟨b, off + i * size + j, none⟩ = some v := by
 obtain ⟨b, off, h1, h2, h3⟩ := reads_row E h i hi
 obtain ⟨b', off', k1, _, k3⟩ := h (by omega)
 rw [h1] at k1
 injection k1 with k1
 injection k1 with k1 k2
 subst k1 k2
 exact ⟨b, off, h1, h2, h3, fun j v hv => k3 i hi j v hv⟩
def leBz : Sem Next := do pure (.value (← Instr.build 87 #[]))
theorem leBz_x (ρ : Operand → Value) (dst : Option Tmp) (t : TypeId) (pos : String) (after : Array Edge) (guard : Option (Nat × Bool)) : execOp ρ { dst, op := .build 87 #[], type := t, pos, after, guard } = leBz := by kernel_rfl
attribute [go_sem ↓] leBz_x
theorem leBz_run (W : World) : leBz.run Tryz.prog W = .ok (.value (.agg (leC noLe))) W := by kernel_rfl
attribute [go_sem] leBz_run
def kindN (r : Rp) (n : Int) : Int := match r.lines.find? (fun x => decide (x.site = n)) with
 | some x => x.kind
 | none => 0
theorem kfind1 {l : List Ln} {n : Int} {k : Nat} (h : k < l.length) (h0 : ∀ i (hi : i < k), (l[i]'(by omega)).site ≠ n) (h1 : l[k].site = n) : l.find? (fun x => decide (x.site = n)) = some l[k] := by
 rw [List.find?_eq_some_iff_getElem]
 exact ⟨by simpa using h1, k, h, rfl, fun j hj => by simpa using h0 j hj⟩
theorem kfind0 {l : List Ln} {n : Int} (h0 : ∀ i (hi : i < l.length), l[i].site ≠ n) : l.find? (fun x => decide (x.site = n)) = none := by
 rw [List.find?_eq_none]
 intro x hx
 obtain ⟨i, hi, rfl⟩ := List.getElem_of_mem hx
 simpa using h0 i hi
theorem rkind_any (r : Rp) (n : Int) (w : World) (hl : r.lines.length ≤ 100000) (ha : Reads 59 lnL w w.heap.size r.LA r.lines) :
  Calls Tryz.prog 38 #[.agg (rpC r), .int .i64 n] w fun e w' => e = .returned (.int .i64 (kindN r n)) ∧ Ext w w' := by
 have HR := lh ha
 have hft := rp_fits r
 have HO : Hid (kindN r n = match r.lines.find? (fun x => decide (x.site = n)) with | some x => x.kind | none => 0) := lh rfl
 generalize kindN r n = V at *
 clear ha
 go_enter Tryz.func38, Tryz.ntmps38
 go_wp2
 refine wp_world (fun W => Ext w W ∧ RowAt W w.heap.size (rpC r)) ⟨(by (with_reducible repeat first|exact eR _|apply eD|apply eN|apply eA|apply eO|apply eS|apply eC);all_goals first|omega|simp <;> omega), RowAt.new _ _ _⟩ ?_
 obtain ⟨B, hB⟩ : ∃ B, w.heap.size = B := ⟨_, rfl⟩
 rw [hB]
 rintro W1 ⟨x1, uB⟩
 have HX1 := lh x1
 have hlB := uB.lt
 have HQ : Hid (W1.cell? ⟨B, 19, none⟩ = some (.slice r.LA r.lines.length r.lc)) := lh ((uB.cell 19).trans (rp_g19 r))
 clear x1 uB
 generalize r.LA = LA at *
 generalize r.lines = l at *
 go_loopw [5] (fun i wr => ∃ k : Nat, k ≤ l.length ∧ i = .int .i64 k ∧ Hid (∀ j (hj : j < l.length), j < k → l[j].site ≠ n) ∧ Hid (Ext W1 wr)) (fun i _ => l.length - (intOf i).toNat)
 case atStart => exact ⟨0, Nat.zero_le _, rfl, lh (fun j _ h => absurd h (Nat.not_lt_zero _)), lh (eR _)⟩
 case round =>
  obtain ⟨k, hk, rfl, HK, HX⟩ := hrel
  have hsz := HX.out.size
  have q19 : wr.cell? ⟨B, 19, none⟩ = some (.slice LA l.length r.lc) := (HX.out.cell (p := ⟨B, 19, none⟩) hlB).trans HQ.out
  by_cases hlt : k < l.length
  ·obtain ⟨b, off, rfl, hb, hrow, hcel⟩ := reads_at lnE (HR.out.ext (HX1.out.trans HX.out) (Nat.le_refl _)) k hlt
   have hb2 : b < wr.heap.size := by omega
   have c0 : wr.cell? ⟨b, off + k * 59, none⟩ = some (.int .i64 l[k].site) := hcel 0 _ rfl
   have c1 : wr.cell? ⟨b, off + k * 59 + 1, none⟩ = some (.int .i64 l[k].kind) := hcel 1 _ rfl
   have HH := lh (fun h => kfind1 (n := n) hlt (fun i hi => HK.out i (by omega) hi) h)
   have HN := lh (show l[k].site ≠ n → ∀ j (hj : j < l.length), j < k + 1 → l[j].site ≠ n from fun h j hj hjk => by
    by_cases e : j = k
    ·subst e; exact h
    ·exact HK.out j hj (by omega))
   clear hrow hcel
   generalize l[k] = x at *
   by_cases h3 : x.site = n
   ·have e3 : (x.site == n) = true := by simpa using h3
    have HV : Hid (V = x.kind) := lh (by rw [HO.out, HH.out h3])
    clear h3 HN HH
    go_wp2
    go_ret
    exact ⟨ret_int (by rw [HV.out]), (by (with_reducible repeat first|exact HX1.out.trans HX.out|exact eR _|apply eD|apply eN|apply eA|apply eO|apply eS|apply eC);all_goals first|omega|simp <;> omega)⟩
   ·have e3 : (x.site == n) = false := by simpa using h3
    have HN2 := lh (HN.out h3)
    clear h3 HN HH
    go_wp2
    go_roundw
    case rel => exact ⟨k + 1, by omega, by go_num, HN2, HX⟩
    case measure => simp [intOf]; omega
  ·have HV : Hid (V = 0) := lh (by rw [HO.out, kfind0 (fun i hi => HK.out i hi (by omega))])
   go_wp2
   go_ret
   exact ⟨ret_int (by rw [HV.out]), (by (with_reducible repeat first|exact HX1.out.trans HX.out|exact eR _|apply eD|apply eN|apply eA|apply eO|apply eS|apply eC);all_goals first|omega|simp <;> omega)⟩
theorem bestNone_on (n : Int) (x : Ln) : ∀ l : List Ln, l.foldl (fun o y => if lnSite n y && (!o.2 || lnNone y o.1) then (y, true) else o) (x, true) = (x, true)
 | [] => rfl
 | y :: t => by
  rw [List.foldl_cons]
  simpa [lnNone] using bestNone_on n x t
theorem bestNone_is (n : Int) : ∀ l : List Ln, bestS noLn (lnSite n) lnNone l = match l.find? (fun x => decide (x.site = n)) with | some x => (x, true) | none => (noLn, false)
 | [] => rfl
 | y :: t => by
  have h := bestNone_is n t
  unfold bestS at h ⊢
  rw [List.foldl_cons, List.find?_cons]
  by_cases e : y.site = n
  ·simp only [lnSite, e, decide_true, Bool.not_false, Bool.true_or, Bool.and_true, if_true]
   have := bestNone_on n y t
   simpa [lnSite] using this
  ·simp only [lnSite, e, decide_false, Bool.false_and, Bool.false_eq_true, if_false]
   simpa [lnSite] using h
theorem firstBad_zero {f : Nat → Int} {n : Nat} (h : firstBad f n = (-1, 0)) : ∀ k, k < n → f k = 0 := by
 intro k hk
 unfold firstBad at h
 cases hf : (List.range n).find? (fun k => f k != 0) with
 | none =>
  rw [List.find?_eq_none] at hf
  simpa using hf k (by simpa using hk)
 | some j =>
  rw [hf] at h
  simp only [Prod.mk.injEq] at h
  omega
theorem checkRp_zero {l : List Ky} {e : Ep} {r : Rp} (h : checkRp l e r = (-1, 0)) : ∀ k, k < r.lines.length → wrongLn l e r k = 0 := by
 unfold checkRp at h
 split at h
 ·split at h
  ·split at h
   ·split at h
    ·exact firstBad_zero h
    ·next h' => simp only [Prod.mk.injEq] at h; exact absurd h.2 h'
   ·simp at h
  ·simp at h
 ·simp at h
theorem checkRp_kinds {l : List Ky} {e : Ep} {r : Rp} (h : checkRp l e r = (-1, 0)) : ∀ x ∈ r.lines, x.kind = 1 ∨ x.kind = 2 ∨ x.kind = 3 := by
 intro x hx
 obtain ⟨k, hk, rfl⟩ := List.getElem_of_mem hx
 have h0 := checkRp_zero h k hk
 unfold wrongLn at h0
 rw [lnget hk] at h0
 split at h0
 ·split at h0
  ·next h1 => exact .inl h1
  ·split at h0
   ·next h1 => exact .inr h1
   ·omega
 ·omega
theorem liars_plain {l : List Ky} {e : Ep} {r : Rp} {s : Le} {p : Clk} (hC : checkRp l e r = (-1, 0)) (hL : checkLe l s = 0) (hp : okClk p = true) (hlo : r.hi ≤ p.lo) (he : s.epoch < e.num) :
  (!mayB ⟨s.site, s.epoch, s⟩ p || decide (kindN r s.site = 1) || decide (kindN r s.site = 3) || refutesB l e r s) = true := by
 by_cases hm : mayB ⟨s.site, s.epoch, s⟩ p = true
 ·simp only [mayB, Bool.and_eq_true, decide_eq_true_eq] at hm
  simp only [okClk, Bool.and_eq_true, decide_eq_true_eq] at hp
  have hu : r.hi < s.until_ := by have h2 : p.hi < s.until_ := hm.2; omega
  unfold refutesB kindN
  rw [if_pos ⟨he, hu, hL⟩, bestNone_is]
  cases hf : r.lines.find? (fun x => decide (x.site = s.site)) with
  | none => simp
  | some x =>
   have hx := checkRp_kinds hC x (List.mem_of_find?_eq_some hf)
   simp only [Bool.not_true, Bool.false_or]
   rcases hx with h | h | h <;> simp [h]
 ·simp [hm]
end Go.Proofs.YtpfhmcdcmepfdaaGreatDoor