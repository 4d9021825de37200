/- Walks of the clock: paces that are right. -/
import Derived.Test.YtkcclpomhniafaaRows
import Derived.Test.YtkcclpomhniafaaExt
import Derived.WalkKit
import Derived.WalkSpells
import Derived.WalkLawsBesides
import Derived.Deep.QuietTactic
import Derived.BigQuiet
import Derived.Test.YtkcclpomhniafaaCkS
import Derived.LoopTactic
set_option linter.unusedVariables false
set_option linter.unusedSimpArgs false
namespace Go.Proofs.Ytkcclpomhniafaa
open Go.RowKit

/-- A slice of paces that reads as a list of pairs, and lies below block B. -/
def PReads (w : World) (B : Nat) (A : Option Addr) (ps : List (Int × Int)) : Prop :=
  0 < ps.length → ∃ b off, A = some ⟨b, off, none⟩ ∧ b < B ∧ ∀ i, i < ps.length →
    w.cell? ⟨b, off + i * 2, none⟩ = some (.int .i64 (ps.getD i (0, 0)).1) ∧ w.cell? ⟨b, off + i * 2 + 1, none⟩ = some (.int .i64 (ps.getD i (0, 0)).2)

def okPace (d : Int) (p : Int × Int) : Bool := decide (0 ≤ p.1) && decide (p.1 ≤ 1099511627776) && decide (p.2 ≤ d) && decide (-d ≤ p.2)
def rightB (ps : List (Int × Int)) (d : Int) : Bool := ps.all (okPace d) && decide (ps.length ≤ 100)

theorem PReads.ext {w w' : World} {B : Nat} {A : Option Addr} {ps : List (Int × Int)} (h : PReads w B A ps) (hx : Ext w w') (hB : B ≤ w.heap.size) : PReads w' B A ps := by
  intro h0
  obtain ⟨b, off, e, hb, hc⟩ := h h0
  exact ⟨b, off, e, hb, fun i hi => ⟨(hx.cell (p := ⟨b, off + i * 2, none⟩) (by show b < _; omega)).trans (hc i hi).1, (hx.cell (p := ⟨b, off + i * 2 + 1, none⟩) (by show b < _; omega)).trans (hc i hi).2⟩⟩

theorem all_take_snoc {α : Type} (f : α → Bool) (l : List α) (k : Nat) (h : k < l.length) : (l.take (k + 1)).all f = ((l.take k).all f && f l[k]) := by
  rw [List.take_succ_eq_append_getElem h, List.all_append]; simp
theorem not_all {α : Type} (f : α → Bool) (l : List α) (k : Nat) (h : k < l.length) (hf : f l[k] = false) : l.all f = false := by
  rw [List.all_eq_false]; exact ⟨l[k], List.getElem_mem h, by simp [hf]⟩
theorem okPace_iff {d : Int} {p : Int × Int} : okPace d p = true ↔ 0 ≤ p.1 ∧ p.1 ≤ 1099511627776 ∧ p.2 ≤ d ∧ -d ≤ p.2 := by simp [okPace, and_assoc]

set_option maxHeartbeats 400000 in
theorem right_any (A : Option Addr) (c : Nat) (ps : List (Int × Int)) (d : Int) (w : World) (hd : 0 ≤ d) (hd1 : d ≤ 100000) (hm : ps.length ≤ 9223372036854775807) (hr : PReads w w.heap.size A ps) :
    Calls Try.prog 45 #[.slice A ps.length c, .int .i64 d] w fun e w' => e = .returned (.bool (rightB ps d)) ∧ Ext w w' := by
  go_enter Try.func45, Try.ntmps45
  go_wp2
  go_loopw [9] (fun i wr => ∃ k : Nat, k ≤ ps.length ∧ i = .int .i64 k ∧ Ext w wr ∧ (ps.take k).all (okPace d) = true) (fun i _ => ps.length - (intOf i).toNat)
  case atStart => exact ⟨0, Nat.zero_le _, rfl, Ext.refl _, by simp⟩
  case round =>
    obtain ⟨k, hk, rfl, hx, hall⟩ := hrel
    have HA := Lib.hid hall
    have HX := Lib.hid hx
    clear hall hx
    by_cases hlt : k < ps.length
    · obtain ⟨b, off, rfl, hb, hc⟩ := (hr.ext HX.out (Nat.le_refl _)) (by omega)
      have h1 := (hc k hlt).1
      have h2 := (hc k hlt).2
      clear hc
      have hg : ps.getD k (0, 0) = ps[k] := by simp [hlt]
      rw [hg] at h1 h2
      by_cases hok : okPace d ps[k] = true
      · have HS := Lib.hid (all_take_snoc (okPace d) ps k hlt)
        rw [HA.out, hok] at HS
        rw [okPace_iff] at hok
        obtain ⟨e1, e2, e3, e4⟩ := hok
        generalize ps[k] = p at h1 h2 e1 e2 e3 e4
        clear hg
        go_wp2
        go_roundw
        case rel => exact ⟨k + 1, by omega, by go_num, (HX.out).alloc _, HS.out⟩
        case measure => simp [intOf]; omega
      · have HF := Lib.hid (not_all (okPace d) ps k hlt (by simpa using hok))
        rw [okPace_iff] at hok
        generalize ps[k] = p at h1 h2 hok
        have HN := Lib.hid hok
        clear hok hg
        go_wp2
        all_goals first | (exfalso; have := HN.out; omega) | skip
        all_goals
          go_ret
          refine ⟨ret_bool (by simp [rightB, HF.out]), (HX.out).alloc _⟩
    · have : k = ps.length := by omega
      subst this
      have HA2 : Hid (ps.all (okPace d) = true) := by have := HA.out; rw [List.take_length] at this; exact Lib.hid this
      clear HA
      go_wp2
      go_ret
      refine ⟨ret_bool (by simp [rightB, HA2.out]; omega), HX.out⟩

set_option maxHeartbeats 400000 in
theorem rright_any (A : Option Addr) (c : Nat) (ps : List (Int × Int)) (d : Int) (w : World) (hd : 0 ≤ d) (hd1 : d ≤ 100000) (hm : ps.length ≤ 9223372036854775807) (hr : PReads w w.heap.size A ps) :
    Calls Try.prog 44 #[.slice A ps.length c, .int .i64 d] w fun e w' => e = .returned (.bool (rightB ps d)) ∧ w = w' := by
  by_cases h100 : 100 < ps.length
  · go_enter Try.func44, Try.ntmps44
    go_wp2
    go_ret
    exact ⟨ret_bool (by simp [rightB]; omega), rfl⟩
  have HR := Lib.hid hr
  clear hr
  have d1 : decide ((100 : Int) < ps.length) = false := by simp; omega
  go_enter Try.func44, Try.ntmps44
  go_wp2
  go_loop [5] (fun i => ∃ k : Nat, k ≤ ps.length ∧ i = .int .i64 k ∧ (ps.take k).all (okPace d) = true) (fun i => ps.length - (intOf i).toNat)
  case atStart => exact ⟨0, Nat.zero_le _, rfl, by simp⟩
  case round =>
    obtain ⟨k, hk, rfl, hall⟩ := hrel
    have HA := Lib.hid hall
    clear hall d1
    by_cases hlt : k < ps.length
    · obtain ⟨b, off, rfl, hb, hc⟩ := HR.out (by omega)
      have h1 := (hc k hlt).1
      have h2 := (hc k hlt).2
      clear hc
      have hg : ps.getD k (0, 0) = ps[k] := by simp [hlt]
      rw [hg] at h1 h2
      by_cases hok : okPace d ps[k] = true
      · have HS := Lib.hid (all_take_snoc (okPace d) ps k hlt)
        rw [HA.out, hok] at HS
        rw [okPace_iff] at hok
        obtain ⟨e1, e2, e3, e4⟩ := hok
        generalize ps[k] = p at h1 h2 e1 e2 e3 e4
        clear hg
        go_wp2
        go_round
        case rel => exact ⟨k + 1, by omega, by go_num, HS.out⟩
        case measure => simp [intOf]; omega
      · have HF := Lib.hid (not_all (okPace d) ps k hlt (by simpa using hok))
        rw [okPace_iff] at hok
        generalize ps[k] = p at h1 h2 hok
        have HN := Lib.hid hok
        clear hok hg
        go_wp2
        all_goals first | (exfalso; have := HN.out; omega) | skip
        all_goals
          go_ret
          exact ⟨ret_bool (by simp [rightB, HF.out]), rfl⟩
    · have : k = ps.length := by omega
      subst this
      have HA2 : Hid (ps.all (okPace d) = true) := by have := HA.out; rw [List.take_length] at this; exact Lib.hid this
      clear HA
      go_wp2
      go_ret
      exact ⟨ret_bool (by simp [rightB, HA2.out]; omega), rfl⟩
end Go.Proofs.Ytkcclpomhniafaa
