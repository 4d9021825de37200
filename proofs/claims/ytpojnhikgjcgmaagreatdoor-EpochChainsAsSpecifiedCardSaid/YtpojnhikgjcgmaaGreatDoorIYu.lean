/- weirgateref31.Since. -/
import Derived.WalkKit
import Derived.WalkSpells
import Derived.WalkLawsBesides
import Derived.Deep.QuietTactic
import Derived.BigQuiet
import Derived.Test.YtpojnhikgjcgmaaGreatDoorIYs
set_option maxRecDepth 100000
set_option maxHeartbeats 64000000
set_option linter.unusedVariables false
set_option linter.unusedSimpArgs false
namespace Go.Proofs.YtpojnhikgjcgmaaGreatDoor
open Go.RowKit Go.Shelf Go.Maps
open Go.Proofs
def newer (n : Int) (e : Ep) : Bool := decide (n < e.num)
theorem filter_take {l : List Ep} {n : Int} (k : Nat) (hk : k < l.length) : (l.take (k + 1)).filter (newer n) = if newer n l[k] = true then (l.take k).filter (newer n) ++ [l[k]] else (l.take k).filter (newer n) := by
 rw [List.take_succ_eq_append_getElem hk, List.filter_append]
 by_cases h : newer n l[k] = true
 ·rw [if_pos h, List.filter_cons, if_pos h]; rfl
 ·rw [if_neg h, List.filter_cons, if_neg h]; simp
def RSinceOut (l : List Ep) (n : Int) (base : Nat) (r : Ending) (w' : World) : Prop := ∃ A c l', r = .returned (.slice A l'.length c) ∧ l' = l.filter (newer n) ∧ OwnsEp base w' A c l'
theorem rsince_any (n : Int) (A : Option Addr) (c : Nat) (l : List Ep) (w : World) (hl : l.length ≤ 100) (hr : Reads 38 epL w w.heap.size A l) :
  Calls Tryz.prog 43 #[.slice A l.length c, .int .i64 n] w fun r w' => RSinceOut l n w.heap.size r w' ∧ Ext w w' := by
 have HR := lh hr
 have HT := lh (fun (k : Nat) (hk : k < l.length) => filter_take (n := n) k hk)
 have HLn := lh (fun (k : Nat) => List.length_filter_le (newer n) (l.take k))
 clear hr
 go_enter Tryz.func43, Tryz.ntmps43
 go_wp2
 go_loopw [5, 6] (fun o i wr => ∃ (k : Nat) (Ao : Option Addr) (co : Nat) (out : List Ep), k ≤ l.length ∧ o = .slice Ao out.length co ∧ i = .int .i64 k ∧ Hid (out = (l.take k).filter (newer n)) ∧ Hid (OwnsEp w.heap.size wr Ao co out) ∧ Hid (Ext w wr)) (fun _ i _ => l.length - (intOf i).toNat)
 case atStart => exact ⟨0, none, 0, [], Nat.zero_le _, rfl, rfl, lh rfl, lh (Owns.nil _ _ _ _ _), lh (eR _)⟩
 case round =>
  obtain ⟨k, Ao, co, out, hk, rfl, rfl, HOu, HO, HX⟩ := hrel
  generalize hwA : wr = wA at *
  clear hwA
  have hsz := HX.out.size
  by_cases hlt : k < l.length
  ·obtain ⟨b, off, rfl, hb, kr⟩ := epr_at (HR.out.on HX.out) k hlt
   have HTk := HT.out k hlt
   rw [← HOu.out] at HTk
   have HT' := lh HTk
   have hol : out.length ≤ 100 := by
    have h := HLn.out k
    rw [← HOu.out, List.length_take] at h
    omega
   generalize l[k] = e at *
   have q0 : wA.cell? ⟨b, off + k * 38, none⟩ = some (.int .i64 e.num) := (rowOf_cell kr (i := 0) (by omega)).trans (ep_g0 e)
   have hfe := ep_fits e
   clear HTk HT HLn
   by_cases hn : n < e.num
   ·have HL2 : Hid ((l.take (k + 1)).filter (newer n) = out ++ [e]) := lh (by rw [HT'.out, if_pos (by simpa [newer] using hn)])
    have dd : decide (n < e.num) = true := decide_eq_true hn
    clear HT'
    go_wp2_with (at_builtin; refine (show Hid _ from ?_).out)
    refine lh ?_
    refine app_reads epT epE rfl _ _ rfl w.heap.size _ _ out rfl (HO.out.ext ((eR _).alloc _)) _ _ _ [e] rfl (reads_freshB epE [e] wA _ _ (by kernel_rfl) _ rfl) (fun h => by cases h) (by simp; omega) (by simp; omega) (by rw [World.size_alloc]; omega) ?_
    intro A9 c9 l9 w9 HL9 hO9 hB9 hl91 hl92 _
    have HO9 := lh hO9
    have HX9 : Hid (Ext w w9) := lh (Ext.grown (HX.out.alloc _) hB9 (Nat.le_refl _))
    have HL : Hid (l9 = (l.take (k + 1)).filter (newer n)) := lh (by rw [HL2.out]; exact HL9.out)
    clear hO9 hB9 hl91 hl92 HL9 HL2 kr q0
    go_wp2
    go_roundw
    case rel => exact ⟨k + 1, A9, c9, l9, by omega, rfl, by go_num, HL, HO9, lh (by (with_reducible repeat first|exact HX9.out|exact eR _|apply eD|apply eN|apply eA|apply eO|apply eS|apply eC);all_goals first|omega|simp <;> omega)⟩
    case measure => simp [intOf]; omega
   ·have HL2 : Hid (out = (l.take (k + 1)).filter (newer n)) := lh (by rw [HT'.out, if_neg (by simpa [newer] using hn)])
    have dd : decide (n < e.num) = false := decide_eq_false hn
    clear HT'
    go_wp2
    go_roundw
    case rel => exact ⟨k + 1, Ao, co, out, by omega, rfl, by go_num, HL2, HO, lh (by (with_reducible repeat first|exact HX.out|exact eR _|apply eD|apply eN|apply eA|apply eO|apply eS|apply eC);all_goals first|omega|simp <;> omega)⟩
    case measure => simp [intOf]; omega
  ·have HOe : Hid (out = l.filter (newer n)) := lh (by have h := HOu.out; rwa [List.take_of_length_le (by omega)] at h)
   go_wp2
   go_ret
   exact ⟨⟨Ao, co, out, rfl, HOe.out, HO.out⟩, (by (with_reducible repeat first|exact HX.out|exact eR _|apply eD|apply eN|apply eA|apply eO|apply eS|apply eC);all_goals first|omega|simp <;> omega)⟩
end Go.Proofs.YtpojnhikgjcgmaaGreatDoor