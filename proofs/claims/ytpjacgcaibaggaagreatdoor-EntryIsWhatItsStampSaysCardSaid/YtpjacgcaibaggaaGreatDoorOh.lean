/- ranges.Of: sorting, slices.SortFunc and SortedFunc at spans. -/
import Derived.Test.YtpjacgcaibaggaaGreatDoorProg
import Derived.Test.YtpjacgcaibaggaaGreatDoorExt
import Derived.WalkKit
import Derived.WalkSpells
import Derived.WalkLawsBesides
import Derived.Deep.QuietTactic
import Derived.BigQuiet
import Derived.Test.YtpjacgcaibaggaaGreatDoorOg
set_option linter.unusedVariables false
set_option linter.unusedSimpArgs false
namespace Go.Proofs.YtpjacgcaibaggaaGreatDoor
open Go.RowKit Go.Shelf Go.Sort
open Go.Proofs
open Go.Proofs.Sp (Sp)

theorem insertion_none (p : Option Addr) (cap : Nat) (fv : Value) (w : World) :
    Calls Tryz.prog 241 #[.slice p 0 cap, .int .i64 0, .int .i64 0, fv] w fun e w' => e = .returned (.tuple #[]) ∧ w' = w := by
  go_enter Tryz.func241, Tryz.ntmps241
  go_wp2
  refine wp_loop_rounds 1 ?_
  rw [rounds_succ]
  go_wp2
  go_end0
  exact ⟨rfl, rfl⟩
theorem pdq_none (p : Option Addr) (cap : Nat) (lim : Int) (fv : Value) (w : World) :
    Calls Tryz.prog 215 #[.slice p 0 cap, .int .i64 0, .int .i64 0, .int .i64 lim, fv] w fun e w' => e = .returned (.tuple #[]) ∧ w' = w := by
  go_enter Tryz.func215, Tryz.ntmps215
  go_wp2
  refine wp_loop_rounds 1 ?_
  rw [rounds_succ]
  go_wp2_with (go_at_call 241; refine (insertion_none _ _ _ _).mono ?_; rintro e w' ⟨rfl, rfl⟩)
  (try simp only [Exit.inBlock, Exit.then]); refine bodyPost_ret (results_none rfl _ _ _) rfl ?_
  exact ⟨rfl, rfl⟩
theorem sort_none (p : Option Addr) (cap : Nat) (fv : Value) (w : World) :
    Calls Tryz.prog 172 #[.slice p 0 cap, fv] w fun e w' => e = .returned (.tuple #[]) ∧ w' = w := by
  have hl : ∀ W, Calls Tryz.prog 216 #[.int .u64 0] W fun e w' => e = .returned (.int .i64 (Lib.bitLen 0 : Nat)) ∧ w' = W := fun W => by
    have h := Any.bits_Len (SlLaysF0.n15.bits { Tryz.sortSp with }) 0 W (by omega) (by omega)
    exact h
  go_enter Tryz.func172, Tryz.ntmps172
  go_wp2_with (first | (go_at_call 216; refine (hl _).mono ?_; rintro e w' ⟨rfl, rfl⟩) | (go_at_call 215; refine (pdq_none _ _ _ _ _).mono ?_; rintro e w' ⟨rfl, rfl⟩))
  go_end0
  exact ⟨rfl, rfl⟩

theorem flat_enc {m : Int} (l : List (BS m)) : (flatK encBS 2 l.toArray).toList = (l.map (·.1)).flatMap encSp := by
  have hE : EncTy (encBS (m := m)) 2 := ⟨fun _ => rfl, fun x v hv => spE.one x.1 v hv⟩
  have e : (l.map (·.1)).flatMap encSp = l.flatMap encBS := by rw [List.flatMap_map]; rfl
  rw [e]
  apply List.ext_getElem?
  intro t
  by_cases ht : t < l.length * 2
  · have h1 := hE.flat_get l (t / 2) (by omega) (t % 2) (by omega)
    rw [show t / 2 * 2 + t % 2 = t by omega] at h1
    rw [h1]
    simp only [flatK, Array.toList_map, Array.toList_range, List.getElem?_map, List.size_toArray]
    rw [List.getElem?_range ht]
    have h2 : (l.toArray)[t / 2]! = l[t / 2] := by
      rw [getElem!_pos l.toArray (t / 2) (by simp; omega)]
      simp
    simp only [Option.map_some, h2]
    have h3 : t % 2 = 0 ∨ t % 2 = 1 := by omega
    rcases h3 with h3 | h3 <;> rw [h3] <;> rfl
  · rw [List.getElem?_eq_none (by simp; omega), List.getElem?_eq_none (by rw [hE.flat_len]; omega)]

def SortedOf (ls srt : List Sp) : Prop := srt.Perm ls ∧ srt.Pairwise (fun a b => a.1 ≤ b.1)
theorem sortFunc_any (m : Int) (base : Nat) (A : Option Addr) (c : Nat) (ls : List Sp) (w : World) (hbd : ∀ s ∈ ls, m ≤ s.1 ∧ s.1 ≤ m + 9223372036854775807) (hlen : ls.length < 4611686018427387904) (ho : OwnsSp base w A c ls) :
    Calls Tryz.prog 172 #[.slice A ls.length c, .func (.func 136) #[] #[]] w fun e w' => e = .returned (.tuple #[]) ∧
      ∃ srt, Hid (SortedOf ls srt) ∧ Hid (srt.length = ls.length) ∧ ReadsSp w' w'.heap.size A srt ∧ Below base w w' := by
  rcases ho.cases with ⟨rfl, rfl, rfl⟩ | ⟨g, cur, rfl, h2, h3, h4, h5, h6, h7⟩
  · refine (sort_none none 0 _ w).mono ?_
    rintro e w' ⟨rfl, rfl⟩
    exact ⟨rfl, [], Lib.hid ⟨List.Perm.refl _, List.Pairwise.nil⟩, Lib.hid rfl, Reads.nil _ _ _ _ _, Below.refl _ _⟩
  · have hg : g < w.heap.size := (Array.getElem?_eq_some_iff.1 h3).1
    have hfl : (flatK encBS 2 (bsOf ls hbd).toArray).toList = ls.flatMap encSp := by rw [flat_enc, bsOf_map]
    have hsz : (bsOf ls hbd).toArray.size = ls.length := by rw [List.size_toArray, bsOf_length]
    have hH : HoldsK encBS 2 w g 0 (bsOf ls hbd).toArray := by
      intro j hj
      have hj' : j < ls.length * 2 := by simpa [bsOf_length] using hj
      refine ⟨?_, by simp [World.frozen?, h3]⟩
      have e1 : (flatK encBS 2 (bsOf ls hbd).toArray)[j]? = cur[j]? := by
        rw [← Array.getElem?_toList, hfl, ← h7, List.getElem?_take, if_pos hj', Array.getElem?_toList]
      have e2 : (flatK encBS 2 (bsOf ls hbd).toArray)[j]? = some (flatK encBS 2 (bsOf ls hbd).toArray)[j]! := by
        rw [getElem!_pos _ j hj]; exact Array.getElem?_eq_getElem hj
      simp only [World.cell?, h3, Nat.zero_add, id]
      rw [← e1, e2]
      simp
    have hcon := AnyQ.slices_SortFunc Tryz.sortSp 2 isAggSp sizeSp encBS (fun _ => rfl) (fun x v hv => spE.one x.1 v hv) cmpBS swoBS 136 #[] g 0 c (bsOf ls hbd).toArray w (enters_of Tryz.func136 (by kernel_rfl) rfl) (cmpLaysBS m g 0 _ w) hH hg (by rw [hsz]; exact hlen)
    change Calls Tryz.prog 172 _ _ _ at hcon
    rw [hsz] at hcon
    refine hcon.mono ?_
    rintro e w' ⟨rfl, d', n, os, ⟨p1, _, p3⟩, hs, rfl⟩
    have hd : d'.size = ls.length := by rw [p1, hsz]
    have hperm : (d'.toList.map (·.1)).Perm ls := by
      have q : d'.toList.Perm (bsOf ls hbd) := by
        have := p3
        rw [Array.toList_extract, Array.toList_extract] at this
        simp only [List.extract_eq_take_drop, List.drop_zero, Nat.sub_zero] at this
        rw [List.take_of_length_le (by simp [hd]), List.take_of_length_le (by simp [bsOf_length])] at this
        exact this
      have := q.map (·.1)
      rwa [bsOf_map] at this
    refine ⟨rfl, d'.toList.map (·.1), Lib.hid ⟨hperm, ?_⟩, Lib.hid (by simp [hd]), ?_, ?_⟩
    · rw [List.pairwise_map, List.pairwise_iff_getElem]
      intro i j hi hj hij
      have hi' : i < d'.size := by simpa using hi
      have hj' : j < d'.size := by simpa using hj
      have := hs i j (Nat.zero_le _) hij (by omega)
      rw [ltBS, decide_eq_false_iff_not, getElem!_pos d' i hi', getElem!_pos d' j hj'] at this
      simp only [Array.getElem_toList]
      omega
    · intro h0
      refine ⟨g, 0, rfl, ?_, fun i hi j v hv => ?_⟩
      · exact Nat.lt_of_lt_of_le hg (sortWorld_but encBS 2 w g 0 n d' os).size
      have hi' : i < d'.size := by simpa using hi
      have hj : j < 2 := by
        have := (List.getElem?_eq_some_iff.1 hv).1
        simpa [encSp] using this
      have hk := holds_sorted encBS 2 (m := n) (os := os) hH (d := d') (by rw [hd, hsz]) hg
      have hc := (hk (i * 2 + j) (by simp; omega)).1
      rw [Nat.zero_add] at hc
      rw [show 0 + i * 2 + j = i * 2 + j by omega, hc]
      rw [id, get_flatK _ _ _ _ (by omega), show (i * 2 + j) / 2 = i by omega, show (i * 2 + j) % 2 = j by omega, getElem!_pos d' i hi']
      have hv' : (encSp d'[i].1)[j]? = some v := by simpa using hv
      have h3 : j = 0 ∨ j = 1 := by omega
      rcases h3 with h3 | h3 <;> subst h3 <;> simp [encSp] at hv' <;> subst hv' <;> rfl
    · have hb := sortWorld_but encBS 2 w g 0 n d' os
      exact ⟨hb.os, hb.tape, hb.output, hb.size, fun k hk => hb.block k (by omega) (by omega)⟩
end Go.Proofs.YtpjacgcaibaggaaGreatDoor
