/- ranges.Of. -/
import Derived.Test.YtiacnoejlmaplaaGreatDoorProg
import Derived.Test.YtiacnoejlmaplaaGreatDoorExt
import Derived.WalkKit
import Derived.WalkSpells
import Derived.WalkLawsBesides
import Derived.Deep.QuietTactic
import Derived.BigQuiet
import Derived.Test.YtiacnoejlmaplaaGreatDoorLy
import Derived.Test.YtiacnoejlmaplaaGreatDoorVa
set_option linter.unusedVariables false
set_option linter.unusedSimpArgs false
namespace Go.Proofs.YtiacnoejlmaplaaGreatDoor
open Go.RowKit Go.Shelf Go.Sort
open Go.Proofs
open Go.Proofs.Sp (Sp)

/-- A span whose start lies in a window. -/
abbrev BS (m : Int) := { s : Sp // m ≤ s.1 ∧ s.1 ≤ m + 9223372036854775807 }
instance (m : Int) : Inhabited (BS m) := ⟨⟨(m, 0), by show m ≤ m ∧ m ≤ m + 9223372036854775807; omega⟩⟩
def encBS {m : Int} (x : BS m) : List Value := encSp x.1
def cmpBS {m : Int} (x y : BS m) : Int := x.1.1 - y.1.1
theorem ltBS {m : Int} (x y : BS m) : ltOf cmpBS x y = decide (x.1.1 < y.1.1) := by
  unfold ltOf cmpBS
  rw [Bool.eq_iff_iff, decide_eq_true_iff, decide_eq_true_iff]
  omega
theorem swoBS {m : Int} : SWO (ltOf (cmpBS (m := m))) where
  irrefl x := by rw [ltBS]; simp
  trans x y z h1 h2 := by rw [ltBS] at *; simp at *; omega
  ntrans x y z h1 h2 := by rw [ltBS] at *; simp at *; omega
theorem of1_any {m : Int} (x y : BS m) (W : World) : Calls Tryz.prog 85 #[.agg #[.int .i64 x.1.1, .int .i64 x.1.2], .agg #[.int .i64 y.1.1, .int .i64 y.1.2]] W fun e w' => e = .returned (.int .i64 (cmpBS x y)) ∧ ∃ q os', w' = grow (W.drewN q) os' := by
  have h1 := x.2.1
  have h2 := x.2.2
  have h3 := y.2.1
  have h4 := y.2.2
  go_enter Tryz.func85, Tryz.ntmps85
  go_wp2
  go_ret
  exact ⟨rfl, 0, _, by rw [alloc_eq_grow, alloc_eq_grow, grow_grow]; rfl⟩
theorem cmpLaysBS (m : Int) (blk off size : Nat) (w : World) : CmpLays Tryz.prog 85 #[] (encBS (m := m)) 2 cmpBS blk off size w :=
  fun _ _ _ _ x y => of1_any x y _
theorem isAggSp (w : World) : (isAgg 49).run Tryz.prog w = .ok true w := by kernel_rfl
theorem sizeSp (w : World) : (Go.sizeOf 49).run Tryz.prog w = .ok 2 w := by kernel_rfl

theorem sortWorld_but {α : Type} (enc : α → List Value) [Inhabited α] (k : Nat) (w : World) (blk off m : Nat) (d : Array α) (os : Array Obj) : ButS (· = blk) w (sortWorldK enc k w blk off m d os) := by
  refine ⟨rfl, rfl, rfl, ?_, fun j hj hn => ?_⟩
  · simp [sortWorldK, grow, putRowK, putRow, mapBlock, Sort.ahead]
  · have hn' : ¬ j = blk := hn
    show ((putRowK enc k (Sort.ahead w m) blk off d).heap ++ os)[j]? = w.heap[j]?
    have hs : j < (putRowK enc k (Sort.ahead w m) blk off d).heap.size := by simp [putRowK, putRow, mapBlock, Sort.ahead]; exact hj
    rw [Array.getElem?_append_left hs]
    simp only [putRowK, putRow, mapBlock, Sort.ahead, Array.getElem?_modify]
    rw [if_neg (Ne.symm hn')]
theorem holds_sorted {α : Type} (enc : α → List Value) [Inhabited α] (k : Nat) {w : World} {blk off m : Nat} {d0 d : Array α} {os : Array Obj} (h0 : HoldsK enc k w blk off d0) (hs : d.size = d0.size) (hb : blk < w.heap.size) : HoldsK enc k (sortWorldK enc k w blk off m d os) blk off d :=
  holdsK_grow enc k _ os blk off d (by simp [putRowK, putRow, mapBlock, Sort.ahead]; exact hb) (holdsK_putRowK enc k (Sort.ahead w m) blk off d0 d h0 hs)
def bsOf {m : Int} (l : List Sp) (h : ∀ s ∈ l, m ≤ s.1 ∧ s.1 ≤ m + 9223372036854775807) : List (BS m) := l.attach.map fun s => ⟨s.1, h s.1 s.2⟩
theorem bsOf_map {m : Int} (l : List Sp) (h : ∀ s ∈ l, m ≤ s.1 ∧ s.1 ≤ m + 9223372036854775807) : (bsOf l h).map (·.1) = l := by
  unfold bsOf
  rw [List.map_map]
  conv => rhs; rw [← List.attach_map_subtype_val l]
  rfl
theorem bsOf_length {m : Int} (l : List Sp) (h : ∀ s ∈ l, m ≤ s.1 ∧ s.1 ≤ m + 9223372036854775807) : (bsOf l h).length = l.length := by simp [bsOf]
end Go.Proofs.YtiacnoejlmaplaaGreatDoor

namespace Go.Proofs.YtiacnoejlmaplaaGreatDoor
open Go.RowKit Go.Shelf Go.Sort
open Go.Proofs
open Go.Proofs.Sp (Sp)

theorem insertion_none (p : Option Addr) (cap : Nat) (fv : Value) (w : World) :
    Calls Tryz.prog 139 #[.slice p 0 cap, .int .i64 0, .int .i64 0, fv] w fun e w' => e = .returned (.tuple #[]) ∧ w' = w := by
  go_enter Tryz.func139, Tryz.ntmps139
  go_wp2
  refine wp_loop_rounds 1 ?_
  rw [rounds_succ]
  go_wp2
  go_end0
  exact ⟨rfl, rfl⟩
theorem pdq_none (p : Option Addr) (cap : Nat) (lim : Int) (fv : Value) (w : World) :
    Calls Tryz.prog 122 #[.slice p 0 cap, .int .i64 0, .int .i64 0, .int .i64 lim, fv] w fun e w' => e = .returned (.tuple #[]) ∧ w' = w := by
  go_enter Tryz.func122, Tryz.ntmps122
  go_wp2
  refine wp_loop_rounds 1 ?_
  rw [rounds_succ]
  go_wp2_with (go_at_call 139; refine (insertion_none _ _ _ _).mono ?_; rintro e w' ⟨rfl, rfl⟩)
  (try simp only [Exit.inBlock, Exit.then]); refine bodyPost_ret (results_none rfl _ _ _) rfl ?_
  exact ⟨rfl, rfl⟩
theorem sort_none (p : Option Addr) (cap : Nat) (fv : Value) (w : World) :
    Calls Tryz.prog 105 #[.slice p 0 cap, fv] w fun e w' => e = .returned (.tuple #[]) ∧ w' = w := by
  have hl : ∀ W, Calls Tryz.prog 120 #[.int .u64 0] W fun e w' => e = .returned (.int .i64 (Lib.bitLen 0 : Nat)) ∧ w' = W := fun W => by
    have h := Any.bits_Len (SlLaysF0.n15.bits { Tryz.sortSp with }) 0 W (by omega) (by omega)
    exact h
  go_enter Tryz.func105, Tryz.ntmps105
  go_wp2_with (first | (go_at_call 120; refine (hl _).mono ?_; rintro e w' ⟨rfl, rfl⟩) | (go_at_call 122; refine (pdq_none _ _ _ _ _).mono ?_; rintro e w' ⟨rfl, rfl⟩))
  go_end0
  exact ⟨rfl, rfl⟩

theorem flat_enc {m : Int} (l : List (BS m)) : (flatK encBS 2 l.toArray).toList = (l.map (·.1)).flatMap encSp := by
  have hE : EncTy (encBS (m := m)) 2 := ⟨fun _ => rfl, fun x v hv => spE.one x.1 v hv⟩
  have e : (l.map (·.1)).flatMap encSp = l.flatMap encBS := by rw [List.flatMap_map]; rfl
  rw [e]
  apply List.ext_getElem?
  intro t
  by_cases ht : t < l.length * 2
  · have h1 := hE.flat_get l (t / 2) (by omega) (t % 2) (by omega)
    rw [show t / 2 * 2 + t % 2 = t by omega] at h1
    rw [h1]
    simp only [flatK, Array.toList_map, Array.toList_range, List.getElem?_map, List.size_toArray]
    rw [List.getElem?_range ht]
    have h2 : (l.toArray)[t / 2]! = l[t / 2] := by
      rw [getElem!_pos l.toArray (t / 2) (by simp; omega)]
      simp
    simp only [Option.map_some, h2]
    have h3 : t % 2 = 0 ∨ t % 2 = 1 := by omega
    rcases h3 with h3 | h3 <;> rw [h3] <;> rfl
  · rw [List.getElem?_eq_none (by simp; omega), List.getElem?_eq_none (by rw [hE.flat_len]; omega)]

def SortedOf (ls srt : List Sp) : Prop := srt.Perm ls ∧ srt.Pairwise (fun a b => a.1 ≤ b.1)
theorem sortFunc_any (m : Int) (base : Nat) (A : Option Addr) (c : Nat) (ls : List Sp) (w : World) (hbd : ∀ s ∈ ls, m ≤ s.1 ∧ s.1 ≤ m + 9223372036854775807) (hlen : ls.length < 4611686018427387904) (ho : OwnsSp base w A c ls) :
    Calls Tryz.prog 105 #[.slice A ls.length c, .func (.func 85) #[] #[]] w fun e w' => e = .returned (.tuple #[]) ∧
      ∃ srt, Hid (SortedOf ls srt) ∧ Hid (srt.length = ls.length) ∧ ReadsSp w' w'.heap.size A srt ∧ Below base w w' := by
  rcases ho.cases with ⟨rfl, rfl, rfl⟩ | ⟨g, cur, rfl, h2, h3, h4, h5, h6, h7⟩
  · refine (sort_none none 0 _ w).mono ?_
    rintro e w' ⟨rfl, rfl⟩
    exact ⟨rfl, [], Lib.hid ⟨List.Perm.refl _, List.Pairwise.nil⟩, Lib.hid rfl, Reads.nil _ _ _ _ _, Below.refl _ _⟩
  · have hg : g < w.heap.size := (Array.getElem?_eq_some_iff.1 h3).1
    have hfl : (flatK encBS 2 (bsOf ls hbd).toArray).toList = ls.flatMap encSp := by rw [flat_enc, bsOf_map]
    have hsz : (bsOf ls hbd).toArray.size = ls.length := by rw [List.size_toArray, bsOf_length]
    have hH : HoldsK encBS 2 w g 0 (bsOf ls hbd).toArray := by
      intro j hj
      have hj' : j < ls.length * 2 := by simpa [bsOf_length] using hj
      refine ⟨?_, by simp [World.frozen?, h3]⟩
      have e1 : (flatK encBS 2 (bsOf ls hbd).toArray)[j]? = cur[j]? := by
        rw [← Array.getElem?_toList, hfl, ← h7, List.getElem?_take, if_pos hj', Array.getElem?_toList]
      have e2 : (flatK encBS 2 (bsOf ls hbd).toArray)[j]? = some (flatK encBS 2 (bsOf ls hbd).toArray)[j]! := by
        rw [getElem!_pos _ j hj]; exact Array.getElem?_eq_getElem hj
      simp only [World.cell?, h3, Nat.zero_add, id]
      rw [← e1, e2]
      simp
    have hcon := AnyQ.slices_SortFunc Tryz.sortSp 2 isAggSp sizeSp encBS (fun _ => rfl) (fun x v hv => spE.one x.1 v hv) cmpBS swoBS 85 #[] g 0 c (bsOf ls hbd).toArray w (enters_of Tryz.func85 (by kernel_rfl) rfl) (cmpLaysBS m g 0 _ w) hH hg (by rw [hsz]; exact hlen)
    change Calls Tryz.prog 105 _ _ _ at hcon
    rw [hsz] at hcon
    refine hcon.mono ?_
    rintro e w' ⟨rfl, d', n, os, ⟨p1, _, p3⟩, hs, rfl⟩
    have hd : d'.size = ls.length := by rw [p1, hsz]
    have hperm : (d'.toList.map (·.1)).Perm ls := by
      have q : d'.toList.Perm (bsOf ls hbd) := by
        have := p3
        rw [Array.toList_extract, Array.toList_extract] at this
        simp only [List.extract_eq_take_drop, List.drop_zero, Nat.sub_zero] at this
        rw [List.take_of_length_le (by simp [hd]), List.take_of_length_le (by simp [bsOf_length])] at this
        exact this
      have := q.map (·.1)
      rwa [bsOf_map] at this
    refine ⟨rfl, d'.toList.map (·.1), Lib.hid ⟨hperm, ?_⟩, Lib.hid (by simp [hd]), ?_, ?_⟩
    · rw [List.pairwise_map, List.pairwise_iff_getElem]
      intro i j hi hj hij
      have hi' : i < d'.size := by simpa using hi
      have hj' : j < d'.size := by simpa using hj
      have := hs i j (Nat.zero_le _) hij (by omega)
      rw [ltBS, decide_eq_false_iff_not, getElem!_pos d' i hi', getElem!_pos d' j hj'] at this
      simp only [Array.getElem_toList]
      omega
    · intro h0
      refine ⟨g, 0, rfl, ?_, fun i hi j v hv => ?_⟩
      · exact Nat.lt_of_lt_of_le hg (sortWorld_but encBS 2 w g 0 n d' os).size
      have hi' : i < d'.size := by simpa using hi
      have hj : j < 2 := by
        have := (List.getElem?_eq_some_iff.1 hv).1
        simpa [encSp] using this
      have hk := holds_sorted encBS 2 (m := n) (os := os) hH (d := d') (by rw [hd, hsz]) hg
      have hc := (hk (i * 2 + j) (by simp; omega)).1
      rw [Nat.zero_add] at hc
      rw [show 0 + i * 2 + j = i * 2 + j by omega, hc]
      rw [id, get_flatK _ _ _ _ (by omega), show (i * 2 + j) / 2 = i by omega, show (i * 2 + j) % 2 = j by omega, getElem!_pos d' i hi']
      have hv' : (encSp d'[i].1)[j]? = some v := by simpa using hv
      have h3 : j = 0 ∨ j = 1 := by omega
      rcases h3 with h3 | h3 <;> subst h3 <;> simp [encSp] at hv' <;> subst hv' <;> rfl
    · have hb := sortWorld_but encBS 2 w g 0 n d' os
      exact ⟨hb.os, hb.tape, hb.output, hb.size, fun k hk => hb.block k (by omega) (by omega)⟩
end Go.Proofs.YtiacnoejlmaplaaGreatDoor

namespace Go.Proofs.YtiacnoejlmaplaaGreatDoor
open Go.RowKit Go.Shelf Go.Sort
open Go.Proofs
open Go.Proofs.Sp (Sp)

theorem values_any (A : Option Addr) (n c : Nat) (w : World) :
    Calls Tryz.prog 84 #[.slice A n c] w fun e w' => e = .returned (.func (.func 106) #[] #[.pointer (some ⟨w.heap.size, 0, none⟩)]) ∧ w.alloc (.cells #[.slice A n c] 29) = w' := by
  go_enter Tryz.func84, Tryz.ntmps84
  go_wp2
  go_ret
  exact ⟨rfl, rfl⟩
theorem collect_ok (bl : Nat) (A : Option Addr) (c : Nat) (ls : List Sp) (w : World) (hlen : ls.length * 16 ≤ 140737488355328) (hbl : Boxed w bl 29 (.slice A ls.length c)) (hr : ReadsSp w w.heap.size A ls) :
    Calls Tryz.prog 104 #[.func (.func 106) #[] #[.pointer (some ⟨bl, 0, none⟩)]] w fun e w' =>
      ∃ A' c', e = .returned (.slice A' ls.length c') ∧ OwnsSp w.heap.size w' A' c' ls ∧ Ext w w' := by
  have H := Lib.hid (appendSeq_ok bl A c ls w hlen hbl hr)
  clear hbl hr
  go_enter Tryz.func104, Tryz.ntmps104
  go_wp2_with (go_at_call 121; refine H.out.mono ?_; rintro e w' ⟨A', c', rfl, ho, hx⟩)
  go_ret
  exact ⟨A', c', rfl, ho, hx⟩
def bdSp (ls : List Sp) : Prop := ∀ s ∈ ls, -4611686018427387904 ≤ s.1 ∧ s.1 ≤ 4611686018427387903
/-- The starts lie in a window, so that their differences are numbers. -/
def bdW (m : Int) (ls : List Sp) : Prop := ∀ s ∈ ls, m ≤ s.1 ∧ s.1 ≤ m + 9223372036854775807
theorem bdSp.w {ls : List Sp} (h : bdSp ls) : bdW (-4611686018427387904) ls := fun s hs => by have := h s hs; omega
theorem sorted_ok (m : Int) (bl : Nat) (A : Option Addr) (c : Nat) (ls : List Sp) (w : World) (hbd : bdW m ls) (hlen : ls.length * 16 ≤ 140737488355328) (hbl : Boxed w bl 29 (.slice A ls.length c)) (hr : ReadsSp w w.heap.size A ls) :
    Calls Tryz.prog 83 #[.func (.func 106) #[] #[.pointer (some ⟨bl, 0, none⟩)], .func (.func 85) #[] #[]] w fun e w' =>
      ∃ A' c' srt, e = .returned (.slice A' srt.length c') ∧ Hid (SortedOf ls srt) ∧ Hid (srt.length = ls.length) ∧ ReadsSp w' w'.heap.size A' srt ∧ Ext w w' := by
  have H := Lib.hid (collect_ok bl A c ls w hlen hbl hr)
  have HB := Lib.hid hbd
  clear hbl hr hbd
  go_enter Tryz.func83, Tryz.ntmps83
  go_wp2_with (first
    | (go_at_call 104; refine H.out.mono ?_; rintro e w1 ⟨A', c', rfl, ho, hx⟩; have HO := Lib.hid ho; have HX := Lib.hid hx; clear ho hx)
    | (go_at_call 105; refine (sortFunc_any m w.heap.size A' c' ls _ HB.out (by omega) HO.out).mono ?_; rintro e w2 ⟨rfl, srt, h1, h2, h3, h4⟩; have H1 := h1; have H2 := h2; have H3 := Lib.hid h3; have H4 := Lib.hid h4; clear h1 h2 h3 h4))
  go_ret
  exact ⟨A', c', srt, by rw [H2.out]; rfl, H1, H2, H3.out, HX.out.grown H4.out (Nat.le_refl _)⟩

theorem own_last {base : Nat} {w : World} {A : Option Addr} {c : Nat} {pre : List Sp} {t : Sp} (h : OwnsSp base w A c (pre ++ [t])) : ∃ g, A = some ⟨g, 0, none⟩ ∧ base ≤ g ∧ g < w.heap.size ∧ w.cell? ⟨g, pre.length * 2 + 1, none⟩ = some (.int .i64 t.2) ∧
    w.frozen? ⟨g, pre.length * 2 + 1, none⟩ = false ∧ ∀ (m : Int) (w' : World), w'.heap[g]? = w.heap[g]? → OwnsSp base (w'.setCell ⟨g, pre.length * 2 + 1, none⟩ (.int .i64 m)) A c (pre ++ [(t.1, m)]) := by
  have hr := h.reads spE
  rcases h.cases with ⟨_, _, e⟩ | ⟨g, cur, rfl, h2, h3, h4, h5, h6, h7⟩
  · simp at e
  · obtain ⟨b, off, e1, _, _, c2⟩ := ReadsSp.cell hr pre.length (by simp)
    injection e1 with e1
    injection e1 with e1 e2
    subst e1 e2
    have hl : (pre ++ [t]).length = pre.length + 1 := by simp
    refine ⟨g, rfl, h2, (Array.getElem?_eq_some_iff.1 h3).1, by simpa using c2, by simp [World.frozen?, h3], fun m w' hw => ?_⟩
    have hb : (w'.setCell ⟨g, pre.length * 2 + 1, none⟩ (.int .i64 m)).heap[g]? = some (.cells (cur.setIfInBounds (pre.length * 2 + 1) (.int .i64 m)) 49 (0, 0)) := by
      simp only [World.setCell, Array.getElem?_modify, if_true, hw, h3]
      rfl
    refine Owns.mk spE h2 hb (by rw [List.length_append] at h4 ⊢; exact h4) h5 (by simpa using h6) ?_
    rw [Array.toList_setIfInBounds]
    have e3 : (pre ++ [(t.1, m)]).length = pre.length + 1 := by simp
    rw [e3]
    rw [hl] at h7
    rw [List.take_set]
    rw [h7, List.flatMap_append, List.flatMap_append]
    have e4 : (pre.flatMap encSp).length = pre.length * 2 := spE.flat_len pre
    rw [List.set_append_right _ _ (by rw [e4]; omega), e4]
    simp [encSp]

/-- The result of Of: a set of the same bytes. -/
def SetOf (p : Int → Prop) (out : List Sp) : Prop := Sp.IsSet out ∧ ∀ x, Sp.mem out x ↔ p x
theorem out_cases (out : List Sp) : out = [] ∨ ∃ pre t, out = pre ++ [t] := by
  rcases List.eq_nil_or_concat out with h | ⟨l, t, h⟩
  · exact .inl h
  · exact .inr ⟨l, t, by rw [h, List.concat_eq_append]⟩
def OfRelS (w1 : World) (srt : List Sp) (i v : Value) (wr : World) : Prop := ∃ (k : Nat) (A' : Option Addr) (c' : Nat) (out : List Sp), k ≤ srt.length ∧ i = .int .i64 k ∧ v = .slice A' out.length c' ∧ out.length ≤ k ∧ Hid (out = Sp.joined (srt.take k)) ∧ Hid (OwnsSp w1.heap.size wr A' c' out) ∧ Hid (Ext w1 wr)
theorem joined_snoc (srt : List Sp) (k : Nat) (h : k < srt.length) : Sp.joined (srt.take (k + 1)) = Sp.step (Sp.joined (srt.take k)) srt[k] := by
  unfold Sp.joined
  rw [List.take_succ_eq_append_getElem h, List.foldl_append]; rfl

set_option maxRecDepth 100000 in
set_option maxHeartbeats 2000000 in
theorem of_anyW (m : Int) (A : Option Addr) (c : Nat) (ls : List Sp) (w : World) (hbd : bdW m ls) (hlen : ls.length * 16 ≤ 140737488355000) (hr : ReadsSp w w.heap.size A ls) :
    Calls Tryz.prog 61 #[.slice A ls.length c] w fun e w' => ∃ A' c' out, e = .returned (.slice A' out.length c') ∧ Hid (∃ srt, SortedOf ls srt ∧ out = Sp.joined srt) ∧ out.length ≤ ls.length ∧ OwnsSp w.heap.size w' A' c' out ∧ Ext w w' := by
  have HR := Lib.hid hr
  have HB := Lib.hid hbd
  clear hr hbd
  go_enter Tryz.func61, Tryz.ntmps61
  go_wp2_with (first
    | (go_at_call 84; refine (values_any _ _ _ _).mono ?_; rintro e w0 ⟨rfl, rfl⟩)
    | (go_at_call 83; refine (sorted_ok m w.heap.size A c ls _ HB.out (by omega) (Boxed.new w 29 _) (HR.out.on ((Ext.refl _).alloc _))).mono ?_; rintro e w1 ⟨A1, c1, srt, rfl, HS, HL, hr1, hx1⟩; have HR1 := Lib.hid hr1; have HX1 : Hid (Ext w w1) := Lib.hid (((Ext.refl w).alloc _).trans hx1); have hlen1 : srt.length ≤ ls.length := Nat.le_of_eq HL.out; clear hr1 hx1))
  go_loopw [13, 4] (OfRelS w1 srt) (fun i _ _ => srt.length - (intOf i).toNat)
  case atStart => exact ⟨0, none, 0, [], Nat.zero_le _, rfl, rfl, Nat.le_refl _, Lib.hid rfl, Lib.hid (Owns.nil _ _ _ _ _), Lib.hid (Ext.refl _)⟩
  case round =>
    obtain ⟨k, A', c', out, hk, rfl, rfl, hol, HO, HOw, HX⟩ := hrel
    have hsz := HX.out.size
    by_cases hlt : k < srt.length
    · obtain ⟨b, off, rfl, hb, c1', c2'⟩ := ReadsSp.cell (HR1.out.ext HX.out (Nat.le_refl _)) k hlt
      have HJ := Lib.hid (joined_snoc srt k hlt)
      rw [← HO.out] at HJ
      generalize srt[k] = s at *
      obtain ⟨s1, s2⟩ := s
      simp only [] at c1' c2'
      by_cases hem : s2 ≤ s1
      · have HJ2 : Hid (out = Sp.joined (srt.take (k + 1))) := Lib.hid (by rw [HJ.out, Sp.step_empty hem])
        go_wp2
        go_roundw
        case rel => exact ⟨k + 1, A', c', out, by omega, by go_num, rfl, by omega, HJ2, Lib.hid (HOw.out.alloc _), Lib.hid (HX.out.alloc _)⟩
        case measure => simp [intOf]; omega
      · rcases out_cases out with rfl | ⟨pre, t, rfl⟩
        · have HJ2 : Hid ([(s1, s2)] = Sp.joined (srt.take (k + 1))) := Lib.hid (by rw [HJ.out, Sp.step_nil (by show s1 < s2; omega)])
          go_wp2
          refine wp_region_later (by kernel_rfl) (by kernel_rfl) ?_
          repeat (first | go_big_quiet_step (fail) | quiet_step (fail))
          refine wpQuiet_nil ?_
          rintro _ ⟨xq, rfl⟩
          go_wp2_with (at_builtin; refine app_from spT spE rfl _ _ rfl w1.heap.size _ _ [] rfl (((HOw.out.alloc _).later _).alloc _) _ 1 _ [(s1, s2)] rfl rfl (new_cellsAt (by simp [later_size]) _ _) (by simp) (by simp) (by simp [later_size] <;> omega) ?_; intro A2 c2 l2 w2 HL2 HO2 hB hl1 hl2 _; have HO2' := Lib.hid HO2; have HB2 := Lib.hid hB; clear HO2 hB)
          go_roundw
          case rel => exact ⟨k + 1, A2, c2, l2, by omega, by go_num, rfl, by simp at hl1; omega, Lib.hid (by rw [HL2.out]; exact HJ2.out), HO2', Lib.hid ((((HX.out.alloc _).onto _).alloc _).grown HB2.out (Nat.le_refl _))⟩
          case measure => simp [intOf]; omega
        · obtain ⟨g, rfl, hg1, hg2, c3, f3, hset⟩ := own_last HOw.out
          have HSet := Lib.hid hset
          clear hset
          obtain ⟨t1, t2⟩ := t
          simp only [] at c3
          have d0 : decide (0 < pre.length + 1) = true := by simp
          have d1 : decide (0 < (pre.length : Int) + 1) = true := by simp <;> omega
          have hol' : pre.length + 1 ≤ k := by simpa using hol
          by_cases hj : s1 ≤ t2
          · have HJ2 : Hid (pre ++ [(t1, max t2 s2)] = Sp.joined (srt.take (k + 1))) := Lib.hid (by rw [HJ.out, Sp.step_join (by show s1 < s2; omega) hj])
            have d2 : decide (s1 ≤ t2) = true := by simp; omega
            go_wp2
            refine wp_region_later (by kernel_rfl) (by kernel_rfl) ?_
            repeat (first | go_big_quiet_step (fail) | quiet_step (fail))
            refine wpQuiet_nil ?_
            rintro _ ⟨xq, rfl⟩
            go_wp2
            refine wp_region_later_tail 14 (by kernel_rfl) (by kernel_rfl) ?_
            simp only [List.take_succ_cons, List.take_zero, List.drop_succ_cons, List.drop_zero]
            repeat (first | go_big_quiet_step (fail) | quiet_step (fail))
            refine wpQuiet_nil ?_
            rintro _ ⟨xq, rfl⟩
            go_wp2
            go_roundw
            case rel =>
              refine ⟨k + 1, some ⟨g, 0, none⟩, c', pre ++ [(t1, max t2 s2)], by omega, by go_num, by simp, by simp <;> omega, HJ2, Lib.hid (HSet.out _ _ ?_), Lib.hid (Ext.setCell (((HX.out.alloc _).onto _).onto _) hg1 _)⟩
              exact (Ext.below (((((Ext.refl wr).alloc _).onto _).onto _))).block g hg2
            case measure => simp [intOf]; omega
          · have HJ2 : Hid (pre ++ [(t1, t2)] ++ [(s1, s2)] = Sp.joined (srt.take (k + 1))) := Lib.hid (by rw [HJ.out, Sp.step_more (by show s1 < s2; omega) (by show t2 < s1; omega)])
            have d2 : decide (s1 ≤ t2) = false := by simp; omega
            go_wp2
            refine wp_region_later (by kernel_rfl) (by kernel_rfl) ?_
            repeat (first | go_big_quiet_step (fail) | quiet_step (fail))
            refine wpQuiet_nil ?_
            rintro _ ⟨xq, rfl⟩
            go_wp2_with (at_builtin; refine app_from spT spE rfl _ _ rfl w1.heap.size _ _ (pre ++ [(t1, t2)]) (by rw [List.length_append]; rfl) (((HOw.out.alloc _).later _).alloc _) _ 1 _ [(s1, s2)] rfl rfl (new_cellsAt (by simp [later_size]) _ _) (by simp <;> omega) (by simp <;> omega) (by simp [later_size] <;> omega) ?_; intro A2 c2 l2 w2 HL2 HO2 hB hl1 hl2 _; have HO2' := Lib.hid HO2; have HB2 := Lib.hid hB; clear HO2 hB)
            go_roundw
            case rel => exact ⟨k + 1, A2, c2, l2, by omega, by go_num, rfl, by simp at hl1; omega, Lib.hid (by rw [HL2.out]; exact HJ2.out), HO2', Lib.hid ((((HX.out.alloc _).onto _).alloc _).grown HB2.out (Nat.le_refl _))⟩
            case measure => simp [intOf]; omega
    · have e : k = srt.length := by omega
      subst e
      rw [List.take_length] at HO
      go_wp2
      go_ret
      exact ⟨A', c', out, rfl, Lib.hid ⟨srt, HS.out, HO.out⟩, by omega, HOw.out.lower HX1.out.size, HX1.out.trans HX.out⟩
theorem of_any (A : Option Addr) (c : Nat) (ls : List Sp) (w : World) (hbd : bdSp ls) (hlen : ls.length * 16 ≤ 140737488355000) (hr : ReadsSp w w.heap.size A ls) :
    Calls Tryz.prog 61 #[.slice A ls.length c] w fun e w' => ∃ A' c' out, e = .returned (.slice A' out.length c') ∧ Hid (∃ srt, SortedOf ls srt ∧ out = Sp.joined srt) ∧ out.length ≤ ls.length ∧ OwnsSp w.heap.size w' A' c' out ∧ Ext w w' := of_anyW _ A c ls w hbd.w hlen hr
end Go.Proofs.YtiacnoejlmaplaaGreatDoor
