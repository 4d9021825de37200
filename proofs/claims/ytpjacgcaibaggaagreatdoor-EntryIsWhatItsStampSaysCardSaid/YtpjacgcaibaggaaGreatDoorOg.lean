/- ranges.Of: sorting. -/
import Derived.Test.YtpjacgcaibaggaaGreatDoorProg
import Derived.Test.YtpjacgcaibaggaaGreatDoorExt
import Derived.WalkKit
import Derived.WalkSpells
import Derived.WalkLawsBesides
import Derived.Deep.QuietTactic
import Derived.BigQuiet
import Derived.Test.YtpjacgcaibaggaaGreatDoorLy
import Derived.Test.YtpjacgcaibaggaaGreatDoorVa
set_option linter.unusedVariables false
set_option linter.unusedSimpArgs false
namespace Go.Proofs.YtpjacgcaibaggaaGreatDoor
open Go.RowKit Go.Shelf Go.Sort
open Go.Proofs
open Go.Proofs.Sp (Sp)

/-- A span whose start lies in a window. -/
abbrev BS (m : Int) := { s : Sp // m ≤ s.1 ∧ s.1 ≤ m + 9223372036854775807 }
instance (m : Int) : Inhabited (BS m) := ⟨⟨(m, 0), by show m ≤ m ∧ m ≤ m + 9223372036854775807; omega⟩⟩
def encBS {m : Int} (x : BS m) : List Value := encSp x.1
def cmpBS {m : Int} (x y : BS m) : Int := x.1.1 - y.1.1
theorem ltBS {m : Int} (x y : BS m) : ltOf cmpBS x y = decide (x.1.1 < y.1.1) := by
  unfold ltOf cmpBS
  rw [Bool.eq_iff_iff, decide_eq_true_iff, decide_eq_true_iff]
  omega
theorem swoBS {m : Int} : SWO (ltOf (cmpBS (m := m))) where
  irrefl x := by rw [ltBS]; simp
  trans x y z h1 h2 := by rw [ltBS] at *; simp at *; omega
  ntrans x y z h1 h2 := by rw [ltBS] at *; simp at *; omega
theorem of1_any {m : Int} (x y : BS m) (W : World) : Calls Tryz.prog 136 #[.agg #[.int .i64 x.1.1, .int .i64 x.1.2], .agg #[.int .i64 y.1.1, .int .i64 y.1.2]] W fun e w' => e = .returned (.int .i64 (cmpBS x y)) ∧ ∃ q os', w' = grow (W.drewN q) os' := by
  have h1 := x.2.1
  have h2 := x.2.2
  have h3 := y.2.1
  have h4 := y.2.2
  go_enter Tryz.func136, Tryz.ntmps136
  go_wp2
  go_ret
  exact ⟨rfl, 0, _, by rw [alloc_eq_grow, alloc_eq_grow, grow_grow]; rfl⟩
theorem cmpLaysBS (m : Int) (blk off size : Nat) (w : World) : CmpLays Tryz.prog 136 #[] (encBS (m := m)) 2 cmpBS blk off size w :=
  fun _ _ _ _ x y => of1_any x y _
theorem isAggSp (w : World) : (isAgg 26).run Tryz.prog w = .ok true w := by kernel_rfl
theorem sizeSp (w : World) : (Go.sizeOf 26).run Tryz.prog w = .ok 2 w := by kernel_rfl

theorem sortWorld_but {α : Type} (enc : α → List Value) [Inhabited α] (k : Nat) (w : World) (blk off m : Nat) (d : Array α) (os : Array Obj) : ButS (· = blk) w (sortWorldK enc k w blk off m d os) := by
  refine ⟨rfl, rfl, rfl, ?_, fun j hj hn => ?_⟩
  · simp [sortWorldK, grow, putRowK, putRow, mapBlock, Sort.ahead]
  · have hn' : ¬ j = blk := hn
    show ((putRowK enc k (Sort.ahead w m) blk off d).heap ++ os)[j]? = w.heap[j]?
    have hs : j < (putRowK enc k (Sort.ahead w m) blk off d).heap.size := by simp [putRowK, putRow, mapBlock, Sort.ahead]; exact hj
    rw [Array.getElem?_append_left hs]
    simp only [putRowK, putRow, mapBlock, Sort.ahead, Array.getElem?_modify]
    rw [if_neg (Ne.symm hn')]
theorem holds_sorted {α : Type} (enc : α → List Value) [Inhabited α] (k : Nat) {w : World} {blk off m : Nat} {d0 d : Array α} {os : Array Obj} (h0 : HoldsK enc k w blk off d0) (hs : d.size = d0.size) (hb : blk < w.heap.size) : HoldsK enc k (sortWorldK enc k w blk off m d os) blk off d :=
  holdsK_grow enc k _ os blk off d (by simp [putRowK, putRow, mapBlock, Sort.ahead]; exact hb) (holdsK_putRowK enc k (Sort.ahead w m) blk off d0 d h0 hs)
def bsOf {m : Int} (l : List Sp) (h : ∀ s ∈ l, m ≤ s.1 ∧ s.1 ≤ m + 9223372036854775807) : List (BS m) := l.attach.map fun s => ⟨s.1, h s.1 s.2⟩
theorem bsOf_map {m : Int} (l : List Sp) (h : ∀ s ∈ l, m ≤ s.1 ∧ s.1 ≤ m + 9223372036854775807) : (bsOf l h).map (·.1) = l := by
  unfold bsOf
  rw [List.map_map]
  conv => rhs; rw [← List.attach_map_subtype_val l]
  rfl
theorem bsOf_length {m : Int} (l : List Sp) (h : ∀ s ∈ l, m ≤ s.1 ∧ s.1 ≤ m + 9223372036854775807) : (bsOf l h).length = l.length := by simp [bsOf]
end Go.Proofs.YtpjacgcaibaggaaGreatDoor
