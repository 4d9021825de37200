/- ranges.Of: sorting. -/
import Derived.Test.YtjdheaimjodcoaaGreatDoorProg
import Derived.Test.YtjdheaimjodcoaaGreatDoorExt
import Derived.WalkKit
import Derived.WalkSpells
import Derived.WalkLawsBesides
import Derived.Deep.QuietTactic
import Derived.BigQuiet
import Derived.Test.YtjdheaimjodcoaaGreatDoorLy
import Derived.Test.YtjdheaimjodcoaaGreatDoorVa
set_option linter.unusedVariables false
set_option linter.unusedSimpArgs false
namespace Go.Proofs.YtjdheaimjodcoaaGreatDoor
open Go.RowKit Go.Shelf Go.Sort
open Go.Proofs
open Go.Proofs.Sp (Sp)

/-- A span whose start is no great number. -/
abbrev BS := { s : Sp // -4611686018427387904 ≤ s.1 ∧ s.1 ≤ 4611686018427387903 }
instance : Inhabited BS := ⟨⟨(0, 0), by decide⟩⟩
def encBS (x : BS) : List Value := encSp x.1
def cmpBS (x y : BS) : Int := x.1.1 - y.1.1
theorem ltBS (x y : BS) : ltOf cmpBS x y = decide (x.1.1 < y.1.1) := by
  unfold ltOf cmpBS
  rw [Bool.eq_iff_iff, decide_eq_true_iff, decide_eq_true_iff]
  omega
theorem swoBS : SWO (ltOf cmpBS) where
  irrefl x := by rw [ltBS]; simp
  trans x y z h1 h2 := by rw [ltBS] at *; simp at *; omega
  ntrans x y z h1 h2 := by rw [ltBS] at *; simp at *; omega
theorem of1_any (x y : BS) (W : World) : Calls Tryz.prog 138 #[.agg #[.int .i64 x.1.1, .int .i64 x.1.2], .agg #[.int .i64 y.1.1, .int .i64 y.1.2]] W fun e w' => e = .returned (.int .i64 (cmpBS x y)) ∧ ∃ q os', w' = grow (W.drewN q) os' := by
  have h1 := x.2.1
  have h2 := x.2.2
  have h3 := y.2.1
  have h4 := y.2.2
  go_enter Tryz.func138, Tryz.ntmps138
  go_wp2
  go_ret
  exact ⟨rfl, 0, _, by rw [alloc_eq_grow, alloc_eq_grow, grow_grow]; rfl⟩
theorem cmpLaysBS (blk off size : Nat) (w : World) : CmpLays Tryz.prog 138 #[] encBS 2 cmpBS blk off size w :=
  fun _ _ _ _ x y => of1_any x y _
theorem isAggSp (w : World) : (isAgg 26).run Tryz.prog w = .ok true w := by kernel_rfl
theorem sizeSp (w : World) : (Go.sizeOf 26).run Tryz.prog w = .ok 2 w := by kernel_rfl

theorem sortWorld_but {α : Type} (enc : α → List Value) [Inhabited α] (k : Nat) (w : World) (blk off m : Nat) (d : Array α) (os : Array Obj) : ButS (· = blk) w (sortWorldK enc k w blk off m d os) := by
  refine ⟨rfl, rfl, rfl, ?_, fun j hj hn => ?_⟩
  · simp [sortWorldK, grow, putRowK, putRow, mapBlock, Sort.ahead]
  · have hn' : ¬ j = blk := hn
    show ((putRowK enc k (Sort.ahead w m) blk off d).heap ++ os)[j]? = w.heap[j]?
    have hs : j < (putRowK enc k (Sort.ahead w m) blk off d).heap.size := by simp [putRowK, putRow, mapBlock, Sort.ahead]; exact hj
    rw [Array.getElem?_append_left hs]
    simp only [putRowK, putRow, mapBlock, Sort.ahead, Array.getElem?_modify]
    rw [if_neg (Ne.symm hn')]
theorem holds_sorted {α : Type} (enc : α → List Value) [Inhabited α] (k : Nat) {w : World} {blk off m : Nat} {d0 d : Array α} {os : Array Obj} (h0 : HoldsK enc k w blk off d0) (hs : d.size = d0.size) (hb : blk < w.heap.size) : HoldsK enc k (sortWorldK enc k w blk off m d os) blk off d :=
  holdsK_grow enc k _ os blk off d (by simp [putRowK, putRow, mapBlock, Sort.ahead]; exact hb) (holdsK_putRowK enc k (Sort.ahead w m) blk off d0 d h0 hs)
def bsOf (l : List Sp) (h : ∀ s ∈ l, -4611686018427387904 ≤ s.1 ∧ s.1 ≤ 4611686018427387903) : List BS := l.attach.map fun s => ⟨s.1, h s.1 s.2⟩
theorem bsOf_map (l : List Sp) (h) : (bsOf l h).map (·.1) = l := by
  unfold bsOf
  rw [List.map_map]
  conv => rhs; rw [← List.attach_map_subtype_val l]
  rfl
theorem bsOf_length (l : List Sp) (h) : (bsOf l h).length = l.length := by simp [bsOf]
end Go.Proofs.YtjdheaimjodcoaaGreatDoor
