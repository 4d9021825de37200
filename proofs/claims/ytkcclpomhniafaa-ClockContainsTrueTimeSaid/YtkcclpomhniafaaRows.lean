/-
  No cell of these rows narrows 'for every input' (looked for: loops, veiled, ifaces, maps, wideKeys, modest, calm, conditions, laid).
  DERIVED. THE GIVEN ROWS OF THIS SEAT. 7 by the template 'for every input the law returns true; each argument reads behind the call as it read before'; 0 by the template 'total and deterministic' (their statements: YtkcclpomhniafaaTotals.lean).
  GIVEN WITH THE SEED: the statements are not yours to turn. If you find one false, say at which input.
  Laid BY PROGRAM, IN A SANDBOX (cutbox-rows.mjs): the forced cells as the released guide's own fill.sh prints them over the translation ce633848faa4c33a… (all of the seat's roots in one cut). By AI agents, Wed Nov 11 2026. No macro, syntax, notation, axiom, sorry.
-/
import Derived.Test.YtkcclpomhniafaaChecked
import GoSem.Claim
import GoSem.ClaimJoined
import GoSem.ClaimMapViews
import Derived.JoinedTies
import Derived.KernelRfl
namespace Go.Proofs.Ytkcclpomhniafaa
/- THE CELL 'sum', in the pinned program and in every row, IS THE sha256 OF THE DUMP (.gsa) THAT YtkcclpomhniafaaProg.lean LOADS. Nothing in Lean hashes anything: it is a label: what it is worth is what the hold of that sum in a sandbox is worth. -/
noncomputable def Try.pinned : Pinned := { name := "ytkcclpomhniafaa", sum := "ce633848faa4c33a59650c81f9c7f6ef0cbd8f8a14b5e6ba9ae8b8c635a0d9b1", checked := Try.checked }
namespace Rows
def none {H : Type} : Left H := { results := [], args := [] }

/-- 'weirgatelaw05.ClockReadsAsSpecified': WHATEVER THE INPUT: true; the input reads as it did. -/
def clockReadsAsSpecifiedSpec : ChangeSpec := { name := "clockReadsAsSpecified", fn := fun _ => fun
  | [d1, d2, d3] => { results := [.lit (.bool true)], args := [d1, d2, d3] }
  | _ => none }
def clockReadsAsSpecifiedRow : OpenClaim := { program := "ytkcclpomhniafaa", sum := "ce633848faa4c33a59650c81f9c7f6ef0cbd8f8a14b5e6ba9ae8b8c635a0d9b1", func := "weirgate/weirgatelaw05.ClockReadsAsSpecified", spec := "clockReadsAsSpecified", unfollowed := true, recurses := true, apart := false }
def ClockReadsAsSpecifiedSaid : Prop := clockReadsAsSpecifiedRow.holds Try.pinned (OpenSpec.ofChange clockReadsAsSpecifiedSpec)

/-- ITS FALSE NEIGHBOUR: 'it returns false'. Refute it at one input. -/
def clockReadsAsSpecifiedWrong : ChangeSpec := { name := "clockReadsAsSpecified", fn := fun _ => fun
  | [d1, d2, d3] => { results := [.lit (.bool false)], args := [d1, d2, d3] }
  | _ => none }
def ClockReadsAsSpecifiedWrongFalsely : Prop := clockReadsAsSpecifiedRow.holds Try.pinned (OpenSpec.ofChange clockReadsAsSpecifiedWrong)

/-- 'weirgatelaw05.ClockLastsAsSpecified': WHATEVER THE INPUT: true; the input reads as it did. -/
def clockLastsAsSpecifiedSpec : ChangeSpec := { name := "clockLastsAsSpecified", fn := fun _ => fun
  | [d1, d2, d3] => { results := [.lit (.bool true)], args := [d1, d2, d3] }
  | _ => none }
def clockLastsAsSpecifiedRow : OpenClaim := { program := "ytkcclpomhniafaa", sum := "ce633848faa4c33a59650c81f9c7f6ef0cbd8f8a14b5e6ba9ae8b8c635a0d9b1", func := "weirgate/weirgatelaw05.ClockLastsAsSpecified", spec := "clockLastsAsSpecified", unfollowed := true, recurses := true, apart := false }
def ClockLastsAsSpecifiedSaid : Prop := clockLastsAsSpecifiedRow.holds Try.pinned (OpenSpec.ofChange clockLastsAsSpecifiedSpec)

/-- ITS FALSE NEIGHBOUR: 'it returns false'. Refute it at one input. -/
def clockLastsAsSpecifiedWrong : ChangeSpec := { name := "clockLastsAsSpecified", fn := fun _ => fun
  | [d1, d2, d3] => { results := [.lit (.bool false)], args := [d1, d2, d3] }
  | _ => none }
def ClockLastsAsSpecifiedWrongFalsely : Prop := clockLastsAsSpecifiedRow.holds Try.pinned (OpenSpec.ofChange clockLastsAsSpecifiedWrong)

/-- 'weirgatelaw05.ClockContainsTrueTime': WHATEVER THE INPUT: true; the input reads as it did. -/
def clockContainsTrueTimeSpec : ChangeSpec := { name := "clockContainsTrueTime", fn := fun _ => fun
  | [d1, d2, d3, d4, d5, d6, d7] => { results := [.lit (.bool true)], args := [d1, d2, d3, d4, d5, d6, d7] }
  | _ => none }
def clockContainsTrueTimeRow : OpenClaim := { program := "ytkcclpomhniafaa", sum := "ce633848faa4c33a59650c81f9c7f6ef0cbd8f8a14b5e6ba9ae8b8c635a0d9b1", func := "weirgate/weirgatelaw05.ClockContainsTrueTime", spec := "clockContainsTrueTime", unfollowed := true, recurses := true, apart := false }
def ClockContainsTrueTimeSaid : Prop := clockContainsTrueTimeRow.holds Try.pinned (OpenSpec.ofChange clockContainsTrueTimeSpec)

/-- ITS FALSE NEIGHBOUR: 'it returns false'. Refute it at one input. -/
def clockContainsTrueTimeWrong : ChangeSpec := { name := "clockContainsTrueTime", fn := fun _ => fun
  | [d1, d2, d3, d4, d5, d6, d7] => { results := [.lit (.bool false)], args := [d1, d2, d3, d4, d5, d6, d7] }
  | _ => none }
def ClockContainsTrueTimeWrongFalsely : Prop := clockContainsTrueTimeRow.holds Try.pinned (OpenSpec.ofChange clockContainsTrueTimeWrong)

/-- 'weirgatelaw05.ClockOnlyGoesOn': WHATEVER THE INPUT: true; the input reads as it did. -/
def clockOnlyGoesOnSpec : ChangeSpec := { name := "clockOnlyGoesOn", fn := fun _ => fun
  | [d1, d2, d3, d4] => { results := [.lit (.bool true)], args := [d1, d2, d3, d4] }
  | _ => none }
def clockOnlyGoesOnRow : OpenClaim := { program := "ytkcclpomhniafaa", sum := "ce633848faa4c33a59650c81f9c7f6ef0cbd8f8a14b5e6ba9ae8b8c635a0d9b1", func := "weirgate/weirgatelaw05.ClockOnlyGoesOn", spec := "clockOnlyGoesOn", unfollowed := true, recurses := true, apart := false }
def ClockOnlyGoesOnSaid : Prop := clockOnlyGoesOnRow.holds Try.pinned (OpenSpec.ofChange clockOnlyGoesOnSpec)

/-- ITS FALSE NEIGHBOUR: 'it returns false'. Refute it at one input. -/
def clockOnlyGoesOnWrong : ChangeSpec := { name := "clockOnlyGoesOn", fn := fun _ => fun
  | [d1, d2, d3, d4] => { results := [.lit (.bool false)], args := [d1, d2, d3, d4] }
  | _ => none }
def ClockOnlyGoesOnWrongFalsely : Prop := clockOnlyGoesOnRow.holds Try.pinned (OpenSpec.ofChange clockOnlyGoesOnWrong)

/-- 'weirgatelaw05.ClockShowsAsSpecified': WHATEVER THE INPUT: true; the input reads as it did. -/
def clockShowsAsSpecifiedSpec : ChangeSpec := { name := "clockShowsAsSpecified", fn := fun _ => fun
  | [d1, d2, d3, d4] => { results := [.lit (.bool true)], args := [d1, d2, d3, d4] }
  | _ => none }
def clockShowsAsSpecifiedRow : OpenClaim := { program := "ytkcclpomhniafaa", sum := "ce633848faa4c33a59650c81f9c7f6ef0cbd8f8a14b5e6ba9ae8b8c635a0d9b1", func := "weirgate/weirgatelaw05.ClockShowsAsSpecified", spec := "clockShowsAsSpecified", unfollowed := true, recurses := true, apart := false }
def ClockShowsAsSpecifiedSaid : Prop := clockShowsAsSpecifiedRow.holds Try.pinned (OpenSpec.ofChange clockShowsAsSpecifiedSpec)

/-- ITS FALSE NEIGHBOUR: 'it returns false'. Refute it at one input. -/
def clockShowsAsSpecifiedWrong : ChangeSpec := { name := "clockShowsAsSpecified", fn := fun _ => fun
  | [d1, d2, d3, d4] => { results := [.lit (.bool false)], args := [d1, d2, d3, d4] }
  | _ => none }
def ClockShowsAsSpecifiedWrongFalsely : Prop := clockShowsAsSpecifiedRow.holds Try.pinned (OpenSpec.ofChange clockShowsAsSpecifiedWrong)

/-- 'weirgatelaw05.ClockIsSureOrNot': WHATEVER THE INPUT: true; the input reads as it did. -/
def clockIsSureOrNotSpec : ChangeSpec := { name := "clockIsSureOrNot", fn := fun _ => fun
  | [d1, d2, d3] => { results := [.lit (.bool true)], args := [d1, d2, d3] }
  | _ => none }
def clockIsSureOrNotRow : OpenClaim := { program := "ytkcclpomhniafaa", sum := "ce633848faa4c33a59650c81f9c7f6ef0cbd8f8a14b5e6ba9ae8b8c635a0d9b1", func := "weirgate/weirgatelaw05.ClockIsSureOrNot", spec := "clockIsSureOrNot", unfollowed := true, recurses := true, apart := false }
def ClockIsSureOrNotSaid : Prop := clockIsSureOrNotRow.holds Try.pinned (OpenSpec.ofChange clockIsSureOrNotSpec)

/-- ITS FALSE NEIGHBOUR: 'it returns false'. Refute it at one input. -/
def clockIsSureOrNotWrong : ChangeSpec := { name := "clockIsSureOrNot", fn := fun _ => fun
  | [d1, d2, d3] => { results := [.lit (.bool false)], args := [d1, d2, d3] }
  | _ => none }
def ClockIsSureOrNotWrongFalsely : Prop := clockIsSureOrNotRow.holds Try.pinned (OpenSpec.ofChange clockIsSureOrNotWrong)

/-- 'weirgatelaw05.ClockPeriodsMatchSpec': WHATEVER THE INPUT: true; the input reads as it did. -/
def clockPeriodsMatchSpecSpec : ChangeSpec := { name := "clockPeriodsMatchSpec", fn := fun _ => fun
  | [d1, d2, d3, d4] => { results := [.lit (.bool true)], args := [d1, d2, d3, d4] }
  | _ => none }
def clockPeriodsMatchSpecRow : OpenClaim := { program := "ytkcclpomhniafaa", sum := "ce633848faa4c33a59650c81f9c7f6ef0cbd8f8a14b5e6ba9ae8b8c635a0d9b1", func := "weirgate/weirgatelaw05.ClockPeriodsMatchSpec", spec := "clockPeriodsMatchSpec", unfollowed := true, recurses := true, apart := false }
def ClockPeriodsMatchSpecSaid : Prop := clockPeriodsMatchSpecRow.holds Try.pinned (OpenSpec.ofChange clockPeriodsMatchSpecSpec)

/-- ITS FALSE NEIGHBOUR: 'it returns false'. Refute it at one input. -/
def clockPeriodsMatchSpecWrong : ChangeSpec := { name := "clockPeriodsMatchSpec", fn := fun _ => fun
  | [d1, d2, d3, d4] => { results := [.lit (.bool false)], args := [d1, d2, d3, d4] }
  | _ => none }
def ClockPeriodsMatchSpecWrongFalsely : Prop := clockPeriodsMatchSpecRow.holds Try.pinned (OpenSpec.ofChange clockPeriodsMatchSpecWrong)

/- THE SECOND FORM. 'bulk': how many values and letters a reading holds, each counted each time it is reached (what is shared counts as often as it is met; a slice's spare places count too). A statement '..UptoSaid' is the law's where the arguments, and the package variables that the reading takes, are together of bulk at most 1048576: NARROWER than '..Said'. Prove '..Said' where nothing that the law and all that it calls make is longer than what came in: it says more and counts as full. Else prove '..UptoSaid'. A law counts once. -/
mutual
def uptoBulk {H : Type} : DataW H → Nat
  | .lit (.string bytes) => bytes.length + 1
  | .lit _ => 1
  | .nil => 1
  | .ptr d => uptoBulk d + 1
  | .slice elems spare => uptoBulkAll elems + uptoBulkAll spare + 1
  | .agg parts => uptoBulkAll parts + 1
  | .iface _ d => uptoBulk d + 1
  | .map entries => uptoBulkEntries entries + 1
  | .held _ => 1
def uptoBulkAll {H : Type} : List (DataW H) → Nat
  | [] => 0
  | d :: r => uptoBulk d + uptoBulkAll r
def uptoBulkEntries {H : Type} : List (Lit × DataW H) → Nat
  | [] => 0
  | x :: r => uptoBulkEntry x + uptoBulkEntries r
def uptoBulkEntry {H : Type} : Lit × DataW H → Nat
  | (.string bytes, d) => bytes.length + uptoBulk d + 1
  | (_, d) => uptoBulk d + 1
 end
def uptoSmall : (H : Type) → List (DataW H) → Bool := fun _ ds => decide (uptoBulkAll ds ≤ 1048576)
def OpenSpec.upto (s : _root_.Go.ChangeSpec) : _root_.Go.OpenSpec := { _root_.Go.OpenSpec.ofChange s with cond := some uptoSmall }

/-- 'weirgatelaw05.ClockReadsAsSpecified', WHERE WHAT IT READS IS OF BULK AT MOST 1048576: true; the input reads as it did. -/
def clockReadsAsSpecifiedUptoRow : OpenClaim := { program := "ytkcclpomhniafaa", sum := "ce633848faa4c33a59650c81f9c7f6ef0cbd8f8a14b5e6ba9ae8b8c635a0d9b1", func := "weirgate/weirgatelaw05.ClockReadsAsSpecified", spec := "clockReadsAsSpecified", unfollowed := true, recurses := true, apart := false, narrowed := true }
def ClockReadsAsSpecifiedUptoSaid : Prop := clockReadsAsSpecifiedUptoRow.holds Try.pinned (OpenSpec.upto clockReadsAsSpecifiedSpec)

/-- 'weirgatelaw05.ClockLastsAsSpecified', WHERE WHAT IT READS IS OF BULK AT MOST 1048576: true; the input reads as it did. -/
def clockLastsAsSpecifiedUptoRow : OpenClaim := { program := "ytkcclpomhniafaa", sum := "ce633848faa4c33a59650c81f9c7f6ef0cbd8f8a14b5e6ba9ae8b8c635a0d9b1", func := "weirgate/weirgatelaw05.ClockLastsAsSpecified", spec := "clockLastsAsSpecified", unfollowed := true, recurses := true, apart := false, narrowed := true }
def ClockLastsAsSpecifiedUptoSaid : Prop := clockLastsAsSpecifiedUptoRow.holds Try.pinned (OpenSpec.upto clockLastsAsSpecifiedSpec)

/-- 'weirgatelaw05.ClockContainsTrueTime', WHERE WHAT IT READS IS OF BULK AT MOST 1048576: true; the input reads as it did. -/
def clockContainsTrueTimeUptoRow : OpenClaim := { program := "ytkcclpomhniafaa", sum := "ce633848faa4c33a59650c81f9c7f6ef0cbd8f8a14b5e6ba9ae8b8c635a0d9b1", func := "weirgate/weirgatelaw05.ClockContainsTrueTime", spec := "clockContainsTrueTime", unfollowed := true, recurses := true, apart := false, narrowed := true }
def ClockContainsTrueTimeUptoSaid : Prop := clockContainsTrueTimeUptoRow.holds Try.pinned (OpenSpec.upto clockContainsTrueTimeSpec)

/-- 'weirgatelaw05.ClockOnlyGoesOn', WHERE WHAT IT READS IS OF BULK AT MOST 1048576: true; the input reads as it did. -/
def clockOnlyGoesOnUptoRow : OpenClaim := { program := "ytkcclpomhniafaa", sum := "ce633848faa4c33a59650c81f9c7f6ef0cbd8f8a14b5e6ba9ae8b8c635a0d9b1", func := "weirgate/weirgatelaw05.ClockOnlyGoesOn", spec := "clockOnlyGoesOn", unfollowed := true, recurses := true, apart := false, narrowed := true }
def ClockOnlyGoesOnUptoSaid : Prop := clockOnlyGoesOnUptoRow.holds Try.pinned (OpenSpec.upto clockOnlyGoesOnSpec)

/-- 'weirgatelaw05.ClockShowsAsSpecified', WHERE WHAT IT READS IS OF BULK AT MOST 1048576: true; the input reads as it did. -/
def clockShowsAsSpecifiedUptoRow : OpenClaim := { program := "ytkcclpomhniafaa", sum := "ce633848faa4c33a59650c81f9c7f6ef0cbd8f8a14b5e6ba9ae8b8c635a0d9b1", func := "weirgate/weirgatelaw05.ClockShowsAsSpecified", spec := "clockShowsAsSpecified", unfollowed := true, recurses := true, apart := false, narrowed := true }
def ClockShowsAsSpecifiedUptoSaid : Prop := clockShowsAsSpecifiedUptoRow.holds Try.pinned (OpenSpec.upto clockShowsAsSpecifiedSpec)

/-- 'weirgatelaw05.ClockIsSureOrNot', WHERE WHAT IT READS IS OF BULK AT MOST 1048576: true; the input reads as it did. -/
def clockIsSureOrNotUptoRow : OpenClaim := { program := "ytkcclpomhniafaa", sum := "ce633848faa4c33a59650c81f9c7f6ef0cbd8f8a14b5e6ba9ae8b8c635a0d9b1", func := "weirgate/weirgatelaw05.ClockIsSureOrNot", spec := "clockIsSureOrNot", unfollowed := true, recurses := true, apart := false, narrowed := true }
def ClockIsSureOrNotUptoSaid : Prop := clockIsSureOrNotUptoRow.holds Try.pinned (OpenSpec.upto clockIsSureOrNotSpec)

/-- 'weirgatelaw05.ClockPeriodsMatchSpec', WHERE WHAT IT READS IS OF BULK AT MOST 1048576: true; the input reads as it did. -/
def clockPeriodsMatchSpecUptoRow : OpenClaim := { program := "ytkcclpomhniafaa", sum := "ce633848faa4c33a59650c81f9c7f6ef0cbd8f8a14b5e6ba9ae8b8c635a0d9b1", func := "weirgate/weirgatelaw05.ClockPeriodsMatchSpec", spec := "clockPeriodsMatchSpec", unfollowed := true, recurses := true, apart := false, narrowed := true }
def ClockPeriodsMatchSpecUptoSaid : Prop := clockPeriodsMatchSpecUptoRow.holds Try.pinned (OpenSpec.upto clockPeriodsMatchSpecSpec)

end Rows
end Go.Proofs.Ytkcclpomhniafaa
