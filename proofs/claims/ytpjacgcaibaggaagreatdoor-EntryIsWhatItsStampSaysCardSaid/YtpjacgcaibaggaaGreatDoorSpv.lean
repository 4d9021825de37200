/- Walks of the specification's sets of bytes: Valid. -/
import Derived.Test.YtpjacgcaibaggaaGreatDoorProg
import Derived.Test.YtpjacgcaibaggaaGreatDoorExt
import Derived.WalkKit
import Derived.WalkSpells
import Derived.WalkLawsBesides
import Derived.Deep.QuietTactic
import Derived.BigQuiet
import Derived.Test.YtpjacgcaibaggaaGreatDoorSpu
set_option linter.unusedVariables false
set_option linter.unusedSimpArgs false
namespace Go.Proofs.YtpjacgcaibaggaaGreatDoor
open Go.RowKit
open Go.Proofs
open Go.Proofs.Sp (Sp)

theorem rempty_is (s : Sp) (b : Bool) (w : World) (h : emptyB s = b) : Calls Tryz.prog 70 #[.agg #[.int .i64 s.1, .int .i64 s.2]] w fun e' w' => e' = .returned (.bool b) ∧ Ext w w' := by subst h; exact rempty_any s w
def okAt (l : List Sp) (i : Nat) : Bool := !(emptyB (l.getD i (0, 0))) && goodB (l.getD i (0, 0)) && (decide (i = 0) || decide ((l.getD (i - 1) (0, 0)).2 < (l.getD i (0, 0)).1))
def setB (l : List Sp) : Bool := (List.range l.length).all (okAt l)
theorem setB_no {l : List Sp} {k : Nat} (h : k < l.length) (hf : okAt l k = false) : setB l = false := by
  cases e : setB l with
  | false => rfl
  | true =>
    have := List.all_eq_true.1 e k (List.mem_range.2 h)
    rw [hf] at this
    cases this
theorem setB_yes {l : List Sp} (h : ∀ j, j < l.length → okAt l j = true) : setB l = true := List.all_eq_true.2 (fun j hj => h j (List.mem_range.1 hj))
def LoopSp (w : World) (l : List Sp) (i : Value) (wr : World) : Prop := ∃ k : Nat, k ≤ l.length ∧ i = .int .i64 k ∧ Ext w wr ∧ Hid (∀ j, j < k → okAt l j = true)

end Go.Proofs.YtpjacgcaibaggaaGreatDoor
