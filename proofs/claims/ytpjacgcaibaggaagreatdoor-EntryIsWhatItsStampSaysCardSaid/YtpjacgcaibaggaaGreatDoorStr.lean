/- Bytes of strings and of slices, and small laws on copying. -/
import Derived.Test.YtpjacgcaibaggaaGreatDoorProg
import Derived.Test.YtpjacgcaibaggaaGreatDoorExt
import Derived.WalkKit
import Derived.WalkSpells
import Derived.WalkLawsBesides
import Derived.Deep.QuietTactic
import Derived.BigQuiet
import Derived.Test.YtpjacgcaibaggaaGreatDoorRowT
import Derived.Lib.LazyBuf
set_option linter.unusedVariables false
set_option linter.unusedSimpArgs false
namespace Go.Proofs.YtpjacgcaibaggaaGreatDoor
open Go.RowKit
open Go.Proofs

/-- The bytes of a string, as numbers. -/
def bts (s : ByteArray) : List Int := s.data.toList.map fun b => (b.toNat : Int)
theorem bts_length (s : ByteArray) : (bts s).length = s.size := by simp [bts]
theorem bts_byte (s : ByteArray) : ∀ x ∈ bts s, 0 ≤ x ∧ x < 256 := by
  intro x hx
  simp only [bts, List.mem_map] at hx
  obtain ⟨b, _, rfl⟩ := hx
  have := b.toNat_lt
  omega
theorem getD_byte {l : List Int} (h : ∀ x ∈ l, 0 ≤ x ∧ x < 256) (i : Nat) : 0 ≤ l.getD i 0 ∧ l.getD i 0 < 256 := by
  by_cases hi : i < l.length
  · rw [List.getD_eq_getElem?_getD, List.getElem?_eq_getElem hi, Option.getD_some]
    exact h _ (List.getElem_mem hi)
  · rw [List.getD_eq_getElem?_getD, List.getElem?_eq_none (by omega)]
    decide
theorem bts_cells (s : ByteArray) : s.data.toList.map (fun x => Value.int .u8 (x.toNat : Int)) = (cells8 (bts s)).toList := by simp [cells8, bts]

section
variable {P : Program}
/-- 'copy(dst, s)' from a string, whatever its length. -/
theorem run_copy_str (w : World) (dT sT ty elem : TypeId) (b o dLen dCap : Nat) (t : ByteArray)
    (hu : P.underlying dT = some (.slice elem)) (hz : ∀ w, (Go.sizeOf elem).run P w = .ok 1 w) (hr : roomOf w b o (min t.size dLen) = true) :
    (Builtin.copy_ #[dT, sT] ty #[.slice (some ⟨b, o, none⟩) dLen dCap, .string t]).run P w = .ok (goInt ((min t.size dLen : Nat) : Int)) (w.setCells b o ((cells8 (bts t)).toList.take (min t.size dLen))) := by
  have hrm : ∀ i, i < min t.size dLen → (w.cell? ⟨b, o + i, none⟩).isSome = true ∧ w.frozen? ⟨b, o + i, none⟩ = false := by
    unfold roomOf at hr
    simpa only [decide_eq_true_eq] using hr
  have hl : ((t.data.toList.map fun x => Value.int .u8 (x.toNat : Int)).take (min t.size dLen)).length = min t.size dLen := by
    rw [List.length_take, List.length_map]
    simp
  have hst := run_storeCells_cells (P := P) b o ((t.data.toList.map fun x => Value.int .u8 (x.toNat : Int)).take (min t.size dLen)) 0 w (by rw [hl]; intro j hj; simpa using (hrm j hj).1) (by rw [hl]; intro j hj; simpa using (hrm j hj).2) (by
    intro v hv
    obtain ⟨x, _, rfl⟩ := List.mem_map.1 (List.mem_of_mem_take hv)
    rfl)
  have hm : Nat.min t.size dLen = min t.size dLen := rfl
  simp [Builtin.copy_, run_underlying hu, Builtin.lenOf, Builtin.firstCells, hz, hm]
  rw [← bts_cells]
  rw [hst]
  simp [Result.andThen]
theorem wpList_copy_str {ops : Array Oper} {rest : List Oper} {dst : Option Tmp} {ty : TypeId} {pos : String} {after : Array Edge} {a : Act} {w : World} {Q : Exit → Act → World → Prop} (d x : Operand) (dT sT elem : TypeId)
    (hu : P.underlying dT = some (.slice elem)) (hz : ∀ w, (Go.sizeOf elem).run P w = .ok 1 w)
    (b o dLen dCap : Nat) (hd : a.eval d = .slice (some ⟨b, o, none⟩) dLen dCap) (t : ByteArray) (hx : a.eval x = .string t) (hr : roomOf w b o (min t.size dLen) = true)
    (h : wpList P ops Q rest (a.put dst (goInt ((min t.size dLen : Nat) : Int))) (w.setCells b o ((cells8 (bts t)).toList.take (min t.size dLen)))) :
    wpList P ops Q ({ dst, op := .call { callee := .builtin .copy, args := #[d, x], argTypes := #[dT, sT] }, type := ty, pos, after, guard := none } :: rest) a w :=
  wpList_plain rfl fun K hK => by
    have hrun := run_copy_str (P := P) w dT sT ty elem b o dLen dCap t hu hz hr
    unfold Oper.wp
    simp [execOp, resolve, invoke, builtin, hd, hx, hrun, Result.andThen]
    exact hK _ _ h
end
end Go.Proofs.YtpjacgcaibaggaaGreatDoor
