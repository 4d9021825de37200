/- The bytes of a block; '[]byte(s)'. -/
import Derived.WalkKit
import Derived.WalkSpells
import Derived.WalkLawsBesides
import Derived.Deep.QuietTactic
import Derived.BigQuiet
import Derived.Test.YtpojnhikgjcgmaaGreatDoorEHa
import Derived.Lib.ConvBytes
set_option linter.unusedVariables false
set_option linter.unusedSimpArgs false
namespace Go.Proofs.YtpojnhikgjcgmaaGreatDoor
open Go.RowKit Go.Shelf
open Go.Proofs
def ByteAt (w : World) (b : Nat) (l : List Int) : Prop := b < w.heap.size ∧ ∀ j, j < l.length → w.cell? ⟨b, j, none⟩ = some (.int .u8 (l.getD j 0)) ∧ w.frozen? ⟨b, j, none⟩ = false
theorem ByteAt.reads {w : World} {b : Nat} {l : List Int} (h : ByteAt w b l) : ReadsB w w.heap.size (some ⟨b, 0, none⟩) l := by
 intro h0
 refine ⟨b, 0, rfl, h.1, fun i hi j v hv => ?_⟩
 have hj : j = 0 := by
  have := (List.getElem?_eq_some_iff.1 hv).1
  simp [encB] at this; omega
 subst hj
 simp only [encB, List.getElem?_cons_zero, Option.some.injEq] at hv
 subst hv
 have := (h.2 i hi).1
 rw [Nat.mul_one, Nat.zero_add, Nat.add_zero, this]
 simp [hi]
theorem ext_bytes (w : World) (e : TypeId) (s : ByteArray) : Ext w (Lib.bytesWorld w e s) := ⟨rfl, rfl, rfl, by rw [Lib.bytesWorld_size]; omega, fun k hk => Lib.bytesWorld_at_old w e s k hk⟩
theorem bytes_at (w : World) (e : TypeId) (s : ByteArray) : ByteAt (Lib.bytesWorld w e s) w.heap.size (bts s) := by
 refine ⟨by rw [Lib.bytesWorld_size]; omega, fun j hj => ?_⟩
 rw [bts_length] at hj
 refine ⟨?_, ?_⟩
 ·rw [Lib.bytesWorld_cell w e s j hj, bts_get s j hj]
  simp [hj]
  rfl
 ·simp only [World.frozen?, Lib.bytesWorld_at_new]
  have hc : s.size ≤ (Lib.bytesCells w e s).size := by simp [Lib.bytesCells]
  simp
  omega
theorem strConv (w : World) (s : ByteArray) : (convert 9 103 (.string s)).run Tryz.prog w = .ok (.slice (some ⟨w.heap.size, 0, none⟩) s.size (grownCap w s.size 0 5)) (Lib.bytesWorld w 5 s) := Lib.run_convert_string_bytes w _ _ _ s (u := .string) (by kernel_rfl) (by kernel_rfl) (by kernel_rfl)
end Go.Proofs.YtpojnhikgjcgmaaGreatDoor