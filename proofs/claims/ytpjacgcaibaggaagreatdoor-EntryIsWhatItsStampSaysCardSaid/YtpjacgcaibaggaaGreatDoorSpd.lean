/- Spans as cells. -/
import Derived.Test.YtpjacgcaibaggaaGreatDoorProg
import Derived.Test.YtpjacgcaibaggaaGreatDoorExt
import Derived.WalkKit
import Derived.WalkSpells
import Derived.WalkLawsBesides
import Derived.Deep.QuietTactic
import Derived.BigQuiet
import Derived.Test.YtpjacgcaibaggaaGreatDoorOwn
import Derived.Test.YtpjacgcaibaggaaGreatDoorSp
set_option linter.unusedVariables false
set_option linter.unusedSimpArgs false
namespace Go.Proofs.YtpjacgcaibaggaaGreatDoor
open Go.RowKit
open Go.Proofs
open Go.Proofs.Sp (Sp)

def encSp (s : Sp) : List Value := [.int .i64 s.1, .int .i64 s.2]
theorem spE : EncTy encSp 2 := ⟨fun _ => rfl, fun x v hv => by simp [encSp] at hv; rcases hv with rfl | rfl <;> rfl⟩
theorem spT : ElemTy Tryz.prog 56 26 2 16 := ⟨by kernel_rfl, by kernel_rfl, by omega⟩
abbrev ReadsSp (w : World) (B : Nat) (A : Option Addr) (l : List Sp) : Prop := Reads 2 encSp w B A l
abbrev OwnsSp (base : Nat) (w : World) (A : Option Addr) (c : Nat) (l : List Sp) : Prop := Owns 26 2 encSp base w A c l
theorem ReadsSp.cell {w : World} {B : Nat} {A : Option Addr} {l : List Sp} (h : ReadsSp w B A l) (i : Nat) (hi : i < l.length) : ∃ b off, A = some ⟨b, off, none⟩ ∧ b < B ∧ w.cell? ⟨b, off + i * 2, none⟩ = some (.int .i64 l[i].1) ∧ w.cell? ⟨b, off + i * 2 + 1, none⟩ = some (.int .i64 l[i].2) := by
  obtain ⟨b, off, h1, h2, h3⟩ := h (by omega)
  exact ⟨b, off, h1, h2, h3 i hi 0 _ rfl, h3 i hi 1 _ rfl⟩

end Go.Proofs.YtpjacgcaibaggaaGreatDoor
