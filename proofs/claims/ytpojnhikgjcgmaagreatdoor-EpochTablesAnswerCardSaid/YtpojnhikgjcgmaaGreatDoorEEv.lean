/- Walks of entries: the specification's Valid. -/
import Derived.Lib.Hide
import Derived.WalkKit
import Derived.WalkSpells
import Derived.WalkLawsBesides
import Derived.Deep.QuietTactic
import Derived.BigQuiet
import Derived.Test.YtpojnhikgjcgmaaGreatDoorEEo
import Derived.Stop.BytesEq
set_option linter.unusedVariables false
set_option linter.unusedSimpArgs false
namespace Go.Proofs.Sp
abbrev Sp := Int × Int
def pieces : List Int → List Sp
 | a :: b :: r => (a, b) :: pieces (b :: r)
 | _ => []
def skip (l : List Sp) (p : Int) : Nat → Nat
 | i => i
end Go.Proofs.Sp

namespace Go.Proofs.YtpojnhikgjcgmaaGreatDoor
open Go.RowKit
open Go.Proofs
def u8s (l : List Int) : List UInt8 := l.map fun n => UInt8.ofNat n.toNat
theorem u8s_cells {l : List Int} (h : Byt l) : ((u8s l).map Extern.Stop.cell).toArray = cells8 l := by
 unfold cells8 u8s
 congr 1
 rw [List.map_map]
 apply List.map_congr_left
 intro x hx
 have := h x hx
 simp [Extern.Stop.cell]
 omega
theorem u8s_inj : ∀ {a b : List Int}, Byt a → Byt b → u8s a = u8s b → a = b
 | [], [], _, _, _ => rfl
 | [], y :: b, _, _, h => by simp [u8s] at h
 | x :: a, [], _, _, h => by simp [u8s] at h
 | x :: a, y :: b, ha, hb, h => by
  simp only [u8s, List.map_cons, List.cons.injEq] at h
  have h1 := ha x (by simp)
  have h2 := hb y (by simp)
  have e : x = y := by
   have := congrArg UInt8.toNat h.1
   simp at this
   omega
  rw [e, u8s_inj (fun z hz => ha z (by simp [hz])) (fun z hz => hb z (by simp [hz])) h.2]
theorem u8s_beq {a b : List Int} (ha : Byt a) (hb : Byt b) : (u8s a == u8s b) = decide (a = b) := by
 by_cases e : a = b
 ·subst e; simp
 ·have : ¬ (u8s a = u8s b) := fun h => e (u8s_inj ha hb h)
  simp [e, this]
theorem digest_length (t : Int) (l : List (List Int)) : (Wire.digest t l).length = 16 := by rw [Wire.digest, List.length_take, Sha.sha_length]; omega
theorem digest_byt (t : Int) (l : List (List Int)) : Byt (Wire.digest t l) := fun x hx => Sha.out_byte _ x (List.mem_of_mem_take hx)
end Go.Proofs.YtpojnhikgjcgmaaGreatDoor
namespace Go.Proofs.YtpojnhikgjcgmaaGreatDoor
open Go.RowKit
open Go.Proofs
open Go.Proofs.Sp (Sp)
end Go.Proofs.YtpojnhikgjcgmaaGreatDoor