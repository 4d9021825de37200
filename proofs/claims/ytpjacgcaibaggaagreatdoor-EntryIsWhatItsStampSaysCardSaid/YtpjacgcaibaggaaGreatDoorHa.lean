/- Walks of the hash: rotations. -/
import Derived.Test.YtpjacgcaibaggaaGreatDoorProg
import Derived.Test.YtpjacgcaibaggaaGreatDoorExt
import Derived.WalkKit
import Derived.WalkSpells
import Derived.WalkLawsBesides
import Derived.Deep.QuietTactic
import Derived.BigQuiet
import Derived.Test.YtpjacgcaibaggaaGreatDoorSha
set_option linter.unusedVariables false
set_option linter.unusedSimpArgs false
namespace Go.Proofs.YtpjacgcaibaggaaGreatDoor
open Go.RowKit
open Go.Proofs

theorem or_comm32 (a b : Int) : bits .or .u32 a b = bits .or .u32 b a := by
  simp [bits, BitVec.or_comm]

/-- A rotation's count, as the library computes it. -/
theorem rot_count (n : Nat) (h : 0 < n ∧ n < 32) : bits .and .u64 (IntKind.u64.wrap (-(n : Int))) 31 = 32 - n := by
  obtain ⟨h0, h1⟩ := h
  have : ∀ m : Fin 32, 0 < m.val → bits .and .u64 (IntKind.u64.wrap (-(m.val : Int))) 31 = 32 - m.val := by decide +kernel
  exact this ⟨n, h1⟩ h0

theorem rotl_ok (x : Int) (n : Nat) (h : 0 < n ∧ n < 32) (w : World) :
    Calls Tryz.prog 207 #[.int .u32 x, .int .i64 (-(n : Int))] w fun e w' => e = .returned (.int .u32 (Sha.rotr x n)) ∧ w = w' := by
  have hc := rot_count n h
  have e1 : (32 - (n : Int)).toNat = 32 - n := by omega
  have hn1 : (0 : Int) ≤ 32 - n := by omega
  go_enter Tryz.func207, Tryz.ntmps207
  go_wp2
  go_ret
  refine ⟨ret_int ?_, rfl⟩
  rw [show 32 - (32 - n) = n by omega, or_comm32]
  rfl

theorem rotl7 (x : Int) (w : World) : Calls Tryz.prog 207 #[.int .u32 x, .int .i64 (-7)] w fun e w' => e = .returned (.int .u32 (Sha.rotr x 7)) ∧ w = w' := rotl_ok x 7 (by omega) w
theorem rotl18 (x : Int) (w : World) : Calls Tryz.prog 207 #[.int .u32 x, .int .i64 (-18)] w fun e w' => e = .returned (.int .u32 (Sha.rotr x 18)) ∧ w = w' := rotl_ok x 18 (by omega) w
theorem rotl17 (x : Int) (w : World) : Calls Tryz.prog 207 #[.int .u32 x, .int .i64 (-17)] w fun e w' => e = .returned (.int .u32 (Sha.rotr x 17)) ∧ w = w' := rotl_ok x 17 (by omega) w
theorem rotl19 (x : Int) (w : World) : Calls Tryz.prog 207 #[.int .u32 x, .int .i64 (-19)] w fun e w' => e = .returned (.int .u32 (Sha.rotr x 19)) ∧ w = w' := rotl_ok x 19 (by omega) w

theorem rotr_ok (x : Int) (n : Nat) (h : 0 < n ∧ n < 32) (w : World) :
    Calls Tryz.prog 176 #[.int .u32 x, .int .i64 (n : Int)] w fun e w' => e = .returned (.int .u32 (Sha.rotr x n)) ∧ Ext w w' := by
  go_enter Tryz.func176, Tryz.ntmps176
  go_wp2
  refine wp_region_later (by kernel_rfl) (by kernel_rfl) ?_
  repeat (first | go_big_quiet_step (fail) | quiet_step (fail))
  refine wpQuiet_nil ?_
  rintro _ ⟨xq, rfl⟩
  go_wp2
  go_ret
  exact ⟨rfl, (by (repeat (first | with_reducible exact Ext.refl _ | with_reducible refine Ext.drew ?_ | with_reducible refine Ext.drewN ?_ _ | with_reducible refine Ext.alloc ?_ _ | with_reducible refine Ext.onto ?_ _ | with_reducible refine Ext.setCell ?_ ?_ _)); all_goals (simp; try omega))⟩

theorem mix_ok (x : Int) (i j k : Nat) (hi : 0 < i ∧ i < 32) (hj : 0 < j ∧ j < 32) (hk : 0 < k ∧ k < 32) (w : World) :
    Calls Tryz.prog 164 #[.int .u32 x, .int .i64 (i : Int), .int .i64 (j : Int), .int .i64 (k : Int)] w fun e w' => e = .returned (.int .u32 (Sha.mix x i j k)) ∧ w = w' := by
  go_enter Tryz.func164, Tryz.ntmps164
  go_wp2_with (go_at_call 207; refine (rotl_ok x _ (by assumption) _).mono ?_; rintro e w' ⟨rfl, rfl⟩)
  go_ret
  exact ⟨rfl, rfl⟩

end Go.Proofs.YtpjacgcaibaggaaGreatDoor
