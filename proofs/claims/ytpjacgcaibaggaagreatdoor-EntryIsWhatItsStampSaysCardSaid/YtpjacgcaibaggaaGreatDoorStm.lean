/- The cells of a stream, plain. -/
import Derived.Test.YtpjacgcaibaggaaGreatDoorProg
import Derived.Test.YtpjacgcaibaggaaGreatDoorExt
import Derived.WalkKit
import Derived.WalkSpells
import Derived.WalkLawsBesides
import Derived.Deep.QuietTactic
import Derived.BigQuiet
import Derived.Test.YtpjacgcaibaggaaGreatDoorBig
import Derived.Test.YtpjacgcaibaggaaGreatDoorShb
import Derived.Test.YtpjacgcaibaggaaGreatDoorStr
set_option linter.unusedVariables false
set_option linter.unusedSimpArgs false
namespace Go.Proofs.YtpjacgcaibaggaaGreatDoor
open Go.RowKit
open Go.Proofs

theorem stC_list (s : Sha.S8) (blk : List Int) (n : Int) : (stC s blk n).toList = (cells32 (s8l s)).toList ++ ((cells8 blk).toList ++ [Value.int .u64 n]) := by simp [stC]
theorem stC_n (s : Sha.S8) (blk : List Int) (n : Int) (h : blk.length = 64) : (stC s blk n)[72]? = some (.int .u64 n) := by
  have e : (stC s blk n)[72]? = (stC s blk n).toList[72]? := by simp
  rw [e, stC_list, List.getElem?_append_right (by simp [cells32_size, s8l_length]), List.getElem?_append_right (by simp [cells32_size, cells8_size, s8l_length, h])]
  simp [cells32_size, cells8_size, s8l_length, h]
theorem stC_byte (s : Sha.S8) (blk : List Int) (n : Int) (i : Nat) (h : blk.length = 64) (hi : i < 64) : (stC s blk n)[8 + i]? = some (.int .u8 (blk.getD i 0)) := by
  have e : (stC s blk n)[8 + i]? = (stC s blk n).toList[8 + i]? := by simp
  rw [e, stC_list, List.getElem?_append_right (by simp [cells32_size, s8l_length]), List.getElem?_append_left (by simp [cells32_size, cells8_size, s8l_length, h, hi])]
  have : (cells8 blk).toList[8 + i - (cells32 (s8l s)).toList.length]? = (cells8 blk)[i]? := by simp [cells32_size, s8l_length]
  rw [this, cells8_get, if_pos (by omega)]
theorem stC_state (s : Sha.S8) (blk : List Int) (n : Int) (h : blk.length = 64) : rowSub (stC s blk n) 0 8 = some (cells32 (s8l s)) := by
  rw [rowSub, if_pos (by rw [stC_size h]; omega)]
  congr 1
  apply Array.toList_inj.1
  rw [Array.toList_extract, stC_list]
  simp [cells32_size, s8l_length, List.take_append]
theorem stC_set_n (s : Sha.S8) (blk : List Int) (n n' : Int) (h : blk.length = 64) : (stC s blk n).setIfInBounds 72 (.int .u64 n') = stC s blk n' := by
  apply Array.toList_inj.1
  rw [Array.toList_setIfInBounds, stC_list, stC_list, List.set_append_right _ _ (by simp [cells32_size, s8l_length]), List.set_append_right _ _ (by simp [cells32_size, cells8_size, s8l_length, h])]
  simp [cells32_size, cells8_size, s8l_length, h]
theorem stC_lay_state (s s' : Sha.S8) (blk : List Int) (n : Int) (h : blk.length = 64) : laidOver (stC s blk n) 0 (cells32 (s8l s')).toList = stC s' blk n := by
  rw [laidOver_eq _ _ _ (by rw [stC_size h]; simp [cells32_size, s8l_length])]
  apply Array.toList_inj.1
  rw [stC_list, stC_list]
  simp [cells32_size, s8l_length, List.drop_append]
theorem cells8_append (a b : List Int) : cells8 (a ++ b) = cells8 a ++ cells8 b := by simp [cells8]
theorem stC_lay_block (s : Sha.S8) (blk x : List Int) (n : Int) (k : Nat) (h : blk.length = 64) (hk : k + x.length ≤ 64) : laidOver (stC s blk n) (8 + k) (cells8 x).toList = stC s (Sha.over blk k x) n := by
  rw [laidOver_eq _ _ _ (by rw [stC_size h]; simp [cells8_size]; omega)]
  apply Array.toList_inj.1
  rw [stC_list, stC_list, Sha.over, cells8_append, cells8_append]
  simp only [List.take_append, List.drop_append, Array.toList_append, List.append_assoc]
  have e1 : (cells32 (s8l s)).toList.length = 8 := by simp [cells32_size, s8l_length]
  have e2 : (cells8 x).toList.length = x.length := by simp [cells8_size]
  have e3 : (cells8 blk).toList.length = 64 := by simp [cells8_size, h]
  rw [e1, e2, e3]
  rw [List.take_of_length_le (l := (cells32 (s8l s)).toList) (by rw [e1]; omega), List.drop_of_length_le (l := (cells32 (s8l s)).toList) (by rw [e1]; omega)]
  have e4 : 8 + k - 8 - 64 = 0 := by omega
  have e5 : 8 + k + x.length - 8 - 64 = 0 := by omega
  rw [e4, e5, show 8 + k - 8 = k by omega, show 8 + k + x.length - 8 = k + x.length by omega]
  simp [cells8]
end Go.Proofs.YtpjacgcaibaggaaGreatDoor
