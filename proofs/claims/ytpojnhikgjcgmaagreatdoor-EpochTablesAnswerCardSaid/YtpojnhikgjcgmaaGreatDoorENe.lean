/- The customer of an address: the program's side. -/
import Derived.Shelf.Strings.IndexAnyAll
import Derived.Ground.NamesProg
import Derived.WalkKit
import Derived.WalkSpells
import Derived.WalkLawsBesides
import Derived.Deep.QuietTactic
import Derived.BigQuiet
import Derived.Test.YtpojnhikgjcgmaaGreatDoorENo
set_option maxRecDepth 100000
set_option maxHeartbeats 64000000
set_option linter.unusedVariables false
set_option linter.unusedSimpArgs false
namespace Go.Proofs
open Go.Shelf
def Tryz.indexAnyL_ren : Go.Shelf.Ren := ⟨fun | 153 => 125 | 152 => 169 | 226 => 170 | 227 => 171 | 228 => 172 | 137 => 227 | 119 => 228 | 224 => 225 | 225 => 224 | 217 => 223 | 266 => 262 | n => n, fun | 9 => 9 | 3 => 3 | 4 => 4 | 5 => 5 | 21 => 21 | 117 => 224 | 116 => 223 | 0 => 0 | 46 => 249 | 124 => 286 | n => n, fun | n => n⟩
theorem Tryz.indexAnyL : Go.Proofs.Lays.n153 Tryz.prog Tryz.indexAnyL_ren := {
 mixed := by kernel_rfl
 f119 := Tryz.func228.trans (congrArg some (by kernel_rfl))
 f137 := Tryz.func227.trans (congrArg some (by kernel_rfl))
 f152 := Tryz.func169.trans (congrArg some (by kernel_rfl))
 f153 := Tryz.func125.trans (congrArg some (by kernel_rfl))
 f217 := Tryz.func223.trans (congrArg some (by kernel_rfl))
 f224 := Tryz.func225.trans (congrArg some (by kernel_rfl))
 f225 := Tryz.func224.trans (congrArg some (by kernel_rfl))
 f226 := Tryz.func170.trans (congrArg some (by kernel_rfl))
 f227 := Tryz.func171.trans (congrArg some (by kernel_rfl))
 f228 := Tryz.func172.trans (congrArg some (by kernel_rfl))
 f266 := Tryz.func262.trans (congrArg some (by kernel_rfl))
 t0 := Tryz.underlying0
 a0 := Tryz.isAgg0
 z0 := Tryz.sizeOf0
 v0 := Tryz.zeroValue0
 t3 := Tryz.underlying3
 a3 := Tryz.isAgg3
 z3 := Tryz.sizeOf3
 v3 := Tryz.zeroValue3
 t4 := Tryz.underlying4
 a4 := Tryz.isAgg4
 z4 := Tryz.sizeOf4
 v4 := Tryz.zeroValue4
 t5 := Tryz.underlying5
 a5 := Tryz.isAgg5
 z5 := Tryz.sizeOf5
 v5 := Tryz.zeroValue5
 t9 := Tryz.underlying9
 a9 := Tryz.isAgg9
 z9 := Tryz.sizeOf9
 v9 := Tryz.zeroValue9
 t21 := Tryz.underlying21
 a21 := Tryz.isAgg21
 z21 := Tryz.sizeOf21
 v21 := Tryz.zeroValue21
 t46 := Tryz.underlying249
 a46 := Tryz.isAgg249
 z46 := Tryz.sizeOf249
 v46 := Tryz.zeroValue249
 t116 := Tryz.underlying223
 a116 := Tryz.isAgg223
 z116 := Tryz.sizeOf223
 t117 := Tryz.underlying224
 a117 := Tryz.isAgg224
 z117 := Tryz.sizeOf224
 v117 := Tryz.zeroValue224
 t124 := Tryz.underlying286
 a124 := Tryz.isAgg286
 z124 := Tryz.sizeOf286
 v124 := Tryz.zeroValue286 }
end Go.Proofs

namespace Go.Proofs.YtpojnhikgjcgmaaGreatDoor
open Go.RowKit Go.Shelf
open Go.Proofs
open Ad (Bs cutB)
theorem indexAny_any (s : ByteArray) (w : World) (hs : s.size ≤ 900000) (ha : ∀ c ∈ bsT s, c.toNat < 128) :
  Calls Tryz.prog 125 #[.string s, .string ⟨#[47, 63]⟩] w fun e w' => e = .returned (.int .i64 (Lib.indexAny (bsT s) [47, 63])) ∧ Ext w w' :=
 Any.strings_IndexAny_laid Tryz.indexAnyL (by kernel_rfl) s ⟨#[47, 63]⟩ w (by omega) (by decide)
  (fun j b hb => ha b (List.mem_of_getElem? hb))
  (fun j b hb => by
   have : b ∈ ([47, 63] : List UInt8) := List.mem_of_getElem? hb
   simp at this
   rcases this with rfl | rfl <;> decide)
theorem cust_any (s : ByteArray) (w : World) (hs : s.size ≤ 900000) (ha : ∀ c ∈ bsT s, c.toNat < 128) :
  Calls Tryz.prog 67 #[.string s] w fun e w' => (∃ t : ByteArray, e = .returned (.string t) ∧ bsT t = custB (bsT s) ∧ t.size ≤ s.size) ∧ Ext w w' := by
 have HI := lh (fun W => indexAny_any s W hs ha)
 have hci := cust_index (bsT s)
 generalize Lib.indexAny (bsT s) [47, 63] = I at *
 rcases hci with ⟨rfl, hc⟩ | ⟨i, hi, rfl, hc⟩
 ·have HC := lh hc
  clear hc ha
  go_enter Tryz.func67, Tryz.ntmps67
  go_wp2_with (go_at_call 125; refine (HI.out _).mono ?_; rintro e w' ⟨rfl, hxl⟩; obtain ⟨xl, rfl⟩ := hxl.asLater; clear hxl)
  go_ret
  exact ⟨⟨s, rfl, HC.out.symm, Nat.le_refl _⟩, (by (with_reducible repeat first|exact eR _|apply eD|apply eN|apply eA|apply eO|apply eS|apply eC);all_goals first|omega|simp <;> omega)⟩
 ·have hl : i < s.size := by rw [← bsT_size]; exact hi
  have HC : Hid (bsT (s.extract 0 i) = custB (bsT s)) := lh (by rw [hc]; exact bsT_take s i)
  clear hc hi ha
  go_enter Tryz.func67, Tryz.ntmps67
  go_wp2_with (go_at_call 125; refine (HI.out _).mono ?_; rintro e w' ⟨rfl, hxl⟩; obtain ⟨xl, rfl⟩ := hxl.asLater; clear hxl)
  go_ret
  exact ⟨⟨s.extract 0 i, rfl, HC.out, by rw [ByteArray.size_extract]; omega⟩, (by (with_reducible repeat first|exact eR _|apply eD|apply eN|apply eA|apply eO|apply eS|apply eC);all_goals first|omega|simp <;> omega)⟩
end Go.Proofs.YtpojnhikgjcgmaaGreatDoor