
import Derived.WalkKit
import Derived.WalkSpells
import Derived.WalkLawsBesides
import Derived.Deep.QuietTactic
import Derived.BigQuiet
import Derived.Test.YtpfhmcdcmepfdaaGreatDoorUOk
set_option maxRecDepth 100000
set_option maxHeartbeats 64000000
set_option linter.unusedVariables false
set_option linter.unusedSimpArgs false
namespace Go.Proofs.YtpfhmcdcmepfdaaGreatDoor
open Go.RowKit Go.Shelf
open Go.Proofs
def makeN (k : Ky) (tag : Int) (parts : List ByteArray) : List Int := Wire.digest tag (([k.secret] ++ parts ++ [k.secret]).map bts)
theorem makeN_len (k : Ky) (tag : Int) (parts : List ByteArray) : (makeN k tag parts).length = 16 := digest_length _ _
theorem makeN_byt (k : Ky) (tag : Int) (parts : List ByteArray) : Byt (makeN k tag parts) := digest_byt _ _
theorem sel_fits {l : List Int} (h : l.length = 16) : fitsRow 16 (cells8 l) = true := by
 rw [← dgC_cells h]
 simp [fitsRow, dgC, Value.oneCell']
theorem one_reads {W : World} {b : Nat} {s : ByteArray} (hb : b < W.heap.size) (h : W.cell? ⟨b, 0, none⟩ = some (.string s)) : ReadsStr W W.heap.size (some ⟨b, 0, none⟩) [s] := by
 intro _
 refine ⟨b, 0, rfl, hb, fun i hi j v hv => ?_⟩
 have hj : j = 0 := by
  have := (List.getElem?_eq_some_iff.1 hv).1
  simp [encStr] at this
  omega
 have hi0 : i = 0 := by simp at hi; omega
 subst hj hi0
 simp [encStr] at hv
 rw [h, hv]
theorem smake_any (k : Ky) (tag : Int) (A : Option Addr) (c : Nat) (parts : List ByteArray) (w : World) (hr : ReadsStr w w.heap.size A parts) (hz : A = none → c = 0) (hl : lens ([k.secret] ++ parts ++ [k.secret]) < 8796093022208) (hk : Konst 1 w) :
  Calls Tryz.prog 59 #[.agg (kyC k), .int .i64 tag, .slice A parts.length c] w fun e w' => e = .returned (.agg (dgC (makeN k tag parts))) ∧ Ext w w' := by
 have HR := lh hr
 have HZ := lh hz
 have HK := lh hk
 have hll := lens_length ([k.secret] ++ parts ++ [k.secret])
 have hpl : parts.length + 2 ≤ 8796093022208 := by
  have : ([k.secret] ++ parts ++ [k.secret]).length = parts.length + 2 := by simp [List.length_append]
  omega
 have HL := lh hl
 obtain ⟨D, hD⟩ : ∃ D, makeN k tag parts = D := ⟨_, rfl⟩
 have h16 : D.length = 16 := by rw [← hD]; exact makeN_len _ _ _
 have HD0 : Hid (Wire.digest tag (([k.secret] ++ parts ++ [k.secret]).map bts) = D) := lh hD
 have hfit := sel_fits h16
 have hsz : (cells8 D).size = 16 := by rw [cells8_size]; exact h16
 have HDC := lh (dgC_cells h16)
 rw [hD]
 clear hr hz hk hl hll hD
 go_enter Tryz.func59, Tryz.ntmps59
 go_wp2_with (go_at_call 118; refine (show Hid _ from ?_).out)
 refine lh ?_
 refine calls_world (fun W => ∃ b, b = w.heap.size + 1 + 1 + 1 + 1 ∧ Ext w W ∧ RowAt W (w.heap.size + 1) (cells8 (zeros32 16)) ∧ W.heap.size = w.heap.size + 5 ∧ W.cell? ⟨b, 0, none⟩ = some (.slice (some ⟨w.heap.size + 1 + 1, 0, none⟩) 1 1) ∧ W.cell? ⟨b, 1, none⟩ = some (.slice A parts.length c) ∧ W.cell? ⟨b, 2, none⟩ = some (.slice (some ⟨w.heap.size + 1 + 1 + 1, 0, none⟩) 1 1) ∧ ReadsStr W W.heap.size (some ⟨w.heap.size + 1 + 1, 0, none⟩) [k.secret] ∧ ReadsStr W W.heap.size (some ⟨w.heap.size + 1 + 1 + 1, 0, none⟩) [k.secret]) ⟨_, rfl, ?_, ?_, ?_, ?_, ?_, ?_, ?_, ?_⟩ ?_
 ·exact (by (with_reducible repeat first|exact eR _|apply eD|apply eN|apply eA|apply eO|apply eS|apply eC);all_goals first|omega|simp <;> omega)
 ·have h := ((((RowAt.new (w.alloc (.cells (kyC k) 23)) (cells8 (zeros32 16)) 30).alloc (.cells #[.string k.secret] 9)).alloc (.cells #[.string k.secret] 9)).alloc (.cells #[.slice (some ⟨w.heap.size + 1 + 1, 0, none⟩) 1 1, .slice A parts.length c, .slice (some ⟨w.heap.size + 1 + 1 + 1, 0, none⟩) 1 1] 34))
  have e : (w.alloc (.cells (kyC k) 23)).heap.size = w.heap.size + 1 := by simp
  rw [e] at h
  exact h
 ·simp
 ·rw [World.cell?_alloc_at _ _ _ _ (by simp)]; rfl
 ·rw [World.cell?_alloc_at _ _ _ _ (by simp)]; rfl
 ·rw [World.cell?_alloc_at _ _ _ _ (by simp)]; rfl
 ·exact one_reads (by simp) (by rw [World.cell?_alloc_past _ _ _ (by simp; try omega), World.cell?_alloc_past _ _ _ (by simp; try omega), World.cell?_alloc_at _ _ _ _ (by simp)]; rfl)
 ·exact one_reads (by simp) (by rw [World.cell?_alloc_past _ _ _ (by simp; try omega), World.cell?_alloc_at _ _ _ _ (by simp)]; rfl)
 rintro W ⟨b, rfl, hx, hu, hs, k1, k2, k3, r1, r3⟩
 have HX1 := lh hx
 have HU1 := lh hu
 refine (concat3_any _ _ A _ 1 c 1 [k.secret] parts [k.secret] W (by rw [hs]; omega) k1 k2 k3 r1 (HR.out.on hx) r3 (fun h => by cases h) HZ.out (fun h => by cases h) (by simp; omega)).mono ?_
 rintro e w1 ⟨A', c', l', rfl, hl', ho, hx1⟩
 have HO := lh ho
 have HX2 := lh hx1
 have HL' := hl'
 have HDT : Hid (Wire.digest tag (l'.map bts) = D) := lh (by rw [hl'.out]; exact HD0.out)
 have HLL : Hid (lens l' < 140737488351232) := lh (by rw [hl'.out]; exact Nat.lt_trans HL.out (by decide))
 have HK1 := lh ((HK.out.ext HX1.out).ext HX2.out)
 have HRL := lh (ho.reads sE)
 have hcov := hx1.size
 have HU2 := lh (hu.ext hx1)
 have HX3 := lh (hx.trans hx1)
 clear k1 k2 k3 r1 r3 ho hx1 hl' hx hu HX1 HX2 HO HU1 HR HZ HK HD0
 have hrm : roomOf w1 (w.heap.size + 1) 0 16 = true := by rw [HU2.out.room]; rfl
 have hlu := HU2.out.lt
 go_wp2_with (go_at_call 95; refine (of_ok tag A' c' l' _ HK1.out HRL.out HLL.out).mono ?_; rw [HDT.out]; rintro e w' ⟨rfl, hxl⟩; obtain ⟨xl, rfl⟩ := hxl.asLater; clear hxl)
 go_wp2
 refine post_row sel_ty Tryz.results59 rfl rfl (RowAt.stored (n := 16) (HU2.out.later xl) (by rw [hsz, cells8_size, zeros32_length]) (by rw [hsz]) (by omega)) ⟨by rw [HDC.out], ?_⟩
 trace_state
 exact (by (with_reducible repeat first|exact HX3.out|exact eR _|apply eD|apply eN|apply eA|apply eO|apply eS|apply eC);all_goals first|omega|simp <;> omega)
end Go.Proofs.YtpfhmcdcmepfdaaGreatDoor