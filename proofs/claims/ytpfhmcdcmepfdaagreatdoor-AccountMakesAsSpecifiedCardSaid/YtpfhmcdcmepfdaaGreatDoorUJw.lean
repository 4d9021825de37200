
import Derived.WalkKit
import Derived.WalkSpells
import Derived.WalkLawsBesides
import Derived.Deep.QuietTactic
import Derived.BigQuiet
import Derived.Test.YtpfhmcdcmepfdaaGreatDoorUKb
set_option maxRecDepth 100000
set_option maxHeartbeats 64000000
set_option linter.unusedVariables false
set_option linter.unusedSimpArgs false
namespace Go.Proofs.YtpfhmcdcmepfdaaGreatDoor
open Go.RowKit Go.Shelf
open Go.Proofs
def leOf (k : Ky) (l : Le) : Le := { l with serial := k.serial }
noncomputable def sealedLe (k : Ky) (l : Le) : Le := { leOf k l with sl := makeN k 43 (leParts (leOf k l)) }
theorem le_set3 (s : Le) (n : Int) : (leC s).setIfInBounds 3 (.int .i64 n) = leC { s with serial := n } := by kernel_rfl
theorem le_seal_set (s : Le) (D : List Int) : laidOver (leC s) 4 (dgC D).toList = leC { s with sl := D } := by kernel_rfl
theorem rsealLease_any (k : Ky) (l : Le) (w : World) (hs : k.secret.size < 4000000000000) (hi : ∀ x ∈ leInts (leOf k l), i64 x) (hk : RKonst w) :
  Calls Tryz.prog 55 #[.agg (kyC k), .agg (leC l)] w fun e w' => e = .returned (.agg (leC (sealedLe k l))) ∧ Ext w w' := by
 have HI := lh (fun W : World => rlparts_any (leOf k l) W hi)
 have hl : lens ([k.secret] ++ leParts (leOf k l) ++ [k.secret]) < 8796093022208 := by
  have := leParts_lens (leOf k l)
  rw [lens_append, lens_append, lens_one]
  omega
 have HM := lh (fun (A : Option Addr) (c : Nat) (W : World) (h1 : ReadsStr W W.heap.size A (leParts (leOf k l))) (h2 : A = none → c = 0) (hx : Ext w W) => rmake_any k 43 A c (leParts (leOf k l)) W h1 h2 hl (RowAt.ext hk hx))
 obtain ⟨D, hD⟩ : ∃ D, makeN k 43 (leParts (leOf k l)) = D := ⟨_, rfl⟩
 have hsp : sealedLe k l = { leOf k l with sl := D } := by rw [← hD]; rfl
 have hfit : fitsRow 16 (dgC D) = true := by simp [fitsRow, dgC, Value.oneCell']
 have hsz : (dgC D).size = 16 := rfl
 rw [hD] at HM
 rw [hsp]
 have HC0 : Hid (leOf k l = { l with serial := k.serial }) := lh rfl
 clear hi hl hk hD hsp hs
 generalize leOf k l = c at *
 go_enter Tryz.func55, Tryz.ntmps55
 go_upto_region 1 with (fail)
 refine wp_world (fun W => Ext w W ∧ RowAt W w.heap.size (kyC k) ∧ RowAt W (w.heap.size + 1) (leC l) ∧ RowAt W (w.heap.size + 1 + 1) (leC noLe)) ⟨(by (with_reducible repeat first|exact eR _|apply eD|apply eN|apply eA|apply eO|apply eS|apply eC);all_goals first|omega|simp <;> omega), ((RowAt.new _ _ _).alloc _).alloc _, RowAt.alloc (RowAt.newAt (by simp)) _, RowAt.newAt (by simp)⟩ ?_
 obtain ⟨B, hB⟩ : ∃ B, w.heap.size = B := ⟨_, rfl⟩
 rw [hB]
 rintro W1 ⟨x1, u0, u1, u2⟩
 have HX1 := lh x1
 have HU0 := lh u0
 have HU1 := lh u1
 have HU2 := lh u2
 have q1 : W1.cell? ⟨B, 1, none⟩ = some (.int .i64 k.serial) := (u0.cell 1).trans (ky_g1 k)
 have q3 : W1.cell? ⟨B + 1, 3, none⟩ = some (.int .i64 l.serial) := (u1.cell 3).trans (le_g3 l)
 have f1 := u1.free 3
 have hlu := u2.lt
 clear x1 u0 u1 u2
 go_upto_region 2 with (fail)
 refine wp_world (fun W => Ext w W ∧ RowAt W B (kyC k) ∧ RowAt W (B + 1) (leC c) ∧ RowAt W (B + 1 + 1) (leC noLe)) ⟨?_, ?_, ?_, ?_⟩ ?_
 ·exact HX1.out.setCell (by show _ ≤ B + 1; omega) _
 ·exact HU0.out.other (by show B ≠ B + 1; omega) _
 ·rw [HC0.out, ← le_set3]; exact HU1.out.set 3 _
 ·exact HU2.out.other (by show B + 1 + 1 ≠ B + 1; omega) _
 clear HX1 HU0 HU1 HU2 q1 q3 f1 hlu HC0
 rintro W2 ⟨x2, u0, u1, u2⟩
 have HX2 := lh x2
 have HU1 := lh u1
 have HU2 := lh u2
 have k0 : rowOf W2 B 0 5 = some (kyC k) := u0.all rfl (by omega)
 have k1 : rowOf W2 (B + 1) 0 20 = some (leC c) := u1.all rfl (by omega)
 have hlu := u2.lt
 clear x2 u0 u1 u2
 refine wp_region_soft 5 (softsL [.eq (.agg (kyC k)), .eq (.agg (leC c)), readS (leParts c), .eq (.agg (dgC D)), .eq (.pointer (some ⟨B+1, 4, none⟩))]) (by kernel_rfl) (by kernel_rfl) (lt_cons ?_ (lt_cons ?_ (lt_cons ?_ (lt_cons ?_ (lt_cons ?_ (lt_none)))))) ?_
 any_goals (refine sop rfl fun xs W HW hsW HD Q' HQ => ?_; simp only [fillAt, dstOf, lc0, lcs, obs, Act.put, lsa, lsz, lss, nz, Nat.reduceAdd] at HQ ⊢)
 ·
  have hc := (row_extW HW.out (b := B) (by omega) 0 5).trans k0
  go_wp2
  exact HQ.out _ _ (eR _) rfl
 ·
  have hc := (row_extW HW.out (b := B+1) (by omega) 0 20).trans k1
  go_wp2
  exact HQ.out _ _ (eR _) rfl
 ·
  have hd1 : xs 1 = .agg (leC c) := (HD.out 1 (dk (by kernel_rfl)))
  generalize xs 1 = x1 at hd1 HQ ⊢; subst hd1
  go_wp2_with (go_at_call 89; refine (HI.out _).mono ?_; rintro e w1 ⟨A, c, rfl, h1, h2, hx⟩)
  exact HQ.out _ _ hx ⟨A, c, rfl, h1, h2⟩
 ·
  have hd0 : xs 0 = .agg (kyC k) := (HD.out 0 (dk (by kernel_rfl)))
  generalize xs 0 = x0 at hd0 HQ ⊢; subst hd0
  obtain ⟨A2, c2, h2, hr2, hz2⟩ : (readS (leParts c)).S (xs 2) W := (HD.out 2 (dk (by kernel_rfl)))
  generalize xs 2 = x2 at h2 HQ ⊢; subst h2
  go_wp2_with (go_at_call 31; refine (HM.out A2 c2 _ hr2 hz2 (HX2.out.trans HW.out)).mono ?_; rintro e w1 ⟨rfl, hx⟩)
  exact HQ.out _ _ hx rfl
 ·
  go_wp2
  exact HQ.out _ _ (eR _) rfl
 intro xs W3 hW hS
 have h3 : xs 3 = .agg (dgC D) := hS 3 (by omega)
 have h4 : xs 4 = .pointer (some ⟨B+1, 4, none⟩) := hS 4 (by omega)
 simp only [fillAt, dstOf, lc0, lcs, obs, Act.put, lsa, lsz, lss, nz, Nat.reduceAdd, List.drop_succ_cons, List.drop_zero, List.drop_nil]
 generalize xs 3 = x3 at *; subst h3
 generalize xs 4 = x4 at *; subst h4
 have HW3 := lh (HX2.out.trans hW)
 have HWW3 := lh hW
 clear hS hW k0 k1
 have HX3 := HW3
 have HU13 := lh (HU1.out.ext HWW3.out)
 have HU23 := lh (HU2.out.ext HWW3.out)
 have m1 : roomOf W3 (B + 1) 4 16 = true := by rw [HU13.out.room]; rfl
 have hl3 := HWW3.out.size
 clear HU1 HU2 HX2
 go_upto_region 3 with (fail)
 refine wp_world (fun W => Ext w W ∧ RowAt W (B + 1) (leC { c with sl := D }) ∧ RowAt W (B + 1 + 1) (leC noLe)) ⟨?_, ?_, ?_⟩ ?_
 ·exact HX3.out.setCells (by omega) _ _
 ·have h := HU13.out.sets 4 (dgC D).toList
  rw [le_seal_set] at h
  exact h
 ·exact HU23.out.others (by omega) _ _
 clear HX3 HU13 HU23 m1 hl3 hlu
 rintro W4 ⟨x4, u1, u2⟩
 have HX4 := lh x4
 have HU2 := lh u2
 have k1 : rowOf W4 (B + 1) 0 20 = some (leC { c with sl := D }) := u1.all rfl (by omega)
 have hft := le_fits { c with sl := D }
 have m2 : roomOf W4 (B + 1 + 1) 0 20 = true := by rw [u2.room]; rfl
 have hlu := u2.lt
 clear x4 u1 u2
 go_wp2
 exact post_row le_ty Tryz.results55 rfl rfl (RowAt.stored (n := 20) HU2.out rfl rfl (by omega)) ⟨rfl, (by (with_reducible repeat first|exact HX4.out|exact eR _|apply eD|apply eN|apply eA|apply eO|apply eS|apply eC);all_goals first|omega|simp <;> omega)⟩
end Go.Proofs.YtpfhmcdcmepfdaaGreatDoor