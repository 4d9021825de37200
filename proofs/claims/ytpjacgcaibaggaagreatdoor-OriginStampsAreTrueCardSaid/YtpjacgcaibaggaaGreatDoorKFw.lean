/- What law 34 asks ahead: Few, Instant, Right; the sanity of law 34, whole. -/
import Derived.Test.YtpjacgcaibaggaaGreatDoorProg
import Derived.Test.YtpjacgcaibaggaaGreatDoorKSpv
import Derived.WalkKit
import Derived.WalkSpells
import Derived.WalkLawsBesides
import Derived.Deep.QuietTactic
import Derived.BigQuiet
import Derived.Test.YtpjacgcaibaggaaGreatDoorKWe
import Derived.Test.YtpjacgcaibaggaaGreatDoorKOw
import Derived.Test.YtpjacgcaibaggaaGreatDoorKVy
import Derived.Test.YtpjacgcaibaggaaGreatDoorKOv
import Derived.Test.YtpjacgcaibaggaaGreatDoorKSoB
import Derived.RegionTactic
import Derived.Test.YtpjacgcaibaggaaGreatDoorKCh
set_option linter.unusedVariables false
set_option linter.unusedSimpArgs false
namespace Go.Proofs.YtpjacgcaibaggaaGreatDoor
open Go.RowKit Go.Shelf
open Go.Proofs

/-- The seal of parts with a key. -/
def makeN (k : Ky) (tag : Int) (parts : List ByteArray) : List Int := Wire.digest tag (([k.secret] ++ parts ++ [k.secret]).map bts)
theorem makeN_len (k : Ky) (tag : Int) (parts : List ByteArray) : (makeN k tag parts).length = 16 := digest_length _ _
theorem makeN_byt (k : Ky) (tag : Int) (parts : List ByteArray) : Byt (makeN k tag parts) := digest_byt _ _
theorem sel_fits {l : List Int} (h : l.length = 16) : fitsRow 16 (cells8 l) = true := by
  rw [← dgC_cells h]
  simp [fitsRow, dgC, Value.oneCell']
theorem one_reads {W : World} {b : Nat} {s : ByteArray} (hb : b < W.heap.size) (h : W.cell? ⟨b, 0, none⟩ = some (.string s)) : ReadsStr W W.heap.size (some ⟨b, 0, none⟩) [s] := by
  intro _
  refine ⟨b, 0, rfl, hb, fun i hi j v hv => ?_⟩
  have hj : j = 0 := by
    have := (List.getElem?_eq_some_iff.1 hv).1
    simp [encStr] at this
    omega
  have hi0 : i = 0 := by simp at hi; omega
  subst hj hi0
  simp [encStr] at hv
  rw [h, hv]
set_option maxRecDepth 100000 in
set_option maxHeartbeats 2000000 in
theorem smake_any (k : Ky) (tag : Int) (A : Option Addr) (c : Nat) (parts : List ByteArray) (w : World) (hr : ReadsStr w w.heap.size A parts) (hz : A = none → c = 0) (hl : lens ([k.secret] ++ parts ++ [k.secret]) < 8796093022208) (hk : Konst 0 w) :
    Calls Tryz.prog 118 #[.agg (kyC k), .int .i64 tag, .slice A parts.length c] w fun e w' => e = .returned (.agg (dgC (makeN k tag parts))) ∧ Ext w w' := by
  have HR := Lib.hid hr
  have HZ := Lib.hid hz
  have HK := Lib.hid hk
  have hll := lens_length ([k.secret] ++ parts ++ [k.secret])
  have hpl : parts.length + 2 ≤ 8796093022208 := by
    have : ([k.secret] ++ parts ++ [k.secret]).length = parts.length + 2 := by simp [List.length_append]
    omega
  have HL := Lib.hid hl
  obtain ⟨D, hD⟩ : ∃ D, makeN k tag parts = D := ⟨_, rfl⟩
  have h16 : D.length = 16 := by rw [← hD]; exact makeN_len _ _ _
  have HD0 : Hid (Wire.digest tag (([k.secret] ++ parts ++ [k.secret]).map bts) = D) := Lib.hid hD
  have hfit := sel_fits h16
  have hsz : (cells8 D).size = 16 := by rw [cells8_size]; exact h16
  have HDC := Lib.hid (dgC_cells h16)
  rw [hD]
  clear hr hz hk hl hll hD
  go_enter Tryz.func118, Tryz.ntmps118
  go_wp2_with (go_at_call 150; refine (show Hid _ from ?_).out)
  refine Lib.hid ?_
  refine calls_world (fun W => ∃ b, b = w.heap.size + 1 + 1 + 1 + 1 ∧ Ext w W ∧ RowAt W (w.heap.size + 1) (cells8 (zeros32 16)) ∧ W.heap.size = w.heap.size + 5 ∧ W.cell? ⟨b, 0, none⟩ = some (.slice (some ⟨w.heap.size + 1 + 1, 0, none⟩) 1 1) ∧ W.cell? ⟨b, 1, none⟩ = some (.slice A parts.length c) ∧ W.cell? ⟨b, 2, none⟩ = some (.slice (some ⟨w.heap.size + 1 + 1 + 1, 0, none⟩) 1 1) ∧ ReadsStr W W.heap.size (some ⟨w.heap.size + 1 + 1, 0, none⟩) [k.secret] ∧ ReadsStr W W.heap.size (some ⟨w.heap.size + 1 + 1 + 1, 0, none⟩) [k.secret]) ⟨_, rfl, ?_, ?_, ?_, ?_, ?_, ?_, ?_, ?_⟩ ?_
  · exact (by (repeat (first | with_reducible exact Ext.refl _ | with_reducible exact Ext.refl _ | with_reducible refine Ext.drew ?_ | with_reducible refine Ext.drewN ?_ _ | with_reducible refine Ext.alloc ?_ _ | with_reducible refine Ext.onto ?_ _ | (with_reducible refine Ext.setCells ?_ ?_ _ _; rotate_left; focus (first | omega | (simp; done) | (simp; omega))) | (with_reducible refine Ext.setCell ?_ ?_ _; rotate_left; focus (first | omega | (simp; done) | (simp; omega))))))
  · have h := ((((RowAt.new (w.alloc (.cells (kyC k) 79)) (cells8 (zeros32 16)) 46).alloc (.cells #[.string k.secret] 9)).alloc (.cells #[.string k.secret] 9)).alloc (.cells #[.slice (some ⟨w.heap.size + 1 + 1, 0, none⟩) 1 1, .slice A parts.length c, .slice (some ⟨w.heap.size + 1 + 1 + 1, 0, none⟩) 1 1] 81))
    have e : (w.alloc (.cells (kyC k) 79)).heap.size = w.heap.size + 1 := by simp
    rw [e] at h
    exact h
  · simp
  · rw [World.cell?_alloc_at _ _ _ _ (by simp)]; rfl
  · rw [World.cell?_alloc_at _ _ _ _ (by simp)]; rfl
  · rw [World.cell?_alloc_at _ _ _ _ (by simp)]; rfl
  · exact one_reads (by simp) (by rw [World.cell?_alloc_past _ _ _ (by simp; try omega), World.cell?_alloc_past _ _ _ (by simp; try omega), World.cell?_alloc_at _ _ _ _ (by simp)]; rfl)
  · exact one_reads (by simp) (by rw [World.cell?_alloc_past _ _ _ (by simp; try omega), World.cell?_alloc_at _ _ _ _ (by simp)]; rfl)
  rintro W ⟨b, rfl, hx, hu, hs, k1, k2, k3, r1, r3⟩
  have HX1 := Lib.hid hx
  have HU1 := Lib.hid hu
  refine (concat3_any _ _ A _ 1 c 1 [k.secret] parts [k.secret] W (by rw [hs]; omega) k1 k2 k3 r1 (HR.out.on hx) r3 (fun h => by cases h) HZ.out (fun h => by cases h) (by simp; omega)).mono ?_
  rintro e w1 ⟨A', c', l', rfl, hl', ho, hx1⟩
  have HO := Lib.hid ho
  have HX2 := Lib.hid hx1
  have HL' := hl'
  have HDT : Hid (Wire.digest tag (l'.map bts) = D) := Lib.hid (by rw [hl'.out]; exact HD0.out)
  have HLL : Hid (lens l' < 140737488351232) := Lib.hid (by rw [hl'.out]; exact Nat.lt_trans HL.out (by decide))
  have HK1 := Lib.hid ((HK.out.ext HX1.out).ext HX2.out)
  have HRL := Lib.hid (ho.reads sE)
  have hcov := hx1.size
  have HU2 := Lib.hid (hu.ext hx1)
  have HX3 := Lib.hid (hx.trans hx1)
  clear k1 k2 k3 r1 r3 ho hx1 hl' hx hu HX1 HX2 HO HU1 HR HZ HK HD0
  have hrm : roomOf w1 (w.heap.size + 1) 0 16 = true := by rw [HU2.out.room]; rfl
  have hlu := HU2.out.lt
  go_wp2_with (go_at_call 56; refine (of_ok tag A' c' l' _ HK1.out HRL.out HLL.out).mono ?_; rw [HDT.out]; rintro e w' ⟨rfl, hxl⟩; obtain ⟨xl, rfl⟩ := hxl.asLater; clear hxl)
  go_wp2
  refine post_row sel_ty Tryz.results118 rfl rfl (RowAt.stored (n := 16) (HU2.out.later xl) (by rw [hsz, cells8_size, zeros32_length]) (by rw [hsz]) (by omega)) ⟨by rw [HDC.out], ?_⟩
  trace_state
  exact (by (repeat (first | with_reducible exact HX3.out | with_reducible exact Ext.refl _ | with_reducible refine Ext.drew ?_ | with_reducible refine Ext.drewN ?_ _ | with_reducible refine Ext.alloc ?_ _ | with_reducible refine Ext.onto ?_ _ | (with_reducible refine Ext.setCells ?_ ?_ _ _; rotate_left; focus (first | omega | (simp; done) | (simp; omega))) | (with_reducible refine Ext.setCell ?_ ?_ _; rotate_left; focus (first | omega | (simp; done) | (simp; omega))))))
end Go.Proofs.YtpjacgcaibaggaaGreatDoor


set_option linter.unusedVariables false
set_option linter.unusedSimpArgs false
namespace Go.Proofs.YtpjacgcaibaggaaGreatDoor
open Go.RowKit Go.Shelf
open Go.Proofs

def readS (ls : List ByteArray) : Soft := ⟨fun v w => ∃ A c, v = .slice A ls.length c ∧ ReadsStr w w.heap.size A ls ∧ (A = none → c = 0), fun v w w' ⟨A, c, h1, h2, h3⟩ hx => ⟨A, c, h1, h2.on hx, h3⟩⟩
set_option maxRecDepth 100000 in
set_option maxHeartbeats 2000000 in
theorem ssealed_any (k : Ky) (tag : Int) (s : St) (w : World) (h16 : s.body.length = 16) (hi : ∀ x ∈ stInts s, i64 x) (hl : lens ([k.secret] ++ stParts s ++ [k.secret]) < 8796093022208) (hk : Konst 0 w) :
    Calls Tryz.prog 145 #[.agg (kyC k), .int .i64 tag, .agg (stmC s), .func (.func 89) #[] #[]] w fun e w' => e = .returned (.agg (dgC (makeN k tag (stParts s)))) ∧ Ext w w' := by
  have HI := Lib.hid (fun W : World => sparts_any s W h16 hi)
  have HM := Lib.hid (fun (A : Option Addr) (c : Nat) (W : World) (h1 : ReadsStr W W.heap.size A (stParts s)) (h2 : A = none → c = 0) (h3 : Konst 0 W) => smake_any k tag A c (stParts s) W h1 h2 hl h3)
  have HK := Lib.hid hk
  obtain ⟨D, hD⟩ : ∃ D, makeN k tag (stParts s) = D := ⟨_, rfl⟩
  have h6 : D.length = 16 := by rw [← hD]; exact makeN_len _ _ _
  have hfit : fitsRow 16 (dgC D) = true := by simp [fitsRow, dgC, Value.oneCell']
  have hsz : (dgC D).size = 16 := rfl
  rw [hD] at HM ⊢
  clear h16 hi hl hk hD
  go_enter Tryz.func145, Tryz.ntmps145
  go_wp2
  refine wp_world (fun W => Ext w W ∧ RowAt W w.heap.size (kyC k) ∧ RowAt W (w.heap.size + 1) (stmC s) ∧ RowAt W (w.heap.size + 1 + 1) (cells8 (zeros32 16))) ⟨(by (repeat (first | with_reducible exact Ext.refl _ | with_reducible exact Ext.refl _ | with_reducible refine Ext.drew ?_ | with_reducible refine Ext.drewN ?_ _ | with_reducible refine Ext.alloc ?_ _ | with_reducible refine Ext.onto ?_ _ | (with_reducible refine Ext.setCells ?_ ?_ _ _; rotate_left; focus (first | omega | (simp; done) | (simp; omega))) | (with_reducible refine Ext.setCell ?_ ?_ _; rotate_left; focus (first | omega | (simp; done) | (simp; omega)))))), ((RowAt.new _ _ _).alloc _).alloc _, RowAt.alloc (RowAt.newAt (by simp)) _, RowAt.newAt (by simp)⟩ ?_
  obtain ⟨B, hB⟩ : ∃ B, w.heap.size = B := ⟨_, rfl⟩
  rw [hB]
  rintro W1 ⟨x1, u0, u1, u2⟩
  have HX1 := Lib.hid x1
  have HU2 := Lib.hid u2
  have k0 : rowOf W1 B 0 5 = some (kyC k) := u0.all rfl (by omega)
  have k1 : rowOf W1 (B + 1) 0 41 = some (stmC s) := u1.all rfl (by omega)
  have hlu := u2.lt
  clear x1 u0 u1 u2
  refine wp_region_soft 6 (softsL [.eq (.agg (kyC k)), .eq (.int .i64 tag), .eq (.func (.func 89) #[] #[]), .eq (.agg (stmC s)), readS (stParts s), .eq (.agg (dgC D))]) (by kernel_rfl) (by kernel_rfl) (lt_cons ?_ (lt_cons ?_ (lt_cons ?_ (lt_cons ?_ (lt_cons ?_ (lt_cons ?_ lt_none)))))) ?_
  ·
    intro o ho xs W hW hd Q' hQ; obtain rfl := Option.some.inj ho; clear ho; simp only [fillAt, dstOf, List.getElem?_cons_zero, List.getElem?_cons_succ, Option.bind_some, Act.put, List.setIfInBounds_toArray, List.set_cons_zero, List.set_cons_succ, Nat.zero_add, Nat.reduceAdd] at hQ ⊢; have HQ := Lib.hid hQ; have HD := Lib.hid hd; have HW := Lib.hid hW; have hsW := hW.size; clear hQ hd hW
    have hc := (row_extW HW.out (b := B) (by omega) 0 5).trans k0
    go_wp2
    exact HQ.out _ _ (Ext.refl _) rfl
  ·
    intro o ho xs W hW hd Q' hQ; obtain rfl := Option.some.inj ho; clear ho; simp only [fillAt, dstOf, List.getElem?_cons_zero, List.getElem?_cons_succ, Option.bind_some, Act.put, List.setIfInBounds_toArray, List.set_cons_zero, List.set_cons_succ, Nat.zero_add, Nat.reduceAdd] at hQ ⊢; have HQ := Lib.hid hQ; have HD := Lib.hid hd; have HW := Lib.hid hW; have hsW := hW.size; clear hQ hd hW
    go_wp2
    exact HQ.out _ _ (Ext.refl _) rfl
  ·
    intro o ho xs W hW hd Q' hQ; obtain rfl := Option.some.inj ho; clear ho; simp only [fillAt, dstOf, List.getElem?_cons_zero, List.getElem?_cons_succ, Option.bind_some, Act.put, List.setIfInBounds_toArray, List.set_cons_zero, List.set_cons_succ, Nat.zero_add, Nat.reduceAdd] at hQ ⊢; have HQ := Lib.hid hQ; have HD := Lib.hid hd; have HW := Lib.hid hW; have hsW := hW.size; clear hQ hd hW
    go_wp2
    exact HQ.out _ _ (Ext.refl _) rfl
  ·
    intro o ho xs W hW hd Q' hQ; obtain rfl := Option.some.inj ho; clear ho; simp only [fillAt, dstOf, List.getElem?_cons_zero, List.getElem?_cons_succ, Option.bind_some, Act.put, List.setIfInBounds_toArray, List.set_cons_zero, List.set_cons_succ, Nat.zero_add, Nat.reduceAdd] at hQ ⊢; have HQ := Lib.hid hQ; have HD := Lib.hid hd; have HW := Lib.hid hW; have hsW := hW.size; clear hQ hd hW
    have hc := (row_extW HW.out (b := B + 1) (by omega) 0 41).trans k1
    go_wp2
    exact HQ.out _ _ (Ext.refl _) rfl
  ·
    intro o ho xs W hW hd Q' hQ; obtain rfl := Option.some.inj ho; clear ho; simp only [fillAt, dstOf, List.getElem?_cons_zero, List.getElem?_cons_succ, Option.bind_some, Act.put, List.setIfInBounds_toArray, List.set_cons_zero, List.set_cons_succ, Nat.zero_add, Nat.reduceAdd] at hQ ⊢; have HQ := Lib.hid hQ; have HD := Lib.hid hd; have HW := Lib.hid hW; have hsW := hW.size; clear hQ hd hW
    have hd2 : xs 2 = .func (.func 89) #[] #[] := (HD.out 2 (of_decide_eq_true (by kernel_rfl)))
    generalize xs 2 = x2 at hd2 HQ ⊢; subst hd2
    have hd3 : xs 3 = .agg (stmC s) := (HD.out 3 (of_decide_eq_true (by kernel_rfl)))
    generalize xs 3 = x3 at hd3 HQ ⊢; subst hd3
    go_wp2_with (go_at_call 89; refine (HI.out _).mono ?_; rintro e w1 ⟨A, c, rfl, h1, h2, hx⟩)
    exact HQ.out _ _ hx ⟨A, c, rfl, h1, h2⟩
  ·
    intro o ho xs W hW hd Q' hQ; obtain rfl := Option.some.inj ho; clear ho; simp only [fillAt, dstOf, List.getElem?_cons_zero, List.getElem?_cons_succ, Option.bind_some, Act.put, List.setIfInBounds_toArray, List.set_cons_zero, List.set_cons_succ, Nat.zero_add, Nat.reduceAdd] at hQ ⊢; have HQ := Lib.hid hQ; have HD := Lib.hid hd; have HW := Lib.hid hW; have hsW := hW.size; clear hQ hd hW
    have hd0 : xs 0 = .agg (kyC k) := (HD.out 0 (of_decide_eq_true (by kernel_rfl)))
    generalize xs 0 = x0 at hd0 HQ ⊢; subst hd0
    have hd1 : xs 1 = .int .i64 tag := (HD.out 1 (of_decide_eq_true (by kernel_rfl)))
    generalize xs 1 = x1 at hd1 HQ ⊢; subst hd1
    obtain ⟨A, c, h4, hr4, hz4⟩ : (readS (stParts s)).S (xs 4) W := (HD.out 4 (of_decide_eq_true (by kernel_rfl)))
    generalize xs 4 = x4 at h4 HQ ⊢; subst h4
    go_wp2_with (go_at_call 118; refine (HM.out A c _ hr4 hz4 ((HK.out.ext HX1.out).ext HW.out)).mono ?_; rintro e w1 ⟨rfl, hx⟩)
    exact HQ.out _ _ hx rfl
  intro xs W3 hW hS
  have h5 : xs 5 = .agg (dgC D) := hS 5 (by omega)
  simp only [fillAt, dstOf, List.getElem?_cons_zero, List.getElem?_cons_succ, Option.bind_some, Act.put, List.setIfInBounds_toArray, List.set_cons_zero, List.set_cons_succ, Nat.zero_add, Nat.reduceAdd, List.drop_succ_cons, List.drop_zero, List.drop_nil]
  generalize xs 5 = x5 at *; subst h5
  have HX3 := Lib.hid (HX1.out.trans hW)
  have HU3 := Lib.hid (HU2.out.ext hW)
  have hrm : roomOf W3 (B + 1 + 1) 0 16 = true := by rw [HU3.out.room]; rfl
  have hl3 := hW.size
  clear hS hW k0 k1 HU2 HX1
  go_wp2
  refine post_row sel_ty Tryz.results145 rfl rfl (RowAt.stored (n := 16) HU3.out rfl rfl (by omega)) ⟨rfl, (by (repeat (first | with_reducible exact HX3.out | with_reducible exact Ext.refl _ | with_reducible refine Ext.drew ?_ | with_reducible refine Ext.drewN ?_ _ | with_reducible refine Ext.alloc ?_ _ | with_reducible refine Ext.onto ?_ _ | (with_reducible refine Ext.setCells ?_ ?_ _ _; rotate_left; focus (first | omega | (simp; done) | (simp; omega))) | (with_reducible refine Ext.setCell ?_ ?_ _; rotate_left; focus (first | omega | (simp; done) | (simp; omega))))))⟩
end Go.Proofs.YtpjacgcaibaggaaGreatDoor


set_option linter.unusedVariables false
set_option linter.unusedSimpArgs false
namespace Go.Proofs.YtpjacgcaibaggaaGreatDoor
open Go.RowKit Go.Shelf
open Go.Proofs

def named (k : Ky) (s : St) : St := { s with gate := k.party, serial := k.serial }
def sealedSt (k : Ky) (s : St) : St := { named k s with seal_ := makeN k 41 (stParts (named k s)) }
theorem named_set (k : Ky) (s : St) : ((stmC s).setIfInBounds 23 (.int .i64 k.party)).setIfInBounds 24 (.int .i64 k.serial) = stmC (named k s) := by kernel_rfl
theorem seal_set (s : St) (D : List Int) : laidOver (stmC s) 25 (dgC D).toList = stmC { s with seal_ := D } := by kernel_rfl
set_option maxRecDepth 100000 in
set_option maxHeartbeats 2000000 in
theorem sealStamp_any (k : Ky) (s : St) (w : World) (h16 : s.body.length = 16) (hi : ∀ x ∈ stInts (named k s), i64 x) (hl : lens ([k.secret] ++ stParts (named k s) ++ [k.secret]) < 8796093022208) (hk : Konst 0 w) :
    Calls Tryz.prog 113 #[.agg (kyC k), .agg (stmC s)] w fun e w' => e = .returned (.agg (stmC (sealedSt k s))) ∧ Ext w w' := by
  have HI := Lib.hid (fun (W : World) (h3 : Konst 0 W) => ssealed_any k 41 (named k s) W h16 hi hl h3)
  have HK := Lib.hid hk
  obtain ⟨D, hD⟩ : ∃ D, makeN k 41 (stParts (named k s)) = D := ⟨_, rfl⟩
  have hsp : sealedSt k s = { named k s with seal_ := D } := by rw [← hD]; rfl
  have hfit : fitsRow 16 (dgC D) = true := by simp [fitsRow, dgC, Value.oneCell']
  have hsz : (dgC D).size = 16 := rfl
  rw [hD] at HI
  rw [hsp]
  clear h16 hi hl hk hD hsp
  go_enter Tryz.func113, Tryz.ntmps113
  go_wp2
  refine wp_world (fun W => Ext w W ∧ RowAt W w.heap.size (kyC k) ∧ RowAt W (w.heap.size + 1) (stmC s) ∧ RowAt W (w.heap.size + 1 + 1) (stmC noSt)) ⟨(by (repeat (first | with_reducible exact Ext.refl _ | with_reducible exact Ext.refl _ | with_reducible refine Ext.drew ?_ | with_reducible refine Ext.drewN ?_ _ | with_reducible refine Ext.alloc ?_ _ | with_reducible refine Ext.onto ?_ _ | (with_reducible refine Ext.setCells ?_ ?_ _ _; rotate_left; focus (first | omega | (simp; done) | (simp; omega))) | (with_reducible refine Ext.setCell ?_ ?_ _; rotate_left; focus (first | omega | (simp; done) | (simp; omega)))))), ((RowAt.new _ _ _).alloc _).alloc _, RowAt.alloc (RowAt.newAt (by simp)) _, RowAt.newAt (by simp)⟩ ?_
  obtain ⟨B, hB⟩ : ∃ B, w.heap.size = B := ⟨_, rfl⟩
  rw [hB]
  rintro W1 ⟨x1, u0, u1, u2⟩
  have HX1 := Lib.hid x1
  have HU0 := Lib.hid u0
  have HU1 := Lib.hid u1
  have HU2 := Lib.hid u2
  have q0 : W1.cell? ⟨B, 0, none⟩ = some (.int .i64 k.party) := (u0.cell 0).trans (ky_g0 k)
  have q1 : W1.cell? ⟨B, 1, none⟩ = some (.int .i64 k.serial) := (u0.cell 1).trans (ky_g1 k)
  have q3 : W1.cell? ⟨B + 1, 23, none⟩ = some (.int .i64 s.gate) := (u1.cell 23).trans (stm_g23 s)
  have q4 : W1.cell? ⟨B + 1, 24, none⟩ = some (.int .i64 s.serial) := (u1.cell 24).trans (stm_g24 s)
  have f1 := u1.free 23
  have f2 := u1.free 24
  have hlu := u2.lt
  clear x1 u0 u1 u2
  go_region
  go_upto_region 2 with (fail)
  refine wp_world (fun W => Ext w W ∧ RowAt W B (kyC k) ∧ RowAt W (B + 1) (stmC (named k s)) ∧ RowAt W (B + 1 + 1) (stmC noSt)) ⟨?_, ?_, ?_, ?_⟩ ?_
  · exact (((HX1.out.setCell (by show _ ≤ B + 1; omega) _).setCell (by show _ ≤ B + 1; omega) _).drew)
  · exact (((HU0.out.other (by show B ≠ B + 1; omega) _).other (by show B ≠ B + 1; omega) _).drew)
  · rw [← named_set]; exact (((HU1.out.set 23 _).set 24 _).drew)
  · exact (((HU2.out.other (by show B + 1 + 1 ≠ B + 1; omega) _).other (by show B + 1 + 1 ≠ B + 1; omega) _).drew)
  clear HX1 HU0 HU1 HU2 q0 q1 q3 q4 f1 f2 hlu
  rintro W2 ⟨x2, u0, u1, u2⟩
  have HX2 := Lib.hid x2
  have HU1 := Lib.hid u1
  have HU2 := Lib.hid u2
  have k0 : rowOf W2 B 0 5 = some (kyC k) := u0.all rfl (by omega)
  have k1 : rowOf W2 (B + 1) 0 41 = some (stmC (named k s)) := u1.all rfl (by omega)
  have m1 : roomOf W2 (B + 1) 25 16 = true := by rw [u1.room]; rfl
  have hlu := u2.lt
  clear x2 u0 u1 u2
  go_upto_region 3 with (go_at_call 145; refine (HI.out _ (HK.out.ext HX2.out)).mono ?_; rintro e w' ⟨rfl, hxl⟩; obtain ⟨xl, rfl⟩ := hxl.asLater; clear hxl)
  refine wp_world (fun W => Ext w W ∧ RowAt W (B + 1) (stmC { named k s with seal_ := D }) ∧ RowAt W (B + 1 + 1) (stmC noSt)) ⟨?_, ?_, ?_⟩ ?_
  · exact (HX2.out.trans (ext_later _ _)).setCells (by omega) _ _
  · have h := (HU1.out.later xl).sets 25 (dgC D).toList
    rw [seal_set] at h
    exact h
  · exact (HU2.out.later xl).others (by omega) _ _
  clear HX2 HU1 HU2 k0 k1 m1 hlu
  rintro W3 ⟨x3, u1, u2⟩
  have HX3 := Lib.hid x3
  have HU2 := Lib.hid u2
  have k1 : rowOf W3 (B + 1) 0 41 = some (stmC { named k s with seal_ := D }) := u1.all rfl (by omega)
  have m2 : roomOf W3 (B + 1 + 1) 0 41 = true := by rw [u2.room]; rfl
  have hlu := u2.lt
  have hft := stm_fits { named k s with seal_ := D }
  clear x3 u1 u2
  go_wp2
  refine post_row stm_ty Tryz.results113 rfl rfl (RowAt.stored (n := 41) HU2.out rfl rfl (by omega)) ⟨rfl, (by (repeat (first | with_reducible exact HX3.out | with_reducible exact Ext.refl _ | with_reducible refine Ext.drew ?_ | with_reducible refine Ext.drewN ?_ _ | with_reducible refine Ext.alloc ?_ _ | with_reducible refine Ext.onto ?_ _ | (with_reducible refine Ext.setCells ?_ ?_ _ _; rotate_left; focus (first | omega | (simp; done) | (simp; omega))) | (with_reducible refine Ext.setCell ?_ ?_ _; rotate_left; focus (first | omega | (simp; done) | (simp; omega))))))⟩
end Go.Proofs.YtpjacgcaibaggaaGreatDoor


set_option linter.unusedVariables false
set_option linter.unusedSimpArgs false
namespace Go.Proofs.YtpjacgcaibaggaaGreatDoor
open Go.RowKit Go.Shelf
open Go.Proofs

structure Clk where
  (lo hi : Int)
def clkC (k : Clk) : Array Value := #[.int .i64 k.lo, .int .i64 k.hi]
theorem clk_g0 (v : Clk) : (clkC v)[0]? = some (.int .i64 v.lo) := rfl
theorem clk_g1 (v : Clk) : (clkC v)[1]? = some (.int .i64 v.hi) := rfl
attribute [go_sem] clk_g0 clk_g1
def okKy (k : Ky) : Bool := decide (min k.party k.serial ≥ 1) && decide (max k.party k.serial ≤ 1073741824) && decide ((k.secret.size : Int) ≥ 1) && decide ((k.secret.size : Int) ≤ 64) && decide (k.fr ≥ 0) && decide (k.fr < k.upto) && decide (k.upto ≤ 1099511627776)
def okClk (k : Clk) : Bool := decide (k.lo ≥ 0) && decide (k.lo ≤ k.hi) && decide (k.hi ≤ 1099511627776)
set_option maxRecDepth 100000 in
set_option maxHeartbeats 2000000 in
theorem cvalid_any (k : Clk) (w : World) : Calls Tryz.prog 84 #[.agg (clkC k)] w fun e w' => e = .returned (.bool (okClk k)) ∧ Ext w w' := by
  have HF : Hid (okClk k = (decide (k.lo ≥ 0) && decide (k.lo ≤ k.hi) && decide (k.hi ≤ 1099511627776))) := Lib.hid rfl
  generalize okClk k = R at HF ⊢
  go_enter Tryz.func84, Tryz.ntmps84
  go_wp2
  all_goals
    go_ret
    exact ⟨ret_bool (by rw [HF.out]; clear HF; simp [*] <;> omega), (by (repeat (first | with_reducible exact Ext.refl _ | with_reducible exact Ext.refl _ | with_reducible refine Ext.drew ?_ | with_reducible refine Ext.drewN ?_ _ | with_reducible refine Ext.alloc ?_ _ | with_reducible refine Ext.onto ?_ _ | (with_reducible refine Ext.setCells ?_ ?_ _ _; rotate_left; focus (first | omega | (simp; done) | (simp; omega))) | (with_reducible refine Ext.setCell ?_ ?_ _; rotate_left; focus (first | omega | (simp; done) | (simp; omega))))))⟩
set_option maxRecDepth 100000 in
set_option maxHeartbeats 2000000 in
theorem kvalid_any (k : Ky) (w : World) (hs : k.secret.size < 9223372036854775808) : Calls Tryz.prog 83 #[.agg (kyC k)] w fun e w' => e = .returned (.bool (okKy k)) ∧ Ext w w' := by
  have HF : Hid (okKy k = (decide (min k.party k.serial ≥ 1) && decide (max k.party k.serial ≤ 1073741824) && decide ((k.secret.size : Int) ≥ 1) && decide ((k.secret.size : Int) ≤ 64) && decide (k.fr ≥ 0) && decide (k.fr < k.upto) && decide (k.upto ≤ 1099511627776))) := Lib.hid rfl
  generalize okKy k = R at HF ⊢
  go_enter Tryz.func83, Tryz.ntmps83
  go_wp2
  all_goals
    go_ret
    exact ⟨ret_bool (by rw [HF.out]; clear HF; simp [*] <;> omega), (by (repeat (first | with_reducible exact Ext.refl _ | with_reducible exact Ext.refl _ | with_reducible refine Ext.drew ?_ | with_reducible refine Ext.drewN ?_ _ | with_reducible refine Ext.alloc ?_ _ | with_reducible refine Ext.onto ?_ _ | (with_reducible refine Ext.setCells ?_ ?_ _ _; rotate_left; focus (first | omega | (simp; done) | (simp; omega))) | (with_reducible refine Ext.setCell ?_ ?_ _; rotate_left; focus (first | omega | (simp; done) | (simp; omega))))))⟩
end Go.Proofs.YtpjacgcaibaggaaGreatDoor


set_option linter.unusedVariables false
set_option linter.unusedSimpArgs false
namespace Go.Proofs.YtpjacgcaibaggaaGreatDoor
open Go.RowKit Go.Shelf
open Go.Proofs

def fromAn (addr var : ByteArray) (a : An) (lo hi : Int) : St := ⟨addr, var, a.status, a.size, a.body, a.tags, lo, hi, 0, 0, zeros32 16⟩
noncomputable def stampIn (k : Ky) (addr var : ByteArray) (a : An) (n v : Clk) (cs : ByteArray) (ce : Int) : St × Int :=
  if ce = 0 then if cs = addr then if listedB a.tags = true then if v.hi < n.lo then (noSt, 9) else (sealedSt k (fromAn addr var a n.lo v.hi), 0) else (noSt, 3) else (noSt, 3) else (noSt, 3)
theorem stm_loaded {w : World} {b : Nat} {s : St} (h : rowOf w b 0 41 = some (stmC s)) : (loadVar 48 ⟨b, 0, none⟩).run Tryz.prog w = .ok (.agg (stmC s)) w := run_loadVar_row stm_ty h
def stmB7 (x0 x1 x2 x3 x4 x5 x6 : Value) : Sem Next := do pure (.value (← Instr.build 48 #[(0, x0), (1, x1), (2, x2), (3, x3), (4, x4), (5, x5), (6, x6)]))
theorem stmB7_x (ρ : Operand → Value) (dst : Option Tmp) (x0 x1 x2 x3 x4 x5 x6 : Operand) (t : TypeId) (pos : String) (after : Array Edge) (guard : Option (Nat × Bool)) : execOp ρ { dst, op := .build 48 #[(0, x0), (1, x1), (2, x2), (3, x3), (4, x4), (5, x5), (6, x6)], type := t, pos, after, guard } = stmB7 (ρ x0) (ρ x1) (ρ x2) (ρ x3) (ρ x4) (ρ x5) (ρ x6) := by kernel_rfl
theorem stmB7_run (addr var : ByteArray) (a : An) (lo hi : Int) (W : World) : (stmB7 (.string addr) (.string var) (.int .i64 a.status) (.int .i64 a.size) (.agg (dgC a.body)) (.string a.tags) (.agg #[.int .i64 lo, .int .i64 hi])).run Tryz.prog W = .ok (.value (.agg (stmC (fromAn addr var a lo hi)))) W := by kernel_rfl
def stmB0 : Sem Next := do pure (.value (← Instr.build 48 #[]))
theorem stmB0_x (ρ : Operand → Value) (dst : Option Tmp) (t : TypeId) (pos : String) (after : Array Edge) (guard : Option (Nat × Bool)) : execOp ρ { dst, op := .build 48 #[], type := t, pos, after, guard } = stmB0 := by kernel_rfl
theorem stmB0_run (W : World) : stmB0.run Tryz.prog W = .ok (.value (.agg (stmC noSt))) W := by kernel_rfl
attribute [go_sem ↓] stmB7_x stmB0_x
attribute [go_sem] stmB7_run stmB0_run
set_option maxRecDepth 100000 in
set_option maxHeartbeats 2000000 in
theorem ostampi_any (k : Ky) (addr var : ByteArray) (a : An) (n v : Clk) (cs : ByteArray) (ce : Int) (w : World) (h16 : a.body.length = 16) (hi : ∀ x ∈ stInts (named k (fromAn addr var a n.lo v.hi)), i64 x) (hl : lens ([k.secret] ++ stParts (named k (fromAn addr var a n.lo v.hi)) ++ [k.secret]) < 8796093022208) (ht : a.tags.size ≤ 900000) (hk : Konst 0 w)
    (hc : ∀ W, Ext w W → Calls Tryz.prog 112 #[.string addr] W fun e w' => e = .returned (.tuple #[.string cs, .int .i64 ce]) ∧ Ext W w') :
    Calls Tryz.prog 85 #[.agg (kyC k), .string addr, .string var, .agg (anC a), .agg (clkC n), .agg (clkC v)] w fun e w' => e = .returned (.tuple #[.agg (stmC (stampIn k addr var a n v cs ce).1), .int .i64 (stampIn k addr var a n v cs ce).2]) ∧ Ext w w' := by
  have HI := Lib.hid (fun (W : World) (h3 : Konst 0 W) => sealStamp_any k (fromAn addr var a n.lo v.hi) W h16 hi hl h3)
  have HC := Lib.hid hc
  have HT := Lib.hid (fun W : World => olisted_any a.tags W ht)
  have HK := Lib.hid hk
  obtain ⟨R, hR⟩ : ∃ R, stampIn k addr var a n v cs ce = R := ⟨_, rfl⟩
  have HR := Lib.hid hR
  rw [hR]
  have hft0 := stm_fits noSt
  have hsi := str_is cs addr
  generalize hT : sealedSt k (fromAn addr var a n.lo v.hi) = T at *
  have hft := stm_fits T
  clear h16 hi hl ht hk hc hR
  go_enter Tryz.func85, Tryz.ntmps85
  go_upto_region 2 with (go_at_call 112; refine (HC.out _ (by (repeat (first | with_reducible exact Ext.refl _ | with_reducible exact Ext.refl _ | with_reducible refine Ext.drew ?_ | with_reducible refine Ext.drewN ?_ _ | with_reducible refine Ext.alloc ?_ _ | with_reducible refine Ext.onto ?_ _ | (with_reducible refine Ext.setCells ?_ ?_ _ _; rotate_left; focus (first | omega | (simp; done) | (simp; omega))) | (with_reducible refine Ext.setCell ?_ ?_ _; rotate_left; focus (first | omega | (simp; done) | (simp; omega))))))).mono ?_; rintro e w' ⟨rfl, hxl⟩; obtain ⟨xl, rfl⟩ := hxl.asLater; clear hxl)
  refine wp_world (fun W => Ext w W ∧ RowAt W w.heap.size (kyC k) ∧ RowAt W (w.heap.size + 1) (anC a) ∧ RowAt W (w.heap.size + 1 + 1) (clkC n) ∧ RowAt W (w.heap.size + 1 + 1 + 1) (clkC v) ∧ RowAt W (w.heap.size + 1 + 1 + 1 + 1) (stmC noSt)) ⟨(by (repeat (first | with_reducible exact Ext.refl _ | with_reducible exact Ext.refl _ | with_reducible refine Ext.drew ?_ | with_reducible refine Ext.drewN ?_ _ | with_reducible refine Ext.alloc ?_ _ | with_reducible refine Ext.onto ?_ _ | (with_reducible refine Ext.setCells ?_ ?_ _ _; rotate_left; focus (first | omega | (simp; done) | (simp; omega))) | (with_reducible refine Ext.setCell ?_ ?_ _; rotate_left; focus (first | omega | (simp; done) | (simp; omega)))))), ?_, ?_, ?_, ?_, ?_⟩ ?_
  · exact RowAt.later (((((RowAt.new _ _ _).alloc _).alloc _).alloc _).alloc _) _
  · exact RowAt.later ((((RowAt.newAt (by simp)).alloc _).alloc _).alloc _) _
  · exact RowAt.later (((RowAt.newAt (by simp)).alloc _).alloc _) _
  · exact RowAt.later ((RowAt.newAt (by simp)).alloc _) _
  · exact RowAt.later (RowAt.newAt (by simp)) _
  obtain ⟨B, hB⟩ : ∃ B, w.heap.size = B := ⟨_, rfl⟩
  rw [hB]
  rintro W1 ⟨x1, u0, u1, u2, u3, u4⟩
  have HX1 := Lib.hid x1
  have HU4 := Lib.hid u4
  have k0 : rowOf W1 B 0 5 = some (kyC k) := u0.all rfl (by omega)
  have a0 : W1.cell? ⟨B + 1, 0, none⟩ = some (.int .i64 a.status) := u1.cell 0
  have a1 : W1.cell? ⟨B + 1, 1, none⟩ = some (.int .i64 a.size) := u1.cell 1
  have a2 : rowOf W1 (B + 1) 2 16 = some (dgC a.body) := by rw [u1.row, if_neg (by omega), an_body]
  have a3 : W1.cell? ⟨B + 1, 19, none⟩ = some (.string a.tags) := u1.cell 19
  have n0 : W1.cell? ⟨B + 1 + 1, 0, none⟩ = some (.int .i64 n.lo) := u2.cell 0
  have v1 : W1.cell? ⟨B + 1 + 1 + 1, 1, none⟩ = some (.int .i64 v.hi) := u3.cell 1
  have m4 : roomOf W1 (B + 1 + 1 + 1 + 1) 0 41 = true := by rw [u4.room]; rfl
  have hlu := u4.lt
  clear x1 u0 u1 u2 u3 u4
  by_cases b0 : ce = 0
  · subst b0
    by_cases b1 : cs = addr
    · subst b1
      by_cases b2 : listedB a.tags = true
      · by_cases b3 : v.hi < n.lo
        · have HR' : Hid (R = (noSt, 9)) := Lib.hid (by rw [← HR.out]; simp only [stampIn, b2, if_true]; rw [if_pos b3])
          rw [b2] at HT
          clear b2 HR hT HI hsi
          go_wp2_with (go_at_call 48; refine (HT.out _).mono ?_; rintro e w' ⟨rfl, hxl⟩; obtain ⟨xl, rfl⟩ := hxl.asLater; clear hxl)
          rw [HR'.out]
          refine post_two (v1 := .agg (stmC noSt)) (v2 := .int .i64 9) Tryz.results85 rfl ⟨_, rfl, stm_loaded (RowAt.stored (n := 41) (HU4.out.later _) rfl rfl (by omega))⟩ rfl ⟨rfl, Ext.setCells (HX1.out.onto _) (by omega) _ _⟩
        · have HR' : Hid (R = (T, 0)) := Lib.hid (by rw [← HR.out, ← hT]; simp only [stampIn, b2, if_true]; rw [if_neg b3])
          rw [b2] at HT
          clear b2 HR hT hsi
          go_wp2_with (first | (go_at_call 48; refine (HT.out _).mono ?_; rintro e w' ⟨rfl, hxl⟩; obtain ⟨xl, rfl⟩ := hxl.asLater; clear hxl) | (go_at_call 113; refine (HI.out _ (HK.out.ext (HX1.out.onto _))).mono ?_; rintro e w' ⟨rfl, hxl⟩; obtain ⟨xl, rfl⟩ := hxl.asLater; clear hxl))
          rw [HR'.out]
          refine post_two (v1 := .agg (stmC T)) (v2 := .int .i64 0) Tryz.results85 rfl ⟨_, rfl, stm_loaded (RowAt.stored (n := 41) (HU4.out.later _) rfl rfl (by omega))⟩ rfl ⟨rfl, Ext.setCells (HX1.out.onto _) (by omega) _ _⟩
      · have e2 : listedB a.tags = false := by simpa using b2
        have HR' : Hid (R = (noSt, 3)) := Lib.hid (by rw [← HR.out]; simp only [stampIn, e2, if_true]; rfl)
        rw [e2] at HT
        clear b2 e2 HR hT HI hsi
        go_wp2_with (go_at_call 48; refine (HT.out _).mono ?_; rintro e w' ⟨rfl, hxl⟩; obtain ⟨xl, rfl⟩ := hxl.asLater; clear hxl)
        rw [HR'.out]
        refine post_two (v1 := .agg (stmC noSt)) (v2 := .int .i64 3) Tryz.results85 rfl ⟨_, rfl, stm_loaded (RowAt.stored (n := 41) (HU4.out.later _) rfl rfl (by omega))⟩ rfl ⟨rfl, Ext.setCells (HX1.out.onto _) (by omega) _ _⟩
    · have HR' : Hid (R = (noSt, 3)) := Lib.hid (by rw [← HR.out]; simp only [stampIn, if_true]; rw [if_neg b1])
      have e1 : (cs.toList == addr.toList) = false := by rw [hsi]; simpa using b1
      clear HR hT HI HT b1 hsi
      go_wp2
      rw [HR'.out]
      refine post_two (v1 := .agg (stmC noSt)) (v2 := .int .i64 3) Tryz.results85 rfl ⟨_, rfl, stm_loaded (RowAt.stored (n := 41) HU4.out rfl rfl (by omega))⟩ rfl ⟨rfl, Ext.setCells HX1.out (by omega) _ _⟩
  · have HR' : Hid (R = (noSt, 3)) := Lib.hid (by rw [← HR.out]; simp only [stampIn]; rw [if_neg b0])
    clear HR hT HI HT hsi
    go_wp2
    rw [HR'.out]
    refine post_two (v1 := .agg (stmC noSt)) (v2 := .int .i64 3) Tryz.results85 rfl ⟨_, rfl, stm_loaded (RowAt.stored (n := 41) HU4.out rfl rfl (by omega))⟩ rfl ⟨rfl, Ext.setCells HX1.out (by omega) _ _⟩
end Go.Proofs.YtpjacgcaibaggaaGreatDoor


set_option linter.unusedVariables false
set_option linter.unusedSimpArgs false
namespace Go.Proofs.YtpjacgcaibaggaaGreatDoor
open Go.RowKit Go.Shelf
open Go.Proofs

def goodS (k : Ky) (a : An) (n v : Clk) : Bool := okKy k && okClk n && okClk v && !a.same && (a.size == (a.bytes.size : Int)) && decide (a.body = dgN a.bytes)
noncomputable def stampOut (k : Ky) (addr var : ByteArray) (a : An) (n v : Clk) (cs : ByteArray) (ce : Int) : St × Int :=
  if goodS k a n v = true then stampIn k addr var a n v cs ce else (noSt, 1)
set_option maxRecDepth 100000 in
set_option maxHeartbeats 2000000 in
theorem ostamp_any (k : Ky) (addr var : ByteArray) (a : An) (n v : Clk) (cs : ByteArray) (ce : Int) (w : World) (h16 : a.body.length = 16) (hby : Byt a.body) (hsc : k.secret.size < 9223372036854775808) (hab : a.bytes.size ≤ 140737488351200)
    (hg : goodS k a n v = true → (∀ x ∈ stInts (named k (fromAn addr var a n.lo v.hi)), i64 x) ∧ lens ([k.secret] ++ stParts (named k (fromAn addr var a n.lo v.hi)) ++ [k.secret]) < 8796093022208 ∧ a.tags.size ≤ 900000) (hk : Konst 0 w)
    (hc : ∀ W, Ext w W → Calls Tryz.prog 112 #[.string addr] W fun e w' => e = .returned (.tuple #[.string cs, .int .i64 ce]) ∧ Ext W w') :
    Calls Tryz.prog 39 #[.agg (kyC k), .string addr, .string var, .agg (anC a), .agg (clkC n), .agg (clkC v)] w fun e w' => e = .returned (.tuple #[.agg (stmC (stampOut k addr var a n v cs ce).1), .int .i64 (stampOut k addr var a n v cs ce).2]) ∧ Ext w w' := by
  have HK := Lib.hid hk
  obtain ⟨D, hD⟩ : ∃ D, dgN a.bytes = D := ⟨_, rfl⟩
  have HDg := Lib.hid (fun (W : World) (hx : Ext w W) => odig_d a.bytes D W (RowAt.ext HK.out hx) hab hD)
  have heq := eq_dd (a := a.body) (b := D) h16 (by rw [← hD]; exact dgN_len _) hby (by rw [← hD]; exact dgN_byt _)
  have HG : Hid (goodS k a n v = (okKy k && okClk ⟨n.lo, n.hi⟩ && okClk ⟨v.lo, v.hi⟩ && !a.same && (a.size == (a.bytes.size : Int)) && decide (a.body = D))) := Lib.hid (by rw [← hD]; rfl)
  have HC := Lib.hid (fun (W : World) (hx : Ext w W) (h : goodS k a n v = true) => ostampi_any k addr var a n v cs ce W h16 (hg h).1 (hg h).2.1 (hg h).2.2 (RowAt.ext HK.out hx) (fun W' hx' => hc W' (hx.trans hx')))
  have HV := Lib.hid (fun W : World => kvalid_any k W hsc)
  have HVc : Hid (∀ (lo hi : Int) (W : World), Calls Tryz.prog 84 #[.agg #[.int .i64 lo, .int .i64 hi]] W fun e w' => e = .returned (.bool (okClk ⟨lo, hi⟩)) ∧ Ext W w') := Lib.hid (fun lo hi W => cvalid_any ⟨lo, hi⟩ W)
  have hft0 := stm_fits noSt
  obtain ⟨R, hR⟩ : ∃ R, stampIn k addr var a n v cs ce = R := ⟨_, rfl⟩
  have HO : Hid (stampOut k addr var a n v cs ce = if goodS k a n v = true then R else (noSt, 1)) := Lib.hid (by rw [← hR]; rfl)
  rw [hR] at HC
  replace HC : Hid (∀ (W : World) (hx : Ext w W) (h : goodS k a n v = true), Calls Tryz.prog 85 #[.agg (kyC k), .string addr, .string var, .agg (anC a), .agg #[.int .i64 n.lo, .int .i64 n.hi], .agg #[.int .i64 v.lo, .int .i64 v.hi]] W fun e w' => e = .returned (.tuple #[.agg (stmC R.1), .int .i64 R.2]) ∧ Ext W w') := HC
  generalize stampOut k addr var a n v cs ce = O at *
  generalize goodS k a n v = G at *
  have hft := stm_fits R.1
  clear hR
  clear h16 hby hg hk hc hD hsc
  go_enter Tryz.func39, Tryz.ntmps39
  go_wp2
  refine wp_world (fun W => Ext w W ∧ RowAt W w.heap.size (kyC k) ∧ RowAt W (w.heap.size + 1) (anC a) ∧ RowAt W (w.heap.size + 1 + 1) (clkC n) ∧ RowAt W (w.heap.size + 1 + 1 + 1) (clkC v) ∧ RowAt W (w.heap.size + 1 + 1 + 1 + 1) (stmC noSt)) ⟨(by (repeat (first | with_reducible exact Ext.refl _ | with_reducible exact Ext.refl _ | with_reducible refine Ext.drew ?_ | with_reducible refine Ext.drewN ?_ _ | with_reducible refine Ext.alloc ?_ _ | with_reducible refine Ext.onto ?_ _ | (with_reducible refine Ext.setCells ?_ ?_ _ _; rotate_left; focus (first | omega | (simp; done) | (simp; omega))) | (with_reducible refine Ext.setCell ?_ ?_ _; rotate_left; focus (first | omega | (simp; done) | (simp; omega)))))), ?_, ?_, ?_, ?_, ?_⟩ ?_
  · exact (((((RowAt.new _ _ _).alloc _).alloc _).alloc _).alloc _)
  · exact ((((RowAt.newAt (by simp)).alloc _).alloc _).alloc _)
  · exact (((RowAt.newAt (by simp)).alloc _).alloc _)
  · exact ((RowAt.newAt (by simp)).alloc _)
  · exact (RowAt.newAt (by simp))
  obtain ⟨B, hB⟩ : ∃ B, w.heap.size = B := ⟨_, rfl⟩
  rw [hB]
  rintro W1 ⟨x1, u0, u1, u2, u3, u4⟩
  have HX1 := Lib.hid x1
  have HU4 := Lib.hid u4
  have k0 : rowOf W1 B 0 5 = some (kyC k) := u0.all rfl (by omega)
  have a0 : rowOf W1 (B + 1) 0 21 = some (anC a) := u1.all rfl (by omega)
  have a1 : W1.cell? ⟨B + 1, 1, none⟩ = some (.int .i64 a.size) := u1.cell 1
  have a2 : rowOf W1 (B + 1) 2 16 = some (dgC a.body) := by rw [u1.row, if_neg (by omega), an_body]
  have a3 : W1.cell? ⟨B + 1, 18, none⟩ = some (.string a.bytes) := u1.cell 18
  have a4 : W1.cell? ⟨B + 1, 20, none⟩ = some (.bool a.same) := u1.cell 20
  have n0 : W1.cell? ⟨B + 1 + 1, 0, none⟩ = some (.int .i64 n.lo) := u2.cell 0
  have n1 : W1.cell? ⟨B + 1 + 1, 1, none⟩ = some (.int .i64 n.hi) := u2.cell 1
  have v0 : W1.cell? ⟨B + 1 + 1 + 1, 0, none⟩ = some (.int .i64 v.lo) := u3.cell 0
  have v1 : W1.cell? ⟨B + 1 + 1 + 1, 1, none⟩ = some (.int .i64 v.hi) := u3.cell 1
  have m4 : roomOf W1 (B + 1 + 1 + 1 + 1) 0 41 = true := by rw [u4.room]; rfl
  have hlu := u4.lt
  clear x1 u0 u1 u2 u3 u4
  refine wp_region_later_tail 21 (by kernel_rfl) (by kernel_rfl) ?_
  simp only [List.take_succ_cons, List.take_zero, List.drop_succ_cons, List.drop_zero]
  repeat (first | go_big_quiet_step ((first | (go_at_call 24; exact quietE (HDg.out _ (HX1.out.onto _))) | (go_at_call 83; exact quietE (HV.out _)) | (go_at_call 84; exact quietE (HVc.out _ _ _)))) | quiet_step ((first | (go_at_call 24; exact quietE (HDg.out _ (HX1.out.onto _))) | (go_at_call 83; exact quietE (HV.out _)) | (go_at_call 84; exact quietE (HVc.out _ _ _)))))
  refine wpQuiet_nil ?_
  rintro _ ⟨xq, rfl⟩
  have m4' : roomOf (later W1 xq) (B + 1 + 1 + 1 + 1) 0 41 = true := by rw [(HU4.out.later xq).room]; rfl
  cases G with
  | false =>
    have HO' : Hid (O = (noSt, 1)) := Lib.hid HO.out
    clear HO HC
    go_wp2_with (go_at_call 47; refine (oall6 _ _ _ _ _ _ _ _ _ (later_size _ _).symm).mono ?_; rw [← HG.out]; rintro e w' ⟨rfl, hxl⟩; obtain ⟨xl, rfl⟩ := hxl.asLater; clear hxl)
    rw [HO'.out]
    refine post_two (v1 := .agg (stmC noSt)) (v2 := .int .i64 1) Tryz.results39 rfl ⟨_, rfl, stm_loaded (RowAt.stored (n := 41) (HU4.out.later _) rfl rfl (by omega))⟩ rfl ⟨rfl, Ext.setCells (HX1.out.onto _) (by omega) _ _⟩
  | true =>
    have HO' : Hid (O = R) := Lib.hid HO.out
    clear HO
    go_wp2_with (first | (go_at_call 47; refine (oall6 _ _ _ _ _ _ _ _ _ (later_size _ _).symm).mono ?_; rw [← HG.out]; rintro e w' ⟨rfl, hxl⟩; obtain ⟨xl, rfl⟩ := hxl.asLater; clear hxl))
    refine (HC.out _ (HX1.out.onto _) (by trivial)).mono ?_
    rintro e w' ⟨rfl, hxl⟩; obtain ⟨xl, rfl⟩ := hxl.asLater; clear hxl
    go_wp2
    rw [HO'.out]
    refine post_two (v1 := .agg (stmC R.1)) (v2 := .int .i64 R.2) Tryz.results39 rfl ⟨_, rfl, stm_loaded (RowAt.stored (n := 41) (HU4.out.later _) rfl rfl (by omega))⟩ rfl ⟨rfl, Ext.setCells (HX1.out.onto _) (by omega) _ _⟩
end Go.Proofs.YtpjacgcaibaggaaGreatDoor


set_option linter.unusedVariables false
set_option linter.unusedSimpArgs false
namespace Go.Proofs.YtpjacgcaibaggaaGreatDoor
open Go.RowKit Go.Shelf
open Go.Proofs

def exA : Ver := ⟨10, 200, ⟨#[97, 98, 99]⟩, ⟨#[120]⟩⟩
def exB : Ver := ⟨20, 200, ⟨#[97, 98, 100]⟩, ByteArray.empty⟩
def exV : List Ver := [exA, exB]
theorem dgA_ne_dgB : dgN exA.bytes ≠ dgN exB.bytes := by decide +kernel
theorem dgB_ne_zero : dgN exB.bytes ≠ zeros32 16 := by decide +kernel
theorem dgA_ne_zero : dgN exA.bytes ≠ zeros32 16 := by decide +kernel
theorem at9 : atN exV 9 = lostVer := rfl
theorem at10 : atN exV 10 = exA := rfl
theorem at15 : atN exV 15 = exA := rfl
theorem at25 : atN exV 25 = exB := rfl
theorem at22 : atN exV 22 = exB := rfl
theorem at20 : atN exV 20 = exB := rfl
theorem exIn (t : Int) : VerIn (atN exV t) := by
  unfold atN
  split
  · show (_ : Nat) ≤ _; decide
  · have : placeN exV t ≤ 2 := placeN_le exV t
    generalize placeN exV t = k at *
    match k, this with
    | 0, _ => show (_ : Nat) ≤ _; decide
    | 1, _ => show (_ : Nat) ≤ _; decide
    | 2, _ => show (_ : Nat) ≤ _; decide
theorem ex_listed0 : listedB ByteArray.empty = true := Tg.tags_nil
theorem ex_listed1 : listedB ⟨#[120]⟩ = true := by
  have h := Tg.tags_of (s := bsT ⟨#[120]⟩) (l := [[120]]) (m := [[120]]) ?_ (by decide) ?_ ?_ (fun x => Iff.rfl) (by decide)
  · exact h.trans (by decide)
  · exact Tg.Cut.one (by decide)
  · decide
  · exact List.pairwise_singleton _ _
theorem exValid : validV exV = true := by
  rw [validV_iff]
  refine ⟨fun j hj _ => ?_, by decide⟩
  have : j = 0 ∨ j = 1 := by simp [exV] at hj; omega
  rcases this with rfl | rfl
  · refine ⟨?_, ⟨?_, ?_, ?_, ?_⟩, ex_listed1⟩
    · show (_ : Int) < 10; decide
    · show (10 : Int) ≤ _; decide
    · show (100 : Int) ≤ 200; decide
    · show (200 : Int) ≤ 599; decide
    · show (3 : Nat) ≤ _; decide
  · refine ⟨?_, ⟨?_, ?_, ?_, ?_⟩, ex_listed0⟩
    · show (_ : Int) < 20; decide
    · show (20 : Int) ≤ _; decide
    · show (100 : Int) ≤ 200; decide
    · show (200 : Int) ≤ 599; decide
    · show (3 : Nat) ≤ _; decide
set_option maxRecDepth 100000 in
set_option maxHeartbeats 1000000 in
theorem example_any (w : World) : Calls Tryz.prog 46 #[] w fun e w' => ∃ b, e = .returned (.slice (some ⟨b, 0, none⟩) exV.length 2) ∧ ReadsVer w' w'.heap.size (some ⟨b, 0, none⟩) exV ∧ Ext w w' := by
  go_enter Tryz.func46, Tryz.ntmps46
  go_wp2
  go_ret
  exact ⟨_, rfl, reads_fresh verE exV _ _ _ rfl, (by (repeat (first | with_reducible exact Ext.refl _ | with_reducible exact Ext.refl _ | with_reducible refine Ext.drew ?_ | with_reducible refine Ext.drewN ?_ _ | with_reducible refine Ext.alloc ?_ _ | with_reducible refine Ext.onto ?_ _ | (with_reducible refine Ext.setCells ?_ ?_ _ _; rotate_left; focus (first | omega | (simp; done) | (simp; omega))) | (with_reducible refine Ext.setCell ?_ ?_ _; rotate_left; focus (first | omega | (simp; done) | (simp; omega))))))⟩
end Go.Proofs.YtpjacgcaibaggaaGreatDoor


set_option linter.unusedVariables false
set_option linter.unusedSimpArgs false
namespace Go.Proofs.YtpjacgcaibaggaaGreatDoor
open Go.RowKit Go.Shelf
open Go.Proofs

def exK : Ky := ⟨7, 1, ⟨#[115]⟩, 0, 100⟩
def acmeA : ByteArray := ⟨#[97, 99, 109, 101, 47, 97]⟩
def exAn : An := ⟨200, 3, dgN exA.bytes, exA.bytes, ⟨#[120]⟩, false⟩
def exS : St := sealedSt exK (fromAn acmeA ByteArray.empty exAn 15 30)
theorem ex_ans : ansOf (atN exV 15) (zeros32 16) = exAn := by
  rw [at15]
  unfold ansOf
  rw [if_neg dgA_ne_zero]
  rfl
theorem ex_good : goodS exK exAn ⟨15, 16⟩ ⟨20, 30⟩ = true := by
  unfold goodS
  have h1 : okKy exK = true := by decide
  have h2 : okClk ⟨15, 16⟩ = true := by decide
  have h3 : okClk ⟨20, 30⟩ = true := by decide
  have h4 : decide (exAn.body = dgN exAn.bytes) = true := by simp [exAn]
  rw [h1, h2, h3, h4]
  decide
theorem ex_stampIn : stampIn exK acmeA ByteArray.empty exAn ⟨15, 16⟩ ⟨20, 30⟩ acmeA 0 = (exS, 0) := by
  unfold stampIn
  rw [if_pos rfl, if_pos rfl, if_pos (show listedB exAn.tags = true from ex_listed1), if_neg (by decide)]
  rfl
theorem ex_stamp : stampOut exK acmeA ByteArray.empty exAn ⟨15, 16⟩ ⟨20, 30⟩ acmeA 0 = (exS, 0) := by
  unfold stampOut
  rw [if_pos ex_good]
  exact ex_stampIn
theorem exS_lo : exS.lo = 15 := rfl
theorem exS_hi : exS.hi = 30 := rfl
theorem exS_gate : exS.gate = 7 := rfl
theorem exS_body : exS.body = dgN exA.bytes := rfl
theorem mean1 : meanN exV 15 30 = [exA, exB] := rfl
theorem mean2 : meanN exV 20 30 = [exB] := rfl
theorem says_A : saysB exS exA = true := by
  unfold saysB
  rw [exS_body]
  simp
  exact ⟨⟨rfl, rfl⟩, rfl⟩
theorem true_1 : (meanN exV exS.lo exS.hi).any (saysB exS) = true := by
  rw [exS_lo, exS_hi, mean1]
  simp [says_A]
theorem says_B (s : St) (h : s.body = dgN exA.bytes) : saysB s exB = false := by
  unfold saysB
  rw [h]
  simp [dgA_ne_dgB.symm]
theorem true_2 : (meanN exV 20 30).any (saysB { exS with lo := 20 }) = false := by
  rw [mean2]
  simp [says_B { exS with lo := 20 } rfl]
theorem ex_ints : ∀ x ∈ stInts (named exK (fromAn acmeA ByteArray.empty exAn 15 30)), i64 x := by
  intro x hx
  have : stInts (named exK (fromAn acmeA ByteArray.empty exAn 15 30)) = [200, 3, 15, 30, 7, 1] := rfl
  rw [this] at hx
  simp at hx
  rcases hx with rfl | rfl | rfl | rfl | rfl | rfl <;> constructor <;> decide
theorem ex_lens : lens ([exK.secret] ++ stParts (named exK (fromAn acmeA ByteArray.empty exAn 15 30)) ++ [exK.secret]) < 8796093022208 := by decide +kernel
end Go.Proofs.YtpjacgcaibaggaaGreatDoor


set_option linter.unusedVariables false
set_option linter.unusedSimpArgs false
namespace Go.Proofs.YtpjacgcaibaggaaGreatDoor
open Go.RowKit Go.Shelf
open Go.Proofs

theorem ver_f1 (v : Ver) (W : World) : (Instr.field 38 (.agg (verC v)) 1).run Tryz.prog W = .ok (.int .i64 v.status) W := by kernel_rfl
theorem ver_f2 (v : Ver) (W : World) : (Instr.field 38 (.agg (verC v)) 2).run Tryz.prog W = .ok (.string v.bytes) W := by kernel_rfl
theorem lost_s : lostVer.status = 404 := rfl
theorem exA_b : exA.bytes = ⟨#[97, 98, 99]⟩ := rfl
theorem exB_b : exB.bytes = ⟨#[97, 98, 100]⟩ := rfl
theorem dgw_self (a0 a1 a2 a3 a4 a5 a6 a7 a8 a9 a10 a11 a12 a13 a14 a15 : Int) (W : World) : (Op.equalIn 9999 24 (.agg #[.int .u8 a0, .int .u8 a1, .int .u8 a2, .int .u8 a3, .int .u8 a4, .int .u8 a5, .int .u8 a6, .int .u8 a7, .int .u8 a8, .int .u8 a9, .int .u8 a10, .int .u8 a11, .int .u8 a12, .int .u8 a13, .int .u8 a14, .int .u8 a15]) (.agg #[.int .u8 a0, .int .u8 a1, .int .u8 a2, .int .u8 a3, .int .u8 a4, .int .u8 a5, .int .u8 a6, .int .u8 a7, .int .u8 a8, .int .u8 a9, .int .u8 a10, .int .u8 a11, .int .u8 a12, .int .u8 a13, .int .u8 a14, .int .u8 a15])).run Tryz.prog W = .ok true W := by
  have hc : Tryz.prog.cellsOf 5 = 1 := by kernel_rfl
  have hr : List.range 16 = [0, 1, 2, 3, 4, 5, 6, 7, 8, 9, 10, 11, 12, 13, 14, 15] := by decide
  have hinf : (Tryz.prog.info? 5).map (fun i => (i.zero, i.size, i.bytes)) = some (some (.int .u8 0), 1, 1) := by kernel_rfl
  obtain ⟨i, hi, _, _, _⟩ := info_parts hinf
  rw [run_equalIn_array W 9998 (t := 24) (e := 5) (n := 16) _ _ (by kernel_rfl) hi, hc, hr]
  simp [Op.eqItems, go_sem]
theorem an_self (a : An) (W : World) : (binOp .eql 41 (.agg (anC a)) (.agg (anC a))).run Tryz.prog W = .ok (.bool true) W := by
  rw [run_eql_struct]
  simp [go_sem, anC, dgC, dgw_self]
def ansBy (x0 x1 x2 x4 x5 : Value) : Sem Next := do pure (.value (← Instr.build 41 #[(0, x0), (1, x1), (2, x2), (4, x4), (5, x5)]))
theorem ansBy_x (ρ : Operand → Value) (dst : Option Tmp) (x0 x1 x2 x4 x5 : Operand) (t : TypeId) (pos : String) (after : Array Edge) (guard : Option (Nat × Bool)) : execOp ρ { dst, op := .build 41 #[(0, x0), (1, x1), (2, x2), (4, x4), (5, x5)], type := t, pos, after, guard } = ansBy (ρ x0) (ρ x1) (ρ x2) (ρ x4) (ρ x5) := by kernel_rfl
theorem ansBy_run (s z : Int) (D : List Int) (g : ByteArray) (b : Bool) (W : World) : (ansBy (.int .i64 s) (.int .i64 z) (.agg (dgC D)) (.string g) (.bool b)).run Tryz.prog W = .ok (.value (.agg (anC ⟨s, z, D, ByteArray.empty, g, b⟩))) W := by kernel_rfl
def kyB4 (x0 x1 x2 x4 : Value) : Sem Next := do pure (.value (← Instr.build 79 #[(0, x0), (1, x1), (2, x2), (4, x4)]))
theorem kyB4_x (ρ : Operand → Value) (dst : Option Tmp) (x0 x1 x2 x4 : Operand) (t : TypeId) (pos : String) (after : Array Edge) (guard : Option (Nat × Bool)) : execOp ρ { dst, op := .build 79 #[(0, x0), (1, x1), (2, x2), (4, x4)], type := t, pos, after, guard } = kyB4 (ρ x0) (ρ x1) (ρ x2) (ρ x4) := by kernel_rfl
theorem kyB4_run (p s u : Int) (z : ByteArray) (W : World) : (kyB4 (.int .i64 p) (.int .i64 s) (.string z) (.int .i64 u)).run Tryz.prog W = .ok (.value (.agg (kyC ⟨p, s, z, 0, u⟩))) W := by kernel_rfl
attribute [go_sem ↓] kyB4_x
attribute [go_sem] kyB4_run
def digB0 : Sem Next := do pure (.value (← Instr.build 24 #[]))
theorem digB0_x (ρ : Operand → Value) (dst : Option Tmp) (t : TypeId) (pos : String) (after : Array Edge) (guard : Option (Nat × Bool)) : execOp ρ { dst, op := .build 24 #[], type := t, pos, after, guard } = digB0 := by kernel_rfl
theorem digB0_run (W : World) : digB0.run Tryz.prog W = .ok (.value (.agg (dgC (zeros32 16)))) W := by kernel_rfl
attribute [go_sem ↓] digB0_x
attribute [go_sem] digB0_run
attribute [go_sem ↓] an_self ansBy_x
attribute [go_sem] ansBy_run
attribute [local go_sem] ver_f1 ver_f2 lost_s exA_b exB_b at9 at10 at25
theorem reads_freshAt {α : Type} {size : Nat} {enc : α → List Value} (E : EncTy enc size) (l : List α) (W : World) (cs : Array Value) (t : TypeId) (b : Nat) (hb : b = W.heap.size) (h : cs.toList = l.flatMap enc) : Reads size enc (W.alloc (.cells cs t)) (W.alloc (.cells cs t)).heap.size (some ⟨b, 0, none⟩) l := by
  subst hb
  exact reads_fresh E l W cs t h
def exF : Fau := ⟨15, 16, 2, 7⟩
theorem ex_fault : faultN [exF] 15 = exF := rfl
theorem ex_served : servedN exV (zeros32 16) 15 exF = [(22, ansOf exB (zeros32 16))] := by
  show giveN exV (zeros32 16) [] 22 = _
  unfold giveN
  rw [at22]
  rfl
theorem z16_byt : Byt (zeros32 16) := by unfold Byt; decide
set_option maxRecDepth 100000 in
set_option maxHeartbeats 2000000 in
theorem osanity_any (w : World) (hk : Konst 0 w)
    (hc : ∀ W, Ext w W → Calls Tryz.prog 112 #[.string ⟨#[97, 99, 109, 101, 47, 97]⟩] W fun e w' => e = .returned (.tuple #[.string ⟨#[97, 99, 109, 101, 47, 97]⟩, .int .i64 0]) ∧ Ext W w') :
    Calls Tryz.prog 11 #[] w fun e w' => e = .returned (.bool true) ∧ Ext w w' := by
  have HK := Lib.hid hk
  have HC := Lib.hid hc
  obtain ⟨DA, hDA⟩ : ∃ D, dgN exA.bytes = D := ⟨_, rfl⟩
  obtain ⟨DB, hDB⟩ : ∃ D, dgN exB.bytes = D := ⟨_, rfl⟩
  have HAB : Hid (DA ≠ DB) := Lib.hid (by rw [← hDA, ← hDB]; exact dgA_ne_dgB)
  have HBz : Hid (DB ≠ zeros32 16) := Lib.hid (by rw [← hDB]; exact dgB_ne_zero)
  have HAz : Hid (DA ≠ zeros32 16) := Lib.hid (by rw [← hDA]; exact dgA_ne_zero)
  have HdA := Lib.hid (fun (W : World) (hx : Ext w W) => odig_d exA.bytes DA W (RowAt.ext hk hx) (by decide) hDA)
  have HdB := Lib.hid (fun (W : World) (hx : Ext w W) => odig_d exB.bytes DB W (RowAt.ext hk hx) (by decide) hDB)
  have hfA : fitsRow 16 (dgC DA) = true := by simp [fitsRow, dgC, Value.oneCell']
  have hfB : fitsRow 16 (dgC DB) = true := by simp [fitsRow, dgC, Value.oneCell']
  have hz16 : ∀ {l : List Int}, (dgC l).size = (cells8 (zeros32 16)).size := by intro l; rw [cells8_size, zeros32_length]; rfl
  clear hk hc
  go_enter Tryz.func11, Tryz.ntmps11
  go_upto_region 2 with (go_at_call 46; refine (example_any _).mono ?_; rintro e w1 ⟨b, rfl, hrv, hx⟩; have HRV := Lib.hid hrv; have HX := Lib.hid hx; have hlb : b < w1.heap.size := (by obtain ⟨b', off, h1, h2, _⟩ := hrv (by decide); cases h1; exact h2); clear hrv hx)
  go_upto_region 3 with (first | (go_at_call 24; refine (HdA.out _ (HX.out)).mono ?_; rintro e w' ⟨rfl, hxl⟩; obtain ⟨xk, rfl⟩ := hxl.asLater; clear hxl) | (go_at_call 24; refine (HdB.out _ (HX.out.onto _)).mono ?_; rintro e w' ⟨rfl, hxl⟩; obtain ⟨xl, rfl⟩ := hxl.asLater; clear hxl))
  refine wp_world (fun W => Ext w W ∧ ReadsVer W W.heap.size (some ⟨b, 0, none⟩) exV ∧ RowAt W (w1.heap.size + (xk.comp xl).n) (dgC DA) ∧ RowAt W (w1.heap.size + (xk.comp xl).n + 1) (dgC DB)) ⟨?_, ?_, ?_, ?_⟩ ?_
  · exact ((((HX.out.onto _).alloc _).alloc _).setCells (by have := HX.out.size; omega) _ _).setCells (by have := HX.out.size; omega) _ _
  · exact HRV.out.on (((((ext_later _ _).alloc _).alloc _).setCells (by omega) _ _).setCells (by omega) _ _)
  · have h0 := RowAt.newAt (w := later w1 (xk.comp xl)) (cs := cells8 (zeros32 16)) (t := 24) (later_size _ _).symm
    exact RowAt.others (RowAt.store (ds := dgC DA) (h0.alloc _) hz16) (by omega) _ _
  · have h0 := RowAt.newAt (w := (later w1 (xk.comp xl)).alloc (.cells (cells8 (zeros32 16)) 24)) (cs := cells8 (zeros32 16)) (t := 24) (b := w1.heap.size + (xk.comp xl).n + 1) (by rw [World.size_alloc, later_size])
    exact RowAt.store (ds := dgC DB) (h0.others (by omega) _ _) hz16
  obtain ⟨n, hn⟩ : ∃ n, w1.heap.size + (xk.comp xl).n = n := ⟨_, rfl⟩
  have hbn : b < n := by omega
  rw [hn]
  clear hn HX HRV
  rintro W2 ⟨x2, hrv, ra, rb⟩
  have HX := Lib.hid x2
  have HRV := Lib.hid hrv
  have RA := Lib.hid ra
  have RB := Lib.hid rb
  have hlr := rb.lt
  clear x2 hrv ra rb
  have HVal := Lib.hid (fun (W : World) (hx : Ext W2 W) => (ovalid_any (some ⟨b, 0, none⟩) 2 exV W (by decide) (by intro v hv; simp only [exV, List.mem_cons, List.not_mem_nil, or_false] at hv; rcases hv with rfl | rfl <;> decide) (HRV.out.on hx)))
  rw [exValid] at HVal
  have HAt := Lib.hid (fun (t : Int) (W : World) (hx : Ext W2 W) => oat_any (some ⟨b, 0, none⟩) 2 exV t W (by decide) (HRV.out.on hx))
  go_upto_region 4 with (first | (go_at_call 12; refine (HVal.out _ (by (repeat (first | with_reducible exact Ext.refl _ | with_reducible exact Ext.refl _ | with_reducible refine Ext.drew ?_ | with_reducible refine Ext.drewN ?_ _ | with_reducible refine Ext.alloc ?_ _ | with_reducible refine Ext.onto ?_ _ | (with_reducible refine Ext.setCells ?_ ?_ _ _; rotate_left; focus (first | omega | (simp; done) | (simp; omega))) | (with_reducible refine Ext.setCell ?_ ?_ _; rotate_left; focus (first | omega | (simp; done) | (simp; omega))))))).mono ?_; rintro e w' ⟨rfl, hxl⟩; obtain ⟨xl, rfl⟩ := hxl.asLater; clear hxl) | (go_at_call 17; refine (HAt.out _ _ (by (repeat (first | with_reducible exact Ext.refl _ | with_reducible exact Ext.refl _ | with_reducible refine Ext.drew ?_ | with_reducible refine Ext.drewN ?_ _ | with_reducible refine Ext.alloc ?_ _ | with_reducible refine Ext.onto ?_ _ | (with_reducible refine Ext.setCells ?_ ?_ _ _; rotate_left; focus (first | omega | (simp; done) | (simp; omega))) | (with_reducible refine Ext.setCell ?_ ?_ _; rotate_left; focus (first | omega | (simp; done) | (simp; omega))))))).mono ?_; rintro e w' ⟨rfl, hxl⟩; obtain ⟨xl, rfl⟩ := hxl.asLater; clear hxl))
  clear HVal HAt HdA HdB
  refine wp_world (fun W => Ext W2 W) ((by (repeat (first | with_reducible exact Ext.refl _ | with_reducible exact Ext.refl _ | with_reducible refine Ext.drew ?_ | with_reducible refine Ext.drewN ?_ _ | with_reducible refine Ext.alloc ?_ _ | with_reducible refine Ext.onto ?_ _ | (with_reducible refine Ext.setCells ?_ ?_ _ _; rotate_left; focus (first | omega | (simp; done) | (simp; omega))) | (with_reducible refine Ext.setCell ?_ ?_ _; rotate_left; focus (first | omega | (simp; done) | (simp; omega))))))) ?_
  rintro W3 x3
  have HX3 := Lib.hid x3
  have hl3 := x3.size
  have k2 : rowOf W3 n 0 16 = some (dgC DA) := (RA.out.ext x3).all rfl (by omega)
  clear x3
  have hlA : DA.length = 16 := by rw [← hDA]; exact dgN_len _
  have hlB : DB.length = 16 := by rw [← hDB]; exact dgN_len _
  have hbA : Byt DA := by rw [← hDA]; exact dgN_byt _
  have hbB : Byt DB := by rw [← hDB]; exact dgN_byt _
  obtain ⟨an, han⟩ : ∃ a : An, a = ⟨200, 3, DA, ByteArray.empty, ⟨#[120]⟩, true⟩ := ⟨_, rfl⟩
  have HAns : Hid (∀ (W : World) (hx : Ext W2 W), Calls Tryz.prog 19 #[.slice (some ⟨b, 0, none⟩) exV.length 2, .int .i64 15, .agg (dgC DA)] W fun e w' => e = .returned (.agg (anC an)) ∧ Ext W w') := Lib.hid (fun W hx => by
    have h := oanswer_any (some ⟨b, 0, none⟩) 2 exV 15 DA W (by decide) (HRV.out.on hx) hlA hbA (exIn 15) (HK.out.ext (HX.out.trans hx))
    have e : ansOf (atN exV 15) DA = an := by
      rw [at15, han]
      unfold ansOf
      rw [if_pos hDA, hDA]
      rfl
    rw [e] at h
    exact h)
  have hfan := an_fits an
  go_upto_region 5 with (go_at_call 19; refine (HAns.out _ HX3.out).mono ?_; rintro e w' ⟨rfl, hxl⟩; obtain ⟨xl, rfl⟩ := hxl.asLater; clear hxl)
  refine wp_world (fun W => Ext W2 W ∧ RowAt W (W3.heap.size + xl.n) (anC an)) ⟨(HX3.out.onto _ |>.alloc _).setCells (by omega) _ _, ?_⟩ ?_
  · have h0 := RowAt.newAt (w := later W3 xl) (cs := anC noAn) (t := 41) (later_size _ _).symm
    rw [han]
    exact RowAt.store h0 rfl
  obtain ⟨b5, hb5⟩ : ∃ n, W3.heap.size + xl.n = n := ⟨_, rfl⟩
  have hn5 : n + 1 < b5 := by omega
  rw [hb5]
  clear hb5 HX3 k2
  rintro W4 ⟨x4, r4⟩
  have HX4 := Lib.hid x4
  have k5 : rowOf W4 b5 0 21 = some (anC an) := r4.all rfl (by omega)
  have hl4 := r4.lt
  have k2 : rowOf W4 n 0 16 = some (dgC DA) := (RA.out.ext x4).all rfl (by omega)
  have k3 : rowOf W4 (n + 1) 0 16 = some (dgC DB) := (RB.out.ext x4).all rfl (by omega)
  clear x4 r4
  go_upto_region 6 with (fail)
  have HPt := Lib.hid (fun (D : List Int) (W : World) (hx : Ext W2 W) (h16 : D.length = 16) (hby : Byt D) => opart_any (some ⟨b, 0, none⟩) 2 exV 25 D 1 3 W (by decide) (HRV.out.on hx) h16 hby (exIn 25) (HK.out.ext (HX.out.trans hx)))
  have hE1 : partE exB DA 1 3 = 341 := by unfold partE; rw [hDB]; exact if_neg (HAB.out.symm)
  have hS1 : partS exB DA 1 3 = ⟨#[]⟩ := by unfold partS; rw [hE1]; rfl
  have hE2 : partE exB DB 1 3 = 0 := by unfold partE; rw [hDB, if_pos rfl]; decide
  have hS2 : partS exB DB 1 3 = ⟨#[98, 100]⟩ := by unfold partS; rw [hE2]; decide
  have H16 := Lib.hid (And.intro hlA hbA)
  have H16' := Lib.hid (And.intro hlB hbB)
  go_upto_region 7 with (go_at_call 15; refine (HPt.out DA _ (HX4.out) H16.out.1 H16.out.2).mono ?_; rintro e w' ⟨rfl, hxl⟩; obtain ⟨xk, rfl⟩ := hxl.asLater; clear hxl)
  go_upto_region 8 with (go_at_call 15; refine (HPt.out DB _ (HX4.out.onto _) H16'.out.1 H16'.out.2).mono ?_; rintro e w' ⟨rfl, hxl⟩; obtain ⟨xj, rfl⟩ := hxl.asLater; clear hxl)
  clear HPt hE1 hS1 hE2 hS2
  obtain ⟨gv, hgv⟩ : ∃ g : Giv, (22, ansOf exB (zeros32 16)) = g := ⟨_, rfl⟩
  have hgb : gv.2.bytes = ⟨#[97, 98, 100]⟩ := by
    rw [← hgv]
    show (ansOf exB (zeros32 16)).bytes = _
    unfold ansOf
    rw [if_neg dgB_ne_zero]
    rfl
  have hg1 : gv.1 = 22 := by rw [← hgv]
  have HSv := Lib.hid (fun (A : Option Addr) (W : World) (hx : Ext W2 W) (hf : ReadsFau W W.heap.size A [exF]) => oserve_any (some ⟨b, 0, none⟩) A 2 1 exV [exF] 15 (zeros32 16) W (by decide) (by decide) (HRV.out.on hx) hf (by decide) z16_byt exIn (by rw [ex_fault]; constructor <;> decide) (by rw [ex_fault]; decide) (HK.out.ext (HX.out.trans hx)))
  rw [ex_fault, ex_served, hgv] at HSv
  have hsv : servE [gv] = 0 := if_neg (by simp)
  rw [hsv] at HSv
  clear hgv
  go_upto_region 9 with (go_at_call 35; refine (HSv.out (some ⟨W4.heap.size + (xk.comp xj).n, 0, none⟩) _ (((HX4.out.onto _).alloc _)) (reads_freshAt fauE [exF] _ _ _ _ (later_size _ _).symm rfl)).mono ?_; rintro e w8 ⟨A8, c8, rfl, hr8, hx8⟩; have HR8 := Lib.hid hr8; have HX8 := Lib.hid hx8; clear hr8 hx8)
  clear HSv
  have hx28 : Ext W2 w8 := ((HX4.out.onto _).alloc _).trans HX8.out
  have HX28 := Lib.hid hx28
  obtain ⟨b8, o8, rfl, hb8, hc8⟩ := HR8.out (by simp)
  have d0 : w8.cell? ⟨b8, o8, none⟩ = some (.int .i64 22) := by
    have h := hc8 0 (by simp) 0 (.int .i64 gv.1) rfl
    rw [hg1] at h
    simpa using h
  have d19 : w8.cell? ⟨b8, o8 + 1 + 18, none⟩ = some (.string ⟨#[97, 98, 100]⟩) := by
    have h := hc8 0 (by simp) 19 (.string gv.2.bytes) rfl
    rw [hgb] at h
    simpa [Nat.add_assoc] using h
  have d19' : w8.cell? ⟨b8, o8 + 19, none⟩ = some (.string ⟨#[97, 98, 100]⟩) := d19
  clear hc8 HR8 hx28
  go_upto_region 10 with (fail)
  go_upto_region 11 with (fail)
  clear d0 d19 d19' hb8 hgb hg1
  obtain ⟨b14, hb14⟩ : ∃ n, w8.heap.size = n := ⟨_, rfl⟩
  refine wp_world (fun W => Ext W2 W ∧ RowAt W w8.heap.size (kyC exK)) ⟨((HX28.out.alloc _).setCells (by have := HX28.out.size; omega) _ _), RowAt.store (RowAt.new _ _ _) rfl⟩ ?_
  rw [hb14]
  clear hb14
  rintro W9 ⟨x9, u9⟩
  have HX9 := Lib.hid x9
  have k9 : rowOf W9 b14 0 5 = some (kyC exK) := u9.all rfl (by omega)
  have hl9 := u9.lt
  have hsx9 := x9.size
  clear x9 u9
  have HAz : Hid (∀ (W : World) (hx : Ext W2 W), Calls Tryz.prog 19 #[.slice (some ⟨b, 0, none⟩) exV.length 2, .int .i64 15, .agg (dgC (zeros32 16))] W fun e w' => e = .returned (.agg (anC exAn)) ∧ Ext W w') := Lib.hid (fun W hx => by
    have h := oanswer_any (some ⟨b, 0, none⟩) 2 exV 15 (zeros32 16) W (by decide) (HRV.out.on hx) (by decide) z16_byt (exIn 15) (HK.out.ext (HX.out.trans hx))
    rw [ex_ans] at h
    exact h)
  have HSt : Hid (∀ (W : World) (hx : Ext W2 W), Calls Tryz.prog 39 #[.agg (kyC exK), .string acmeA, .string ByteArray.empty, .agg (anC exAn), .agg (clkC ⟨15, 16⟩), .agg (clkC ⟨20, 30⟩)] W fun e w' => e = .returned (.tuple #[.agg (stmC exS), .int .i64 0]) ∧ Ext W w') := Lib.hid (fun W hx => by
    have h := ostamp_any exK acmeA ByteArray.empty exAn ⟨15, 16⟩ ⟨20, 30⟩ acmeA 0 W (dgN_len _) (dgN_byt _) (by decide) (by decide) (fun _ => ⟨ex_ints, ex_lens, by decide⟩) (HK.out.ext (HX.out.trans hx)) (fun W' hx' => HC.out W' (HX.out.trans (hx.trans hx')))
    rw [ex_stamp] at h
    exact h)
  refine wp_region_rowN 13 (by kernel_rfl) 10 11 (fun i => ([.agg (kyC exK), .slice (some ⟨b, 0, none⟩) exV.length 2, .agg (dgC (zeros32 16)), .agg (anC exAn), .agg (clkC ⟨15, 16⟩), .agg (clkC ⟨20, 30⟩), .tuple #[.agg (stmC exS), .int .i64 0], .tuple #[.agg (stmC exS), .int .i64 0], .agg (stmC exS), .int .i64 0, undef, undef, .int .i64 0] : List Value).getD i undef) (stmC exS) (by kernel_rfl) (by kernel_rfl) (by decide) (of_decide_eq_true (by kernel_rfl)) (of_decide_eq_true (by kernel_rfl)) (of_decide_eq_true (by kernel_rfl)) (lt_cons ?_ (lt_cons ?_ (lt_cons ?_ (lt_cons ?_ (lt_cons ?_ (lt_cons ?_ (lt_cons ?_ (lt_cons ?_ (lt_cons ?_ (lt_cons ?_ (lt_cons ?_ (lt_cons ?_ (lt_cons ?_ lt_none))))))))))))) ?_ ?_ ?_
  ·
    intro _ _
    intro o ho xs W hW hd Q' hQ; obtain rfl := Option.some.inj ho; clear ho; simp only [fillAt, dstOf, List.getElem?_cons_zero, List.getElem?_cons_succ, Option.bind_some, Act.put, List.setIfInBounds_toArray, List.set_cons_zero, List.set_cons_succ, Nat.zero_add, Nat.reduceAdd] at hQ ⊢; have HQ := Lib.hid hQ; have HD := Lib.hid hd; have HW := Lib.hid hW; have hsW := hW.size; clear hQ hd hW
    have hc := (row_extW HW.out (b := b14) (by omega) 0 5).trans k9
    go_wp2
    exact HQ.out _ _ (Ext.refl _) rfl
  ·
    intro _ _
    intro o ho xs W hW hd Q' hQ; obtain rfl := Option.some.inj ho; clear ho; simp only [fillAt, dstOf, List.getElem?_cons_zero, List.getElem?_cons_succ, Option.bind_some, Act.put, List.setIfInBounds_toArray, List.set_cons_zero, List.set_cons_succ, Nat.zero_add, Nat.reduceAdd] at hQ ⊢; have HQ := Lib.hid hQ; have HD := Lib.hid hd; have HW := Lib.hid hW; have hsW := hW.size; clear hQ hd hW
    go_wp2
    exact HQ.out _ _ (Ext.refl _) rfl
  ·
    intro _ _
    intro o ho xs W hW hd Q' hQ; obtain rfl := Option.some.inj ho; clear ho; simp only [fillAt, dstOf, List.getElem?_cons_zero, List.getElem?_cons_succ, Option.bind_some, Act.put, List.setIfInBounds_toArray, List.set_cons_zero, List.set_cons_succ, Nat.zero_add, Nat.reduceAdd] at hQ ⊢; have HQ := Lib.hid hQ; have HD := Lib.hid hd; have HW := Lib.hid hW; have hsW := hW.size; clear hQ hd hW
    go_wp2
    exact HQ.out _ _ (Ext.refl _) rfl
  ·
    intro _ _
    intro o ho xs W hW hd Q' hQ; obtain rfl := Option.some.inj ho; clear ho; simp only [fillAt, dstOf, List.getElem?_cons_zero, List.getElem?_cons_succ, Option.bind_some, Act.put, List.setIfInBounds_toArray, List.set_cons_zero, List.set_cons_succ, Nat.zero_add, Nat.reduceAdd] at hQ ⊢; have HQ := Lib.hid hQ; have HD := Lib.hid hd; have HW := Lib.hid hW; have hsW := hW.size; clear hQ hd hW
    have hd1 : xs 1 = .slice (some ⟨b, 0, none⟩) exV.length 2 := (HD.out 1 (of_decide_eq_true (by kernel_rfl)))
    generalize xs 1 = x1 at hd1 HQ ⊢; subst hd1
    have hd2 : xs 2 = .agg (dgC (zeros32 16)) := (HD.out 2 (of_decide_eq_true (by kernel_rfl)))
    generalize xs 2 = x2 at hd2 HQ ⊢; subst hd2
    go_wp2_with (go_at_call 19; refine (HAz.out _ (HX9.out.trans HW.out)).mono ?_; rintro e w1 ⟨rfl, hx⟩)
    exact HQ.out _ _ hx rfl
  ·
    intro _ _
    intro o ho xs W hW hd Q' hQ; obtain rfl := Option.some.inj ho; clear ho; simp only [fillAt, dstOf, List.getElem?_cons_zero, List.getElem?_cons_succ, Option.bind_some, Act.put, List.setIfInBounds_toArray, List.set_cons_zero, List.set_cons_succ, Nat.zero_add, Nat.reduceAdd] at hQ ⊢; have HQ := Lib.hid hQ; have HD := Lib.hid hd; have HW := Lib.hid hW; have hsW := hW.size; clear hQ hd hW
    go_wp2
    exact HQ.out _ _ (Ext.refl _) rfl
  ·
    intro _ _
    intro o ho xs W hW hd Q' hQ; obtain rfl := Option.some.inj ho; clear ho; simp only [fillAt, dstOf, List.getElem?_cons_zero, List.getElem?_cons_succ, Option.bind_some, Act.put, List.setIfInBounds_toArray, List.set_cons_zero, List.set_cons_succ, Nat.zero_add, Nat.reduceAdd] at hQ ⊢; have HQ := Lib.hid hQ; have HD := Lib.hid hd; have HW := Lib.hid hW; have hsW := hW.size; clear hQ hd hW
    go_wp2
    exact HQ.out _ _ (Ext.refl _) rfl
  ·
    intro _ _
    intro o ho xs W hW hd Q' hQ; obtain rfl := Option.some.inj ho; clear ho; simp only [fillAt, dstOf, List.getElem?_cons_zero, List.getElem?_cons_succ, Option.bind_some, Act.put, List.setIfInBounds_toArray, List.set_cons_zero, List.set_cons_succ, Nat.zero_add, Nat.reduceAdd] at hQ ⊢; have HQ := Lib.hid hQ; have HD := Lib.hid hd; have HW := Lib.hid hW; have hsW := hW.size; clear hQ hd hW
    have hd0 : xs 0 = .agg (kyC exK) := (HD.out 0 (of_decide_eq_true (by kernel_rfl)))
    generalize xs 0 = x0 at hd0 HQ ⊢; subst hd0
    have hd3 : xs 3 = .agg (anC exAn) := (HD.out 3 (of_decide_eq_true (by kernel_rfl)))
    generalize xs 3 = x3 at hd3 HQ ⊢; subst hd3
    have hd4 : xs 4 = .agg (clkC ⟨15, 16⟩) := (HD.out 4 (of_decide_eq_true (by kernel_rfl)))
    generalize xs 4 = x4 at hd4 HQ ⊢; subst hd4
    have hd5 : xs 5 = .agg (clkC ⟨20, 30⟩) := (HD.out 5 (of_decide_eq_true (by kernel_rfl)))
    generalize xs 5 = x5 at hd5 HQ ⊢; subst hd5
    go_wp2_with (go_at_call 39; refine (HSt.out _ (HX9.out.trans HW.out)).mono ?_; rintro e w1 ⟨rfl, hx⟩)
    exact HQ.out _ _ hx rfl
  ·
    intro _ _
    intro o ho xs W hW hd Q' hQ; obtain rfl := Option.some.inj ho; clear ho; simp only [fillAt, dstOf, List.getElem?_cons_zero, List.getElem?_cons_succ, Option.bind_some, Act.put, List.setIfInBounds_toArray, List.set_cons_zero, List.set_cons_succ, Nat.zero_add, Nat.reduceAdd] at hQ ⊢; have HQ := Lib.hid hQ; have HD := Lib.hid hd; have HW := Lib.hid hW; have hsW := hW.size; clear hQ hd hW
    have hd6 : xs 6 = (.tuple #[.agg (stmC exS), .int .i64 0]) := (HD.out 6 (of_decide_eq_true (by kernel_rfl)))
    generalize xs 6 = x6 at hd6 HQ ⊢; subst hd6
    go_wp2
    exact HQ.out _ _ (Ext.refl _) rfl
  ·
    intro _ _
    intro o ho xs W hW hd Q' hQ; obtain rfl := Option.some.inj ho; clear ho; simp only [fillAt, dstOf, List.getElem?_cons_zero, List.getElem?_cons_succ, Option.bind_some, Act.put, List.setIfInBounds_toArray, List.set_cons_zero, List.set_cons_succ, Nat.zero_add, Nat.reduceAdd] at hQ ⊢; have HQ := Lib.hid hQ; have HD := Lib.hid hd; have HW := Lib.hid hW; have hsW := hW.size; clear hQ hd hW
    have hd7 : xs 7 = (.tuple #[.agg (stmC exS), .int .i64 0]) := (HD.out 7 (of_decide_eq_true (by kernel_rfl)))
    generalize xs 7 = x7 at hd7 HQ ⊢; subst hd7
    go_wp2
    exact HQ.out _ _ (Ext.refl _) rfl
  ·
    intro _ _
    intro o ho xs W hW hd Q' hQ; obtain rfl := Option.some.inj ho; clear ho; simp only [fillAt, dstOf, List.getElem?_cons_zero, List.getElem?_cons_succ, Option.bind_some, Act.put, List.setIfInBounds_toArray, List.set_cons_zero, List.set_cons_succ, Nat.zero_add, Nat.reduceAdd] at hQ ⊢; have HQ := Lib.hid hQ; have HD := Lib.hid hd; have HW := Lib.hid hW; have hsW := hW.size; clear hQ hd hW
    have hd7 : xs 7 = (.tuple #[.agg (stmC exS), .int .i64 0]) := (HD.out 7 (of_decide_eq_true (by kernel_rfl)))
    generalize xs 7 = x7 at hd7 HQ ⊢; subst hd7
    go_wp2
    exact HQ.out _ _ (Ext.refl _) rfl
  · exact fun h => absurd rfl h
  · exact fun _ h => absurd rfl h
  ·
    intro _ _
    intro o ho xs W hW hd Q' hQ; obtain rfl := Option.some.inj ho; clear ho; simp only [fillAt, dstOf, List.getElem?_cons_zero, List.getElem?_cons_succ, Option.bind_some, Act.put, List.setIfInBounds_toArray, List.set_cons_zero, List.set_cons_succ, Nat.zero_add, Nat.reduceAdd] at hQ ⊢; have HQ := Lib.hid hQ; have HD := Lib.hid hd; have HW := Lib.hid hW; have hsW := hW.size; clear hQ hd hW
    have hd9 : xs 9 = .int .i64 0 := (HD.out 9 (of_decide_eq_true (by kernel_rfl)))
    generalize xs 9 = x9 at hd9 HQ ⊢; subst hd9
    go_wp2
    exact HQ.out _ _ (Ext.refl _) rfl
  ·
    intro o ho xs W hW hd Q' hQ; obtain rfl := Option.some.inj ho; clear ho; simp only [fillAt, dstOf, List.getElem?_cons_zero, List.getElem?_cons_succ, Option.bind_some, Act.put, List.setIfInBounds_toArray, List.set_cons_zero, List.set_cons_succ, Nat.zero_add, Nat.reduceAdd] at hQ ⊢; have HQ := Lib.hid hQ; have HD := Lib.hid hd; have HW := Lib.hid hW; have hsW := hW.size; clear hQ hd hW
    go_wp2
    exact HQ.out _ _ ((Ext.refl _).alloc _) ⟨W.heap.size, rfl, by omega, _, RowAt.new _ _ _, rfl⟩
  ·
    intro o ho xs W hW hd Q' hQ; obtain rfl := Option.some.inj ho; clear ho; simp only [fillAt, dstOf, List.getElem?_cons_zero, List.getElem?_cons_succ, Option.bind_some, Act.put, List.setIfInBounds_toArray, List.set_cons_zero, List.set_cons_succ, Nat.zero_add, Nat.reduceAdd] at hQ ⊢; have HQ := Lib.hid hQ; have HD := Lib.hid hd; have HW := Lib.hid hW; have hsW := hW.size; clear hQ hd hW
    have hd8 : xs 8 = .agg (stmC exS) := (HD.out 8 (of_decide_eq_true (by kernel_rfl)))
    obtain ⟨b15, h10, hb15, ds, hr15, hz15⟩ : ∃ b, xs 10 = .pointer (some ⟨b, 0, none⟩) ∧ W9.heap.size ≤ b ∧ ∃ ds, RowAt W b ds ∧ ds.size = (stmC exS).size := (HD.out 10 (of_decide_eq_true (by kernel_rfl)))
    have hrm : roomOf W b15 0 41 = true := by rw [hr15.room, hz15]; rfl
    have hft := stm_fits exS
    generalize xs 8 = x8 at hd8 HQ ⊢; subst hd8
    generalize xs 10 = x10 at h10 HQ ⊢; subst h10
    clear hr15 hz15
    go_wp2
    exact HQ.out undef b15 rfl
  intro xs W10 b15 hx10 h10 hb15 hr15 hvs
  have h12 : xs 12 = .int .i64 0 := hvs 12 (of_decide_eq_true (by kernel_rfl)) (by decide) (by decide)
  simp only [fillAt, dstOf, List.getElem?_cons_zero, List.getElem?_cons_succ, Option.bind_some, Act.put, List.setIfInBounds_toArray, List.set_cons_zero, List.set_cons_succ, Nat.zero_add, Nat.reduceAdd]
  generalize xs 12 = x12 at *; subst h12
  generalize xs 10 = x10 at *; subst h10
  have HX10 := Lib.hid (HX9.out.trans hx10)
  have HR15 := Lib.hid hr15
  have hl15 := hr15.lt
  clear hx10 hr15 hvs HAz HSt k9
  have k15 : rowOf W10 b15 0 41 = some (stmC exS) := HR15.out.all rfl (by omega)
  have hft := stm_fits exS
  have e21 : (stmC exS).setIfInBounds 21 (.int .i64 20) = stmC { exS with lo := 20 } := by kernel_rfl
  go_upto_region 14 with (fail)
  refine wp_world (fun W => Ext W2 W ∧ RowAt W b15 (stmC exS) ∧ RowAt W W10.heap.size (stmC { exS with lo := 20 })) ⟨?_, ?_, ?_⟩ ?_
  · exact (((HX10.out.alloc _).setCells (by have := HX10.out.size; omega) _ _).setCell (by have := HX10.out.size; show _ ≤ W10.heap.size; omega) _)
  · exact ((HR15.out.alloc _).others (by omega) _ _).other (by show b15 ≠ W10.heap.size; omega) _
  · have h := (((RowAt.new W10 (stmC noSt) 48).store (ds := stmC exS) rfl).set 21 (.int .i64 20))
    rw [e21] at h
    exact h
  obtain ⟨b17, hb17⟩ : ∃ n, W10.heap.size = n := ⟨_, rfl⟩
  rw [hb17]
  clear e21 k15 hft
  rintro W11 ⟨x11, u15, u17⟩
  have HX11 := Lib.hid x11
  have k21 : W11.cell? ⟨b15, 21, none⟩ = some (.int .i64 15) := u15.cell 21
  have k22 : W11.cell? ⟨b15, 22, none⟩ = some (.int .i64 30) := u15.cell 22
  have k23 : W11.cell? ⟨b15, 23, none⟩ = some (.int .i64 7) := u15.cell 23
  have k15 : rowOf W11 b15 0 41 = some (stmC exS) := u15.all rfl (by omega)
  have k17 : rowOf W11 b17 0 41 = some (stmC { exS with lo := 20 }) := u17.all rfl (by omega)
  have hl15' := u15.lt
  have hl17 := u17.lt
  clear x11 u15 u17
  have P1 : Hid (exS.lo ≤ exS.hi ∧ exS.body.length = 16 ∧ Byt exS.body) := Lib.hid ⟨by decide, dgN_len _, dgN_byt _⟩
  have P2 : Hid (({ exS with lo := 20 } : St).lo ≤ ({ exS with lo := 20 } : St).hi ∧ ({ exS with lo := 20 } : St).body.length = 16 ∧ Byt ({ exS with lo := 20 } : St).body) := Lib.hid ⟨by decide, dgN_len _, dgN_byt _⟩
  have tr1 : (meanN exV exS.lo exS.hi).any (saysB exS) = true := true_1
  have tr2 : (meanN exV ({ exS with lo := 20 } : St).lo ({ exS with lo := 20 } : St).hi).any (saysB { exS with lo := 20 }) = false := true_2
  generalize hS2 : ({ exS with lo := 20 } : St) = S2 at *
  clear hS2
  generalize exS = S1 at *
  have HTr := Lib.hid (fun (s : St) (W : World) (hx : Ext W2 W) (h : Hid (s.lo ≤ s.hi ∧ s.body.length = 16 ∧ Byt s.body)) => otrue_any (some ⟨b, 0, none⟩) 2 exV s W (by decide) (by decide) (by decide) (fun h => by cases h) (HRV.out.on hx) (fun a h => by cases h; rfl) (by intro v hv; simp only [exV, List.mem_cons, List.not_mem_nil, or_false] at hv; rcases hv with rfl | rfl <;> (show (_ : Nat) ≤ _; decide)) h.out.1 h.out.2.1 h.out.2.2 (HK.out.ext (HX.out.trans hx)))
  go_wp2_with (go_at_call 22; refine (HTr.out _ _ ((by (repeat (first | with_reducible exact HX11.out | with_reducible exact Ext.refl _ | with_reducible refine Ext.drew ?_ | with_reducible refine Ext.drewN ?_ _ | with_reducible refine Ext.alloc ?_ _ | with_reducible refine Ext.onto ?_ _ | (with_reducible refine Ext.setCells ?_ ?_ _ _; rotate_left; focus (first | omega | (simp; done) | (simp; omega))) | (with_reducible refine Ext.setCell ?_ ?_ _; rotate_left; focus (first | omega | (simp; done) | (simp; omega))))))) (by first | exact P1 | exact P2)).mono ?_; rintro e w' ⟨rfl, hxl⟩; obtain ⟨xl, rfl⟩ := hxl.asLater; clear hxl)
  go_ret
  exact ⟨rfl, HX.out.trans (HX11.out.onto _)⟩
end Go.Proofs.YtpjacgcaibaggaaGreatDoor


set_option linter.unusedVariables false
set_option linter.unusedSimpArgs false
namespace Go.Proofs.YtpjacgcaibaggaaGreatDoor
open Go.RowKit Go.Shelf
open Go.Proofs

theorem sanity34 (w : World) (hk : Konst 0 w) : Calls Tryz.prog 11 #[] w fun e w' => e = .returned (.bool true) ∧ Ext w w' := osanity_any w hk (fun W _ => canon_acme W)
def smallV (v : Ver) : Bool := decide (v.bytes.size ≤ 100) && decide (v.tags.size ≤ 100)
def fewB (l : List Ver) (n : Int) : Bool := l.all smallV && decide ((l.length : Int) ≤ n)
theorem few_is {l : List Ver} {n : Int} (h : fewB l n = true) : (∀ v ∈ l, v.bytes.size ≤ 100 ∧ v.tags.size ≤ 100) ∧ (l.length : Int) ≤ n := by
  simp only [fewB, Bool.and_eq_true, decide_eq_true_eq, List.all_eq_true] at h
  refine ⟨fun v hv => ?_, h.2⟩
  have := h.1 v hv
  simpa [smallV] using this
theorem all_snocV {l : List Ver} {k : Nat} (h : k < l.length) (h0 : (l.take k).all smallV = true) (h1 : smallV l[k] = true) : (l.take (k + 1)).all smallV = true := by
  rw [List.take_succ_eq_append_getElem h, List.all_append, h0]
  simpa using h1
set_option maxHeartbeats 1000000 in
theorem few_any (A : Option Addr) (c : Nat) (l : List Ver) (n : Int) (w : World) (hl : l.length ≤ 9223372036854775807) (hz : ∀ v ∈ l, v.bytes.size ≤ 9223372036854775807 ∧ v.tags.size ≤ 9223372036854775807) (hr : ReadsVer w w.heap.size A l) :
    Calls Tryz.prog 10 #[.slice A l.length c, .int .i64 n] w fun e w' => e = .returned (.bool (fewB l n)) ∧ Ext w w' := by
  have HR := Lib.hid hr
  have HZ := Lib.hid hz
  clear hr hz
  go_enter Tryz.func10, Tryz.ntmps10
  go_wp2
  go_loopw [5] (fun i wr => ∃ k : Nat, k ≤ l.length ∧ i = .int .i64 k ∧ Hid ((l.take k).all smallV = true) ∧ Hid (Ext w wr)) (fun i _ => l.length - (intOf i).toNat)
  case atStart => exact ⟨0, Nat.zero_le _, rfl, Lib.hid rfl, Lib.hid (Ext.refl _)⟩
  case round =>
    obtain ⟨k, hk, rfl, HJ, HX⟩ := hrel
    by_cases hlt : k < l.length
    · obtain ⟨b, off, rfl, hb, hrow, hcl⟩ := ReadsVer.cell (HR.out.ext HX.out (Nat.le_refl _)) k hlt
      obtain ⟨hz1, hz2⟩ := HZ.out _ (List.getElem_mem hlt)
      have hsz := HX.out.size
      have hb2 : b < wr.heap.size := by omega
      have g2 : wr.cell? ⟨b, off + k * 4 + 2, none⟩ = some (.string l[k].bytes) := by
        have h := rowOf_cell hrow (i := 2) (by omega)
        exact h
      have g3 : wr.cell? ⟨b, off + k * 4 + 3, none⟩ = some (.string l[k].tags) := by
        have h := rowOf_cell hrow (i := 3) (by omega)
        exact h
      have HSn := Lib.hid (fun h => all_snocV hlt HJ.out h)
      have HNo : Hid (smallV l[k] = false → fewB l n = false) := Lib.hid (fun h => by
        unfold fewB
        rw [Bool.and_eq_false_iff]
        exact .inl (List.all_eq_false.2 ⟨l[k], List.getElem_mem hlt, by simp [h]⟩))
      generalize l[k] = v at *
      by_cases h1 : 100 < v.bytes.size
      · have d1 : decide ((100 : Int) < (v.bytes.size : Int)) = true := by simp; omega
        have HF := Lib.hid (HNo.out (by unfold smallV; rw [Bool.and_eq_false_iff]; exact .inl (by simpa using h1)))
        clear HSn HNo
        go_wp2
        go_ret
        exact ⟨ret_bool HF.out.symm, HX.out⟩
      · have d1 : decide ((100 : Int) < (v.bytes.size : Int)) = false := by simp; omega
        by_cases h2 : 100 < v.tags.size
        · have d2 : decide ((100 : Int) < (v.tags.size : Int)) = true := by simp; omega
          have HF := Lib.hid (HNo.out (by unfold smallV; rw [Bool.and_eq_false_iff]; exact .inr (by simpa using h2)))
          clear HSn HNo
          go_wp2
          go_ret
          exact ⟨ret_bool HF.out.symm, HX.out⟩
        · have d2 : decide ((100 : Int) < (v.tags.size : Int)) = false := by simp; omega
          have HN := Lib.hid (HSn.out (by unfold smallV; simp; omega))
          clear HSn HNo
          go_wp2
          go_roundw
          case rel => exact ⟨k + 1, by omega, by go_num, HN, HX⟩
          case measure => simp [intOf]; omega
    · have HN : Hid (fewB l n = decide ((l.length : Int) ≤ n)) := Lib.hid (by
        have h := HJ.out
        rw [List.take_of_length_le (by omega)] at h
        unfold fewB; rw [h]; rfl)
      go_wp2
      go_ret
      exact ⟨ret_bool (by rw [HN.out]), HX.out⟩
theorem rinst34 (t : Int) (w : World) : Calls Tryz.prog 14 #[.int .i64 t] w fun e w' => e = .returned (.bool (instB t)) ∧ Ext w w' := by
  have H := Lib.hid (fun W => rinst_any t W)
  generalize instB t = b at *
  go_enter Tryz.func14, Tryz.ntmps14
  go_wp2_with (go_at_call 50; refine (H.out _).mono ?_; rintro e w' ⟨rfl, rfl⟩)
  go_ret
  exact ⟨rfl, (by (repeat (first | with_reducible exact Ext.refl _ | with_reducible exact Ext.refl _ | with_reducible refine Ext.drew ?_ | with_reducible refine Ext.drewN ?_ _ | with_reducible refine Ext.alloc ?_ _ | with_reducible refine Ext.onto ?_ _ | (with_reducible refine Ext.setCells ?_ ?_ _ _; rotate_left; focus (first | omega | (simp; done) | (simp; omega))) | (with_reducible refine Ext.setCell ?_ ?_ _; rotate_left; focus (first | omega | (simp; done) | (simp; omega))))))⟩
end Go.Proofs.YtpjacgcaibaggaaGreatDoor
