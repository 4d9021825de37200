/- Keys of a ring: seal.place, Find, counts. -/
import Derived.Test.YtpfhmcdcmepfdaaGreatDoorProg
import Derived.Test.YtpfhmcdcmepfdaaGreatDoorKSpv
import Derived.WalkKit
import Derived.WalkSpells
import Derived.WalkLawsBesides
import Derived.Deep.QuietTactic
import Derived.BigQuiet
import Derived.Test.YtpfhmcdcmepfdaaGreatDoorKWa
import Derived.Test.YtpfhmcdcmepfdaaGreatDoorKSld
set_option linter.unusedVariables false
set_option linter.unusedSimpArgs false
namespace Go.Proofs.YtpfhmcdcmepfdaaGreatDoor
open Go.RowKit Go.Shelf
open Go.Proofs

def verFld (v : Value) : Sem Next := do pure (.value (← Instr.field 107 v 2))
theorem verFld_x (ρ : Operand → Value) (dst : Option Tmp) (x : Operand) (t : TypeId) (pos : String) (after : Array Edge) (guard : Option (Nat × Bool)) : execOp ρ { dst, op := .field 107 x 2, type := t, pos, after, guard } = verFld (ρ x) := by kernel_rfl
theorem verFld_run (v : Ver) (W : World) : (verFld (.agg (verC v))).run Tryz.prog W = .ok (.value (.string v.bytes)) W := by kernel_rfl
attribute [go_sem ↓] verFld_x
attribute [go_sem] verFld_run
def partE (v : Ver) (known : List Int) (f t : Int) : Int := if dgN v.bytes = known then (if 0 ≤ f ∧ f ≤ t ∧ t ≤ v.bytes.size then 0 else 1) else 341
def partS (v : Ver) (known : List Int) (f t : Int) : ByteArray := if partE v known f t = 0 then v.bytes.extract f.toNat t.toNat else ⟨#[]⟩
set_option maxRecDepth 100000 in
set_option maxHeartbeats 2000000 in
theorem opart_any (A : Option Addr) (c : Nat) (l : List Ver) (t : Int) (known : List Int) (f u : Int) (w : World) (hl : l.length ≤ 100000) (hr : ReadsVer w w.heap.size A l) (h16 : known.length = 16) (hby : Byt known) (hv : VerIn (atN l t)) (hk : Konst 1 w) :
    Calls Tryz.prog 44 #[.slice A l.length c, .int .i64 t, .agg (dgC known), .agg #[.int .i64 f, .int .i64 u]] w fun e w' => e = .returned (.tuple #[.string (partS (atN l t) known f u), .int .i64 (partE (atN l t) known f u)]) ∧ Ext w w' := by
  have HA := Lib.hid (fun (W : World) (hx : Ext w W) => oat_any A c l t W hl (hr.on hx))
  have HK := Lib.hid hk
  clear hr hk
  generalize atN l t = v at *
  obtain ⟨D, hD⟩ : ∃ D, dgN v.bytes = D := ⟨_, rfl⟩
  have HDg := Lib.hid (fun (W : World) (hx : Ext w W) => odig_d v.bytes D W (RowAt.ext HK.out hx) hv hD)
  have hneq := neq_dd (a := D) (b := known) (by rw [← hD]; exact dgN_len _) h16 (by rw [← hD]; exact dgN_byt _) hby
  have hvs : v.bytes.size ≤ 140737488351200 := hv
  by_cases hE : D = known
  · rw [show decide (D = known) = true by simpa using hE] at hneq
    by_cases hc : 0 ≤ f ∧ f ≤ u ∧ u ≤ v.bytes.size
    · have HE : Hid (partE v known f u = 0) := Lib.hid (by unfold partE; rw [hD, if_pos hE, if_pos hc])
      have HS : Hid (partS v known f u = v.bytes.extract f.toNat u.toNat) := Lib.hid (by unfold partS; rw [HE.out]; rfl)
      obtain ⟨h1, h2, h3⟩ := hc
      obtain ⟨p, rfl⟩ : ∃ p : Nat, f = p := ⟨f.toNat, by omega⟩
      obtain ⟨q, rfl⟩ : ∃ q : Nat, u = q := ⟨u.toNat, by omega⟩
      have d1 : decide ((0 : Int) ≤ (p : Int)) = true := by simp
      have d2 : decide ((p : Int) ≤ (q : Int)) = true := by simp; omega
      have d3 : decide ((q : Int) ≤ (v.bytes.size : Int)) = true := by simp; omega
      rw [HE.out, HS.out, Int.toNat_natCast, Int.toNat_natCast]
      clear hE hD h16 hby
      go_enter Tryz.func44, Tryz.ntmps44
      go_wp2_with (go_at_call 42; refine (HA.out _ (by (repeat (first | with_reducible exact Ext.refl _ | with_reducible exact Ext.refl _ | with_reducible refine Ext.drew ?_ | with_reducible refine Ext.drewN ?_ _ | with_reducible refine Ext.alloc ?_ _ | with_reducible refine Ext.onto ?_ _ | (with_reducible refine Ext.setCells ?_ ?_ _ _; rotate_left; focus (first | omega | (simp; done) | (simp; omega))) | (with_reducible refine Ext.setCell ?_ ?_ _; rotate_left; focus (first | omega | (simp; done) | (simp; omega))))))).mono ?_; rintro e w' ⟨rfl, hxl⟩; obtain ⟨xl, rfl⟩ := hxl.asLater; clear hxl)
      refine wp_world (fun W => Ext w W ∧ RowAt W w.heap.size (dgC known) ∧ RowAt W (w.heap.size + 1) #[.int .i64 (p : Int), .int .i64 (q : Int)]) ⟨(by (repeat (first | with_reducible exact Ext.refl _ | with_reducible exact Ext.refl _ | with_reducible refine Ext.drew ?_ | with_reducible refine Ext.drewN ?_ _ | with_reducible refine Ext.alloc ?_ _ | with_reducible refine Ext.onto ?_ _ | (with_reducible refine Ext.setCells ?_ ?_ _ _; rotate_left; focus (first | omega | (simp; done) | (simp; omega))) | (with_reducible refine Ext.setCell ?_ ?_ _; rotate_left; focus (first | omega | (simp; done) | (simp; omega)))))), (by (repeat (first | with_reducible exact RowAt.new _ _ _ | with_reducible refine RowAt.drew ?_ | with_reducible refine RowAt.later ?_ _ | with_reducible exact RowAt.newAt (by first | rfl | omega | (simp [later_size, setCells_size]; done) | (simp [later_size, setCells_size]; omega)) | with_reducible refine RowAt.alloc ?_ _ | with_reducible apply RowAt.store | with_reducible refine RowAt.others ?_ ?_ _ _ | with_reducible refine RowAt.other ?_ ?_ _)); all_goals first | omega | (simp; done) | (simp; omega) | (simp [go_sem]; done)), (RowAt.newAt (by simp)).later _⟩ ?_
      rintro W1 ⟨x1, r1, s1⟩
      have HX1 := Lib.hid x1
      have hk1 : rowOf W1 w.heap.size 0 16 = some (dgC known) := r1.all rfl (by omega)
      have s0 : W1.cell? ⟨w.heap.size + 1, 0, none⟩ = some (.int .i64 (p : Int)) := s1.cell 0
      have s2 : W1.cell? ⟨w.heap.size + 1, 1, none⟩ = some (.int .i64 (q : Int)) := s1.cell 1
      have hls := s1.lt
      have hlr := r1.lt
      clear x1 r1 s1
      refine wp_region_later (by kernel_rfl) (by kernel_rfl) ?_
      repeat (first | go_big_quiet_step ((go_at_call 40; exact quietE (HDg.out _ (HX1.out.onto _)))) | quiet_step ((go_at_call 40; exact quietE (HDg.out _ (HX1.out.onto _)))))
      refine wpQuiet_nil ?_
      rintro _ ⟨xq, rfl⟩
      go_wp2_with (go_at_call 47; refine (oall3 _ _ _ _ _ _ (later_size _ _).symm).mono ?_; rintro e w' ⟨rfl, hxl⟩; obtain ⟨xl, rfl⟩ := hxl.asLater; clear hxl)
      refine bodyPost_ret (v := .tuple #[.string (v.bytes.extract p q), .int .i64 0]) ?_ rfl ⟨rfl, (by (repeat (first | with_reducible exact HX1.out | with_reducible exact Ext.refl _ | with_reducible refine Ext.drew ?_ | with_reducible refine Ext.drewN ?_ _ | with_reducible refine Ext.alloc ?_ _ | with_reducible refine Ext.onto ?_ _ | (with_reducible refine Ext.setCells ?_ ?_ _ _; rotate_left; focus (first | omega | (simp; done) | (simp; omega))) | (with_reducible refine Ext.setCell ?_ ?_ _; rotate_left; focus (first | omega | (simp; done) | (simp; omega))))))⟩
      simp [results, Tryz.results44, go_sem, ↓IntWalk.iteOmega]
    · have HE : Hid (partE v known f u = 1) := Lib.hid (by unfold partE; rw [hD, if_pos hE, if_neg hc])
      have HS : Hid (partS v known f u = ⟨#[]⟩) := Lib.hid (by unfold partS; rw [HE.out]; rfl)
      have hf : ((decide ((0 : Int) ≤ f) && decide (f ≤ u)) && decide (u ≤ (v.bytes.size : Int))) = false := by
        rw [Bool.eq_false_iff]
        intro h
        simp only [Bool.and_eq_true, decide_eq_true_eq] at h
        exact hc ⟨h.1.1, h.1.2, h.2⟩
      rw [HE.out, HS.out]
      clear hc
      clear hE hD h16 hby
      go_enter Tryz.func44, Tryz.ntmps44
      go_wp2_with (go_at_call 42; refine (HA.out _ (by (repeat (first | with_reducible exact Ext.refl _ | with_reducible exact Ext.refl _ | with_reducible refine Ext.drew ?_ | with_reducible refine Ext.drewN ?_ _ | with_reducible refine Ext.alloc ?_ _ | with_reducible refine Ext.onto ?_ _ | (with_reducible refine Ext.setCells ?_ ?_ _ _; rotate_left; focus (first | omega | (simp; done) | (simp; omega))) | (with_reducible refine Ext.setCell ?_ ?_ _; rotate_left; focus (first | omega | (simp; done) | (simp; omega))))))).mono ?_; rintro e w' ⟨rfl, hxl⟩; obtain ⟨xl, rfl⟩ := hxl.asLater; clear hxl)
      refine wp_world (fun W => Ext w W ∧ RowAt W w.heap.size (dgC known) ∧ RowAt W (w.heap.size + 1) #[.int .i64 f, .int .i64 u]) ⟨(by (repeat (first | with_reducible exact Ext.refl _ | with_reducible exact Ext.refl _ | with_reducible refine Ext.drew ?_ | with_reducible refine Ext.drewN ?_ _ | with_reducible refine Ext.alloc ?_ _ | with_reducible refine Ext.onto ?_ _ | (with_reducible refine Ext.setCells ?_ ?_ _ _; rotate_left; focus (first | omega | (simp; done) | (simp; omega))) | (with_reducible refine Ext.setCell ?_ ?_ _; rotate_left; focus (first | omega | (simp; done) | (simp; omega)))))), (by (repeat (first | with_reducible exact RowAt.new _ _ _ | with_reducible refine RowAt.drew ?_ | with_reducible refine RowAt.later ?_ _ | with_reducible exact RowAt.newAt (by first | rfl | omega | (simp [later_size, setCells_size]; done) | (simp [later_size, setCells_size]; omega)) | with_reducible refine RowAt.alloc ?_ _ | with_reducible apply RowAt.store | with_reducible refine RowAt.others ?_ ?_ _ _ | with_reducible refine RowAt.other ?_ ?_ _)); all_goals first | omega | (simp; done) | (simp; omega) | (simp [go_sem]; done)), (RowAt.newAt (by simp)).later _⟩ ?_
      rintro W1 ⟨x1, r1, s1⟩
      have HX1 := Lib.hid x1
      have hk1 : rowOf W1 w.heap.size 0 16 = some (dgC known) := r1.all rfl (by omega)
      have s0 : W1.cell? ⟨w.heap.size + 1, 0, none⟩ = some (.int .i64 f) := s1.cell 0
      have s2 : W1.cell? ⟨w.heap.size + 1, 1, none⟩ = some (.int .i64 u) := s1.cell 1
      have hls := s1.lt
      have hlr := r1.lt
      clear x1 r1 s1
      refine wp_region_later (by kernel_rfl) (by kernel_rfl) ?_
      repeat (first | go_big_quiet_step ((go_at_call 40; exact quietE (HDg.out _ (HX1.out.onto _)))) | quiet_step ((go_at_call 40; exact quietE (HDg.out _ (HX1.out.onto _)))))
      refine wpQuiet_nil ?_
      rintro _ ⟨xq, rfl⟩
      go_wp2_with (go_at_call 47; refine (oall3 _ _ _ _ _ _ (later_size _ _).symm).mono ?_; rw [hf]; rintro e w' ⟨rfl, hxl⟩; obtain ⟨xl, rfl⟩ := hxl.asLater; clear hxl)
      refine bodyPost_ret (v := .tuple #[.string ⟨#[]⟩, .int .i64 1]) ?_ rfl ⟨rfl, (by (repeat (first | with_reducible exact HX1.out | with_reducible exact Ext.refl _ | with_reducible refine Ext.drew ?_ | with_reducible refine Ext.drewN ?_ _ | with_reducible refine Ext.alloc ?_ _ | with_reducible refine Ext.onto ?_ _ | (with_reducible refine Ext.setCells ?_ ?_ _ _; rotate_left; focus (first | omega | (simp; done) | (simp; omega))) | (with_reducible refine Ext.setCell ?_ ?_ _; rotate_left; focus (first | omega | (simp; done) | (simp; omega))))))⟩
      simp [results, Tryz.results44, go_sem, ↓IntWalk.iteOmega]
  · rw [show decide (D = known) = false by simpa using hE] at hneq
    have HE : Hid (partE v known f u = 341) := Lib.hid (by unfold partE; rw [hD, if_neg hE])
    have HS : Hid (partS v known f u = ⟨#[]⟩) := Lib.hid (by unfold partS; rw [HE.out]; rfl)
    rw [HE.out, HS.out]
    clear hE hD h16 hby
    go_enter Tryz.func44, Tryz.ntmps44
    go_wp2_with (go_at_call 42; refine (HA.out _ (by (repeat (first | with_reducible exact Ext.refl _ | with_reducible exact Ext.refl _ | with_reducible refine Ext.drew ?_ | with_reducible refine Ext.drewN ?_ _ | with_reducible refine Ext.alloc ?_ _ | with_reducible refine Ext.onto ?_ _ | (with_reducible refine Ext.setCells ?_ ?_ _ _; rotate_left; focus (first | omega | (simp; done) | (simp; omega))) | (with_reducible refine Ext.setCell ?_ ?_ _; rotate_left; focus (first | omega | (simp; done) | (simp; omega))))))).mono ?_; rintro e w' ⟨rfl, hxl⟩; obtain ⟨xl, rfl⟩ := hxl.asLater; clear hxl)
    refine wp_world (fun W => Ext w W ∧ RowAt W w.heap.size (dgC known) ∧ RowAt W (w.heap.size + 1) #[.int .i64 f, .int .i64 u]) ⟨(by (repeat (first | with_reducible exact Ext.refl _ | with_reducible exact Ext.refl _ | with_reducible refine Ext.drew ?_ | with_reducible refine Ext.drewN ?_ _ | with_reducible refine Ext.alloc ?_ _ | with_reducible refine Ext.onto ?_ _ | (with_reducible refine Ext.setCells ?_ ?_ _ _; rotate_left; focus (first | omega | (simp; done) | (simp; omega))) | (with_reducible refine Ext.setCell ?_ ?_ _; rotate_left; focus (first | omega | (simp; done) | (simp; omega)))))), (by (repeat (first | with_reducible exact RowAt.new _ _ _ | with_reducible refine RowAt.drew ?_ | with_reducible refine RowAt.later ?_ _ | with_reducible exact RowAt.newAt (by first | rfl | omega | (simp [later_size, setCells_size]; done) | (simp [later_size, setCells_size]; omega)) | with_reducible refine RowAt.alloc ?_ _ | with_reducible apply RowAt.store | with_reducible refine RowAt.others ?_ ?_ _ _ | with_reducible refine RowAt.other ?_ ?_ _)); all_goals first | omega | (simp; done) | (simp; omega) | (simp [go_sem]; done)), (RowAt.newAt (by simp)).later _⟩ ?_
    rintro W1 ⟨x1, r1, s1⟩
    have HX1 := Lib.hid x1
    have hk1 : rowOf W1 w.heap.size 0 16 = some (dgC known) := r1.all rfl (by omega)
    have s0 : W1.cell? ⟨w.heap.size + 1, 0, none⟩ = some (.int .i64 f) := s1.cell 0
    have s2 : W1.cell? ⟨w.heap.size + 1, 1, none⟩ = some (.int .i64 u) := s1.cell 1
    have hls := s1.lt
    have hlr := r1.lt
    clear x1 r1 s1
    refine wp_region_later (by kernel_rfl) (by kernel_rfl) ?_
    repeat (first | go_big_quiet_step ((go_at_call 40; exact quietE (HDg.out _ (HX1.out.onto _)))) | quiet_step ((go_at_call 40; exact quietE (HDg.out _ (HX1.out.onto _)))))
    refine wpQuiet_nil ?_
    rintro _ ⟨xq, rfl⟩
    go_wp2
    refine bodyPost_ret (v := .tuple #[.string ⟨#[]⟩, .int .i64 341]) ?_ rfl ⟨rfl, (by (repeat (first | with_reducible exact HX1.out | with_reducible exact Ext.refl _ | with_reducible refine Ext.drew ?_ | with_reducible refine Ext.drewN ?_ _ | with_reducible refine Ext.alloc ?_ _ | with_reducible refine Ext.onto ?_ _ | (with_reducible refine Ext.setCells ?_ ?_ _ _; rotate_left; focus (first | omega | (simp; done) | (simp; omega))) | (with_reducible refine Ext.setCell ?_ ?_ _; rotate_left; focus (first | omega | (simp; done) | (simp; omega))))))⟩
    simp [results, Tryz.results44, go_sem, ↓IntWalk.iteOmega]
end Go.Proofs.YtpfhmcdcmepfdaaGreatDoor


set_option linter.unusedVariables false
set_option linter.unusedSimpArgs false
namespace Go.Proofs.YtpfhmcdcmepfdaaGreatDoor
open Go.RowKit Go.Shelf
open Go.Proofs

theorem row_extW {w w' : World} (hx : Ext w w') {b : Nat} (hb : b < w.heap.size) (o n : Nat) : rowOf w' b o n = rowOf w b o n := rowOf_congr (fun i _ => hx.cell (p := ⟨b, o + i, none⟩) hb)
theorem str_is (a b : ByteArray) : (a.toList == b.toList) = decide (a = b) := by
  rw [Lib.toList_data, Lib.toList_data, Bool.eq_iff_iff, beq_iff_eq, decide_eq_true_iff]
  exact ⟨fun h => by apply ByteArray.ext; exact Array.toList_inj.1 h, fun h => by rw [h]⟩
theorem says_walk (s : St) (v : Ver) (D : List Int) (h : dgN v.bytes = D) : (((v.status == s.status) && ((v.bytes.size : Int) == s.size)) && (v.tags.toList == s.tags.toList) && decide (D = s.body)) = saysB s v := by
  subst h
  rw [str_is]
  rfl
set_option maxRecDepth 100000 in
set_option maxHeartbeats 2000000 in
theorem true1_any (v : Ver) (s : St) (b : Nat) (w : World) (hv : VerIn v) (hs : RowAt w b (stmC s)) (h16 : s.body.length = 16) (hby : Byt s.body) (hk : Konst 1 w) :
    Calls Tryz.prog 106 #[.agg (verC v), .pointer (some ⟨b, 0, none⟩)] w fun e w' => e = .returned (.bool (saysB s v)) ∧ Ext w w' := by
  have HK := Lib.hid hk
  have HS := Lib.hid hs
  obtain ⟨D, hD⟩ : ∃ D, dgN v.bytes = D := ⟨_, rfl⟩
  have HDg := Lib.hid (fun (W : World) (hx : Ext w W) => odig_d v.bytes D W (RowAt.ext HK.out hx) hv hD)
  have heq := eq_dd (a := D) (b := s.body) (by rw [← hD]; exact dgN_len _) h16 (by rw [← hD]; exact dgN_byt _) hby
  have HW2 := Lib.hid (says_walk s v D hD)
  have hb := hs.lt
  have c2 : w.cell? ⟨b, 2, none⟩ = some (.int .i64 s.status) := (hs.cell 2).trans (stm_g2 s)
  have c3 : w.cell? ⟨b, 3, none⟩ = some (.int .i64 s.size) := (hs.cell 3).trans (stm_g3 s)
  have c20 : w.cell? ⟨b, 20, none⟩ = some (.string s.tags) := (hs.cell 20).trans (stm_g20 s)
  have hbd : rowOf w b 4 16 = some (dgC s.body) := by rw [hs.row, if_neg (by omega), stm_body]
  have hvs : v.bytes.size ≤ 140737488351200 := hv
  clear hD h16 hby hk hs
  go_enter Tryz.func106, Tryz.ntmps106
  go_wp2
  refine wp_world (fun W => Ext w W ∧ RowAt W w.heap.size (verC v)) ⟨(by (repeat (first | with_reducible exact Ext.refl _ | with_reducible exact Ext.refl _ | with_reducible refine Ext.drew ?_ | with_reducible refine Ext.drewN ?_ _ | with_reducible refine Ext.alloc ?_ _ | with_reducible refine Ext.onto ?_ _ | (with_reducible refine Ext.setCells ?_ ?_ _ _; rotate_left; focus (first | omega | (simp; done) | (simp; omega))) | (with_reducible refine Ext.setCell ?_ ?_ _; rotate_left; focus (first | omega | (simp; done) | (simp; omega)))))), RowAt.new _ _ _⟩ ?_
  rintro W1 ⟨x1, u1⟩
  have HX1 := Lib.hid x1
  have q1 : W1.cell? ⟨w.heap.size, 1, none⟩ = some (.int .i64 v.status) := u1.cell 1
  have q2 : W1.cell? ⟨w.heap.size, 2, none⟩ = some (.string v.bytes) := u1.cell 2
  have q3 : W1.cell? ⟨w.heap.size, 3, none⟩ = some (.string v.tags) := u1.cell 3
  have k2 := (x1.cell (p := ⟨b, 2, none⟩) hb).trans c2
  have k3 := (x1.cell (p := ⟨b, 3, none⟩) hb).trans c3
  have k20 := (x1.cell (p := ⟨b, 20, none⟩) hb).trans c20
  have kbd := (row_extW x1 hb 4 16).trans hbd
  have hlu := u1.lt
  clear x1 u1 c2 c3 c20 hbd
  refine wp_region_later_tail 22 (by kernel_rfl) (by kernel_rfl) ?_
  simp only [List.take_succ_cons, List.take_zero, List.drop_succ_cons, List.drop_zero]
  repeat (first | go_big_quiet_step ((go_at_call 40; exact quietE (HDg.out _ (HX1.out.onto _)))) | quiet_step ((go_at_call 40; exact quietE (HDg.out _ (HX1.out.onto _)))))
  refine wpQuiet_nil ?_
  rintro _ ⟨xq, rfl⟩
  go_wp2_with (go_at_call 47; refine (oall4 _ _ _ _ _ _ _ (later_size _ _).symm).mono ?_; rintro e w' ⟨rfl, hxl⟩; obtain ⟨xl, rfl⟩ := hxl.asLater; clear hxl)
  go_ret
  exact ⟨ret_bool (by rw [← HW2.out]), (by (repeat (first | with_reducible exact HX1.out | with_reducible exact Ext.refl _ | with_reducible refine Ext.drew ?_ | with_reducible refine Ext.drewN ?_ _ | with_reducible refine Ext.alloc ?_ _ | with_reducible refine Ext.onto ?_ _ | (with_reducible refine Ext.setCells ?_ ?_ _ _; rotate_left; focus (first | omega | (simp; done) | (simp; omega))) | (with_reducible refine Ext.setCell ?_ ?_ _; rotate_left; focus (first | omega | (simp; done) | (simp; omega))))))⟩
end Go.Proofs.YtpfhmcdcmepfdaaGreatDoor


set_option linter.unusedVariables false
set_option linter.unusedSimpArgs false
namespace Go.Proofs.YtpfhmcdcmepfdaaGreatDoor
open Go.RowKit Go.Shelf
open Go.Proofs

def readS (ls : List ByteArray) : Soft := ⟨fun v w => ∃ A c, v = .slice A ls.length c ∧ ReadsStr w w.heap.size A ls ∧ (A = none → c = 0), fun v w w' ⟨A, c, h1, h2, h3⟩ hx => ⟨A, c, h1, h2.on hx, h3⟩⟩
set_option maxRecDepth 100000 in
set_option maxHeartbeats 2000000 in
theorem ssealed_any (k : Ky) (tag : Int) (s : St) (w : World) (h16 : s.body.length = 16) (hi : ∀ x ∈ stInts s, i64 x) (hl : lens ([k.secret] ++ stParts s ++ [k.secret]) < 8796093022208) (hk : Konst 1 w) :
    Calls Tryz.prog 146 #[.agg (kyC k), .int .i64 tag, .agg (stmC s), .func (.func 147) #[] #[]] w fun e w' => e = .returned (.agg (dgC (makeN k tag (stParts s)))) ∧ Ext w w' := by
  have HI := Lib.hid (fun W : World => sparts_any s W h16 hi)
  have HM := Lib.hid (fun (A : Option Addr) (c : Nat) (W : World) (h1 : ReadsStr W W.heap.size A (stParts s)) (h2 : A = none → c = 0) (h3 : Konst 1 W) => smake_any k tag A c (stParts s) W h1 h2 hl h3)
  have HK := Lib.hid hk
  obtain ⟨D, hD⟩ : ∃ D, makeN k tag (stParts s) = D := ⟨_, rfl⟩
  have h6 : D.length = 16 := by rw [← hD]; exact makeN_len _ _ _
  have hfit : fitsRow 16 (dgC D) = true := by simp [fitsRow, dgC, Value.oneCell']
  have hsz : (dgC D).size = 16 := rfl
  rw [hD] at HM ⊢
  clear h16 hi hl hk hD
  go_enter Tryz.func146, Tryz.ntmps146
  go_wp2
  refine wp_world (fun W => Ext w W ∧ RowAt W w.heap.size (kyC k) ∧ RowAt W (w.heap.size + 1) (stmC s) ∧ RowAt W (w.heap.size + 1 + 1) (cells8 (zeros32 16))) ⟨(by (repeat (first | with_reducible exact Ext.refl _ | with_reducible exact Ext.refl _ | with_reducible refine Ext.drew ?_ | with_reducible refine Ext.drewN ?_ _ | with_reducible refine Ext.alloc ?_ _ | with_reducible refine Ext.onto ?_ _ | (with_reducible refine Ext.setCells ?_ ?_ _ _; rotate_left; focus (first | omega | (simp; done) | (simp; omega))) | (with_reducible refine Ext.setCell ?_ ?_ _; rotate_left; focus (first | omega | (simp; done) | (simp; omega)))))), ((RowAt.new _ _ _).alloc _).alloc _, RowAt.alloc (RowAt.newAt (by simp)) _, RowAt.newAt (by simp)⟩ ?_
  obtain ⟨B, hB⟩ : ∃ B, w.heap.size = B := ⟨_, rfl⟩
  rw [hB]
  rintro W1 ⟨x1, u0, u1, u2⟩
  have HX1 := Lib.hid x1
  have HU2 := Lib.hid u2
  have k0 : rowOf W1 B 0 5 = some (kyC k) := u0.all rfl (by omega)
  have k1 : rowOf W1 (B + 1) 0 41 = some (stmC s) := u1.all rfl (by omega)
  have hlu := u2.lt
  clear x1 u0 u1 u2
  refine wp_region_soft 6 (softsL [.eq (.agg (kyC k)), .eq (.int .i64 tag), .eq (.func (.func 147) #[] #[]), .eq (.agg (stmC s)), readS (stParts s), .eq (.agg (dgC D))]) (by kernel_rfl) (by kernel_rfl) (lt_cons ?_ (lt_cons ?_ (lt_cons ?_ (lt_cons ?_ (lt_cons ?_ (lt_cons ?_ lt_none)))))) ?_
  ·
    intro o ho xs W hW hd Q' hQ; obtain rfl := Option.some.inj ho; clear ho; simp only [fillAt, dstOf, List.getElem?_cons_zero, List.getElem?_cons_succ, Option.bind_some, Act.put, List.setIfInBounds_toArray, List.set_cons_zero, List.set_cons_succ, Nat.zero_add, Nat.reduceAdd] at hQ ⊢; have HQ := Lib.hid hQ; have HD := Lib.hid hd; have HW := Lib.hid hW; have hsW := hW.size; clear hQ hd hW
    have hc := (row_extW HW.out (b := B) (by omega) 0 5).trans k0
    go_wp2
    exact HQ.out _ _ (Ext.refl _) rfl
  ·
    intro o ho xs W hW hd Q' hQ; obtain rfl := Option.some.inj ho; clear ho; simp only [fillAt, dstOf, List.getElem?_cons_zero, List.getElem?_cons_succ, Option.bind_some, Act.put, List.setIfInBounds_toArray, List.set_cons_zero, List.set_cons_succ, Nat.zero_add, Nat.reduceAdd] at hQ ⊢; have HQ := Lib.hid hQ; have HD := Lib.hid hd; have HW := Lib.hid hW; have hsW := hW.size; clear hQ hd hW
    go_wp2
    exact HQ.out _ _ (Ext.refl _) rfl
  ·
    intro o ho xs W hW hd Q' hQ; obtain rfl := Option.some.inj ho; clear ho; simp only [fillAt, dstOf, List.getElem?_cons_zero, List.getElem?_cons_succ, Option.bind_some, Act.put, List.setIfInBounds_toArray, List.set_cons_zero, List.set_cons_succ, Nat.zero_add, Nat.reduceAdd] at hQ ⊢; have HQ := Lib.hid hQ; have HD := Lib.hid hd; have HW := Lib.hid hW; have hsW := hW.size; clear hQ hd hW
    go_wp2
    exact HQ.out _ _ (Ext.refl _) rfl
  ·
    intro o ho xs W hW hd Q' hQ; obtain rfl := Option.some.inj ho; clear ho; simp only [fillAt, dstOf, List.getElem?_cons_zero, List.getElem?_cons_succ, Option.bind_some, Act.put, List.setIfInBounds_toArray, List.set_cons_zero, List.set_cons_succ, Nat.zero_add, Nat.reduceAdd] at hQ ⊢; have HQ := Lib.hid hQ; have HD := Lib.hid hd; have HW := Lib.hid hW; have hsW := hW.size; clear hQ hd hW
    have hc := (row_extW HW.out (b := B + 1) (by omega) 0 41).trans k1
    go_wp2
    exact HQ.out _ _ (Ext.refl _) rfl
  ·
    intro o ho xs W hW hd Q' hQ; obtain rfl := Option.some.inj ho; clear ho; simp only [fillAt, dstOf, List.getElem?_cons_zero, List.getElem?_cons_succ, Option.bind_some, Act.put, List.setIfInBounds_toArray, List.set_cons_zero, List.set_cons_succ, Nat.zero_add, Nat.reduceAdd] at hQ ⊢; have HQ := Lib.hid hQ; have HD := Lib.hid hd; have HW := Lib.hid hW; have hsW := hW.size; clear hQ hd hW
    have hd2 : xs 2 = .func (.func 147) #[] #[] := (HD.out 2 (of_decide_eq_true (by kernel_rfl)))
    generalize xs 2 = x2 at hd2 HQ ⊢; subst hd2
    have hd3 : xs 3 = .agg (stmC s) := (HD.out 3 (of_decide_eq_true (by kernel_rfl)))
    generalize xs 3 = x3 at hd3 HQ ⊢; subst hd3
    go_wp2_with (go_at_call 147; refine (HI.out _).mono ?_; rintro e w1 ⟨A, c, rfl, h1, h2, hx⟩)
    exact HQ.out _ _ hx ⟨A, c, rfl, h1, h2⟩
  ·
    intro o ho xs W hW hd Q' hQ; obtain rfl := Option.some.inj ho; clear ho; simp only [fillAt, dstOf, List.getElem?_cons_zero, List.getElem?_cons_succ, Option.bind_some, Act.put, List.setIfInBounds_toArray, List.set_cons_zero, List.set_cons_succ, Nat.zero_add, Nat.reduceAdd] at hQ ⊢; have HQ := Lib.hid hQ; have HD := Lib.hid hd; have HW := Lib.hid hW; have hsW := hW.size; clear hQ hd hW
    have hd0 : xs 0 = .agg (kyC k) := (HD.out 0 (of_decide_eq_true (by kernel_rfl)))
    generalize xs 0 = x0 at hd0 HQ ⊢; subst hd0
    have hd1 : xs 1 = .int .i64 tag := (HD.out 1 (of_decide_eq_true (by kernel_rfl)))
    generalize xs 1 = x1 at hd1 HQ ⊢; subst hd1
    obtain ⟨A, c, h4, hr4, hz4⟩ : (readS (stParts s)).S (xs 4) W := (HD.out 4 (of_decide_eq_true (by kernel_rfl)))
    generalize xs 4 = x4 at h4 HQ ⊢; subst h4
    go_wp2_with (go_at_call 59; refine (HM.out A c _ hr4 hz4 ((HK.out.ext HX1.out).ext HW.out)).mono ?_; rintro e w1 ⟨rfl, hx⟩)
    exact HQ.out _ _ hx rfl
  intro xs W3 hW hS
  have h5 : xs 5 = .agg (dgC D) := hS 5 (by omega)
  simp only [fillAt, dstOf, List.getElem?_cons_zero, List.getElem?_cons_succ, Option.bind_some, Act.put, List.setIfInBounds_toArray, List.set_cons_zero, List.set_cons_succ, Nat.zero_add, Nat.reduceAdd, List.drop_succ_cons, List.drop_zero, List.drop_nil]
  generalize xs 5 = x5 at *; subst h5
  have HX3 := Lib.hid (HX1.out.trans hW)
  have HU3 := Lib.hid (HU2.out.ext hW)
  have hrm : roomOf W3 (B + 1 + 1) 0 16 = true := by rw [HU3.out.room]; rfl
  have hl3 := hW.size
  clear hS hW k0 k1 HU2 HX1
  go_wp2
  refine post_row sel_ty Tryz.results146 rfl rfl (RowAt.stored (n := 16) HU3.out rfl rfl (by omega)) ⟨rfl, (by (repeat (first | with_reducible exact HX3.out | with_reducible exact Ext.refl _ | with_reducible refine Ext.drew ?_ | with_reducible refine Ext.drewN ?_ _ | with_reducible refine Ext.alloc ?_ _ | with_reducible refine Ext.onto ?_ _ | (with_reducible refine Ext.setCells ?_ ?_ _ _; rotate_left; focus (first | omega | (simp; done) | (simp; omega))) | (with_reducible refine Ext.setCell ?_ ?_ _; rotate_left; focus (first | omega | (simp; done) | (simp; omega))))))⟩
end Go.Proofs.YtpfhmcdcmepfdaaGreatDoor


set_option linter.unusedVariables false
set_option linter.unusedSimpArgs false
namespace Go.Proofs.YtpfhmcdcmepfdaaGreatDoor
open Go.RowKit Go.Shelf
open Go.Proofs

def named (k : Ky) (s : St) : St := { s with gate := k.party, serial := k.serial }
def sealedSt (k : Ky) (s : St) : St := { named k s with seal_ := makeN k 41 (stParts (named k s)) }
theorem named_set (k : Ky) (s : St) : ((stmC s).setIfInBounds 23 (.int .i64 k.party)).setIfInBounds 24 (.int .i64 k.serial) = stmC (named k s) := by kernel_rfl
theorem seal_set (s : St) (D : List Int) : laidOver (stmC s) 25 (dgC D).toList = stmC { s with seal_ := D } := by kernel_rfl
set_option maxRecDepth 100000 in
set_option maxHeartbeats 2000000 in
theorem sealStamp_any (k : Ky) (s : St) (w : World) (h16 : s.body.length = 16) (hi : ∀ x ∈ stInts (named k s), i64 x) (hl : lens ([k.secret] ++ stParts (named k s) ++ [k.secret]) < 8796093022208) (hk : Konst 1 w) :
    Calls Tryz.prog 109 #[.agg (kyC k), .agg (stmC s)] w fun e w' => e = .returned (.agg (stmC (sealedSt k s))) ∧ Ext w w' := by
  have HI := Lib.hid (fun (W : World) (h3 : Konst 1 W) => ssealed_any k 41 (named k s) W h16 hi hl h3)
  have HK := Lib.hid hk
  obtain ⟨D, hD⟩ : ∃ D, makeN k 41 (stParts (named k s)) = D := ⟨_, rfl⟩
  have hsp : sealedSt k s = { named k s with seal_ := D } := by rw [← hD]; rfl
  have hfit : fitsRow 16 (dgC D) = true := by simp [fitsRow, dgC, Value.oneCell']
  have hsz : (dgC D).size = 16 := rfl
  rw [hD] at HI
  rw [hsp]
  clear h16 hi hl hk hD hsp
  go_enter Tryz.func109, Tryz.ntmps109
  go_wp2
  refine wp_world (fun W => Ext w W ∧ RowAt W w.heap.size (kyC k) ∧ RowAt W (w.heap.size + 1) (stmC s) ∧ RowAt W (w.heap.size + 1 + 1) (stmC noSt)) ⟨(by (repeat (first | with_reducible exact Ext.refl _ | with_reducible exact Ext.refl _ | with_reducible refine Ext.drew ?_ | with_reducible refine Ext.drewN ?_ _ | with_reducible refine Ext.alloc ?_ _ | with_reducible refine Ext.onto ?_ _ | (with_reducible refine Ext.setCells ?_ ?_ _ _; rotate_left; focus (first | omega | (simp; done) | (simp; omega))) | (with_reducible refine Ext.setCell ?_ ?_ _; rotate_left; focus (first | omega | (simp; done) | (simp; omega)))))), ((RowAt.new _ _ _).alloc _).alloc _, RowAt.alloc (RowAt.newAt (by simp)) _, RowAt.newAt (by simp)⟩ ?_
  obtain ⟨B, hB⟩ : ∃ B, w.heap.size = B := ⟨_, rfl⟩
  rw [hB]
  rintro W1 ⟨x1, u0, u1, u2⟩
  have HX1 := Lib.hid x1
  have HU0 := Lib.hid u0
  have HU1 := Lib.hid u1
  have HU2 := Lib.hid u2
  have q0 : W1.cell? ⟨B, 0, none⟩ = some (.int .i64 k.party) := (u0.cell 0).trans (ky_g0 k)
  have q1 : W1.cell? ⟨B, 1, none⟩ = some (.int .i64 k.serial) := (u0.cell 1).trans (ky_g1 k)
  have q3 : W1.cell? ⟨B + 1, 23, none⟩ = some (.int .i64 s.gate) := (u1.cell 23).trans (stm_g23 s)
  have q4 : W1.cell? ⟨B + 1, 24, none⟩ = some (.int .i64 s.serial) := (u1.cell 24).trans (stm_g24 s)
  have f1 := u1.free 23
  have f2 := u1.free 24
  have hlu := u2.lt
  clear x1 u0 u1 u2
  go_region
  go_upto_region 2 with (fail)
  refine wp_world (fun W => Ext w W ∧ RowAt W B (kyC k) ∧ RowAt W (B + 1) (stmC (named k s)) ∧ RowAt W (B + 1 + 1) (stmC noSt)) ⟨?_, ?_, ?_, ?_⟩ ?_
  · exact (((HX1.out.setCell (by show _ ≤ B + 1; omega) _).setCell (by show _ ≤ B + 1; omega) _).drew)
  · exact (((HU0.out.other (by show B ≠ B + 1; omega) _).other (by show B ≠ B + 1; omega) _).drew)
  · rw [← named_set]; exact (((HU1.out.set 23 _).set 24 _).drew)
  · exact (((HU2.out.other (by show B + 1 + 1 ≠ B + 1; omega) _).other (by show B + 1 + 1 ≠ B + 1; omega) _).drew)
  clear HX1 HU0 HU1 HU2 q0 q1 q3 q4 f1 f2 hlu
  rintro W2 ⟨x2, u0, u1, u2⟩
  have HX2 := Lib.hid x2
  have HU1 := Lib.hid u1
  have HU2 := Lib.hid u2
  have k0 : rowOf W2 B 0 5 = some (kyC k) := u0.all rfl (by omega)
  have k1 : rowOf W2 (B + 1) 0 41 = some (stmC (named k s)) := u1.all rfl (by omega)
  have m1 : roomOf W2 (B + 1) 25 16 = true := by rw [u1.room]; rfl
  have hlu := u2.lt
  clear x2 u0 u1 u2
  go_upto_region 3 with (go_at_call 146; refine (HI.out _ (HK.out.ext HX2.out)).mono ?_; rintro e w' ⟨rfl, hxl⟩; obtain ⟨xl, rfl⟩ := hxl.asLater; clear hxl)
  refine wp_world (fun W => Ext w W ∧ RowAt W (B + 1) (stmC { named k s with seal_ := D }) ∧ RowAt W (B + 1 + 1) (stmC noSt)) ⟨?_, ?_, ?_⟩ ?_
  · exact (HX2.out.trans (ext_later _ _)).setCells (by omega) _ _
  · have h := (HU1.out.later xl).sets 25 (dgC D).toList
    rw [seal_set] at h
    exact h
  · exact (HU2.out.later xl).others (by omega) _ _
  clear HX2 HU1 HU2 k0 k1 m1 hlu
  rintro W3 ⟨x3, u1, u2⟩
  have HX3 := Lib.hid x3
  have HU2 := Lib.hid u2
  have k1 : rowOf W3 (B + 1) 0 41 = some (stmC { named k s with seal_ := D }) := u1.all rfl (by omega)
  have m2 : roomOf W3 (B + 1 + 1) 0 41 = true := by rw [u2.room]; rfl
  have hlu := u2.lt
  have hft := stm_fits { named k s with seal_ := D }
  clear x3 u1 u2
  go_wp2
  refine post_row stm_ty Tryz.results109 rfl rfl (RowAt.stored (n := 41) HU2.out rfl rfl (by omega)) ⟨rfl, (by (repeat (first | with_reducible exact HX3.out | with_reducible exact Ext.refl _ | with_reducible refine Ext.drew ?_ | with_reducible refine Ext.drewN ?_ _ | with_reducible refine Ext.alloc ?_ _ | with_reducible refine Ext.onto ?_ _ | (with_reducible refine Ext.setCells ?_ ?_ _ _; rotate_left; focus (first | omega | (simp; done) | (simp; omega))) | (with_reducible refine Ext.setCell ?_ ?_ _; rotate_left; focus (first | omega | (simp; done) | (simp; omega))))))⟩
end Go.Proofs.YtpfhmcdcmepfdaaGreatDoor


set_option linter.unusedVariables false
set_option linter.unusedSimpArgs false
namespace Go.Proofs.YtpfhmcdcmepfdaaGreatDoor
open Go.RowKit Go.Shelf
open Go.Proofs

structure Clk where
  (lo hi : Int)
def clkC (k : Clk) : Array Value := #[.int .i64 k.lo, .int .i64 k.hi]
theorem clk_g0 (v : Clk) : (clkC v)[0]? = some (.int .i64 v.lo) := rfl
theorem clk_g1 (v : Clk) : (clkC v)[1]? = some (.int .i64 v.hi) := rfl
attribute [go_sem] clk_g0 clk_g1
def okKy (k : Ky) : Bool := decide (min k.party k.serial ≥ 1) && decide (max k.party k.serial ≤ 1073741824) && decide ((k.secret.size : Int) ≥ 1) && decide ((k.secret.size : Int) ≤ 64) && decide (k.fr ≥ 0) && decide (k.fr < k.upto) && decide (k.upto ≤ 1099511627776)
def okClk (k : Clk) : Bool := decide (k.lo ≥ 0) && decide (k.lo ≤ k.hi) && decide (k.hi ≤ 1099511627776)
set_option maxRecDepth 100000 in
set_option maxHeartbeats 2000000 in
theorem cvalid_any (k : Clk) (w : World) : Calls Tryz.prog 49 #[.agg (clkC k)] w fun e w' => e = .returned (.bool (okClk k)) ∧ Ext w w' := by
  have HF : Hid (okClk k = (decide (k.lo ≥ 0) && decide (k.lo ≤ k.hi) && decide (k.hi ≤ 1099511627776))) := Lib.hid rfl
  generalize okClk k = R at HF ⊢
  go_enter Tryz.func49, Tryz.ntmps49
  go_wp2
  all_goals
    go_ret
    exact ⟨ret_bool (by rw [HF.out]; clear HF; simp [*] <;> omega), (by (repeat (first | with_reducible exact Ext.refl _ | with_reducible exact Ext.refl _ | with_reducible refine Ext.drew ?_ | with_reducible refine Ext.drewN ?_ _ | with_reducible refine Ext.alloc ?_ _ | with_reducible refine Ext.onto ?_ _ | (with_reducible refine Ext.setCells ?_ ?_ _ _; rotate_left; focus (first | omega | (simp; done) | (simp; omega))) | (with_reducible refine Ext.setCell ?_ ?_ _; rotate_left; focus (first | omega | (simp; done) | (simp; omega))))))⟩
set_option maxRecDepth 100000 in
set_option maxHeartbeats 2000000 in
theorem kvalid_any (k : Ky) (w : World) (hs : k.secret.size < 9223372036854775808) : Calls Tryz.prog 48 #[.agg (kyC k)] w fun e w' => e = .returned (.bool (okKy k)) ∧ Ext w w' := by
  have HF : Hid (okKy k = (decide (min k.party k.serial ≥ 1) && decide (max k.party k.serial ≤ 1073741824) && decide ((k.secret.size : Int) ≥ 1) && decide ((k.secret.size : Int) ≤ 64) && decide (k.fr ≥ 0) && decide (k.fr < k.upto) && decide (k.upto ≤ 1099511627776))) := Lib.hid rfl
  generalize okKy k = R at HF ⊢
  go_enter Tryz.func48, Tryz.ntmps48
  go_wp2
  all_goals
    go_ret
    exact ⟨ret_bool (by rw [HF.out]; clear HF; simp [*] <;> omega), (by (repeat (first | with_reducible exact Ext.refl _ | with_reducible exact Ext.refl _ | with_reducible refine Ext.drew ?_ | with_reducible refine Ext.drewN ?_ _ | with_reducible refine Ext.alloc ?_ _ | with_reducible refine Ext.onto ?_ _ | (with_reducible refine Ext.setCells ?_ ?_ _ _; rotate_left; focus (first | omega | (simp; done) | (simp; omega))) | (with_reducible refine Ext.setCell ?_ ?_ _; rotate_left; focus (first | omega | (simp; done) | (simp; omega))))))⟩
end Go.Proofs.YtpfhmcdcmepfdaaGreatDoor


set_option linter.unusedVariables false
set_option linter.unusedSimpArgs false
namespace Go.Proofs.YtpfhmcdcmepfdaaGreatDoor
open Go.RowKit Go.Shelf
open Go.Proofs

theorem kyE : EncTy kyL 5 := ⟨fun _ => rfl, fun x v hv => by simp [kyL] at hv; rcases hv with rfl | rfl | rfl | rfl | rfl <;> rfl⟩
abbrev ReadsKy (w : World) (B : Nat) (A : Option Addr) (l : List Ky) : Prop := Reads 5 kyL w B A l
theorem ReadsKy.row {w : World} {B : Nat} {A : Option Addr} {l : List Ky} (h : ReadsKy w B A l) (i : Nat) (hi : i < l.length) : ∃ b off, A = some ⟨b, off, none⟩ ∧ b < B ∧ rowOf w b (off + i * 5) 5 = some (kyC l[i]) := by
  obtain ⟨b, off, h1, h2, h3⟩ := h (by omega)
  refine ⟨b, off, h1, h2, rowOf_some rfl fun j hj => ?_⟩
  match j, hj with
  | 0, _ => exact h3 i hi 0 _ rfl
  | 1, _ => exact h3 i hi 1 _ rfl
  | 2, _ => exact h3 i hi 2 _ rfl
  | 3, _ => exact h3 i hi 3 _ rfl
  | 4, _ => exact h3 i hi 4 _ rfl
def cmpK (p s : Int) (k : Ky) : Int := if k.party = p then k.serial - s else k.party - p
def small40 (n : Int) : Prop := -1099511627776 ≤ n ∧ n ≤ 1099511627776
theorem place1k_any (k : Ky) (p s : Int) (b : Nat) (w : World) (hb : w.cell? ⟨b, 0, none⟩ = some (.int .i64 s)) (hlt : b < w.heap.size) (h1 : small40 k.party) (h2 : small40 k.serial) (h3 : small40 p) (h4 : small40 s) :
    Calls Tryz.prog 188 #[.agg (kyC k), .int .i64 p, .pointer (some ⟨b, 0, none⟩)] w fun e w' => e = .returned (.int .i64 (cmpK p s k)) ∧ Ext w w' := by
  obtain ⟨a1, a2⟩ := h1
  obtain ⟨b1, b2⟩ := h2
  obtain ⟨c1, c2⟩ := h3
  obtain ⟨d1, d2⟩ := h4
  have HF : Hid (cmpK p s k = if k.party = p then k.serial - s else k.party - p) := Lib.hid rfl
  generalize cmpK p s k = R at *
  by_cases h : k.party = p
  · have e0 : (k.party != p) = false := by simpa using h
    have HF' : Hid (R = k.serial - s) := Lib.hid (by rw [HF.out, if_pos h])
    clear HF h
    go_enter Tryz.func188, Tryz.ntmps188
    go_wp2
    go_ret
    exact ⟨ret_int HF'.out.symm, (by (repeat (first | with_reducible exact Ext.refl _ | with_reducible exact Ext.refl _ | with_reducible refine Ext.drew ?_ | with_reducible refine Ext.drewN ?_ _ | with_reducible refine Ext.alloc ?_ _ | with_reducible refine Ext.onto ?_ _ | (with_reducible refine Ext.setCells ?_ ?_ _ _; rotate_left; focus (first | omega | (simp; done) | (simp; omega))) | (with_reducible refine Ext.setCell ?_ ?_ _; rotate_left; focus (first | omega | (simp; done) | (simp; omega))))))⟩
  · have e0 : (k.party != p) = true := by simpa using h
    have HF' : Hid (R = k.party - p) := Lib.hid (by rw [HF.out, if_neg h])
    clear HF h
    go_enter Tryz.func188, Tryz.ntmps188
    go_wp2
    go_ret
    exact ⟨ret_int HF'.out.symm, (by (repeat (first | with_reducible exact Ext.refl _ | with_reducible exact Ext.refl _ | with_reducible refine Ext.drew ?_ | with_reducible refine Ext.drewN ?_ _ | with_reducible refine Ext.alloc ?_ _ | with_reducible refine Ext.onto ?_ _ | (with_reducible refine Ext.setCells ?_ ?_ _ _; rotate_left; focus (first | omega | (simp; done) | (simp; omega))) | (with_reducible refine Ext.setCell ?_ ?_ _; rotate_left; focus (first | omega | (simp; done) | (simp; omega))))))⟩
/-- Where a key stands among keys. -/
def AtK (l : List Ky) (p s : Int) (i : Nat) : Prop := i ≤ l.length ∧ (∀ t (h : t < l.length), t < i → cmpK p s l[t] < 0) ∧ ∀ t (h : t < l.length), i ≤ t → 0 ≤ cmpK p s l[t]
def MonoK (l : List Ky) (p s : Int) : Prop := ∀ a b (ha : a < l.length) (hb : b < l.length), a < b → cmpK p s l[b] < 0 → cmpK p s l[a] < 0
set_option maxRecDepth 100000 in
set_option maxHeartbeats 2000000 in
theorem bsearch_any (A : Option Addr) (c : Nat) (l : List Ky) (p s : Int) (bt : Nat) (w : World) (hl : l.length ≤ 100000) (hr : ReadsKy w w.heap.size A l) (hb : w.cell? ⟨bt, 0, none⟩ = some (.int .i64 s)) (hlb : bt < w.heap.size) (hm : MonoK l p s) (hk : ∀ k ∈ l, small40 k.party ∧ small40 k.serial) (h3 : small40 p) (h4 : small40 s) :
    Calls Tryz.prog 187 #[.slice A l.length c, .int .i64 p, .func (.func 188) #[] #[.pointer (some ⟨bt, 0, none⟩)]] w fun e w' =>
      ∃ (i : Nat) (f : Bool), e = .returned (.tuple #[.int .i64 i, .bool f]) ∧ AtK l p s i ∧ (f = true ↔ ∃ h : i < l.length, cmpK p s l[i] = 0) ∧ Ext w w' := by
  have HR := Lib.hid hr
  have HP := Lib.hid (fun (j : Nat) (h : j < l.length) (W : World) (hx : Ext w W) => place1k_any l[j] p s bt W ((hx.cell (p := ⟨bt, 0, none⟩) hlb).trans hb) (by have := hx.size; omega) (hk _ (List.getElem_mem h)).1 (hk _ (List.getElem_mem h)).2 h3 h4)
  have HM := Lib.hid hm
  clear hr hb hm hk h3 h4
  go_enter Tryz.func187, Tryz.ntmps187
  go_wp2
  go_loopw [9, 10] (fun iv jv wr => ∃ i j : Nat, iv = .int .i64 i ∧ jv = .int .i64 j ∧ i ≤ j ∧ j ≤ l.length ∧ Hid (Ext w wr) ∧ Hid (∀ t (h : t < l.length), t < i → cmpK p s l[t] < 0) ∧ Hid (∀ t (h : t < l.length), j ≤ t → 0 ≤ cmpK p s l[t])) (fun i j _ => (intOf j).toNat - (intOf i).toNat)
  case atStart => exact ⟨0, l.length, rfl, rfl, Nat.zero_le _, Nat.le_refl _, Lib.hid (Ext.refl _), Lib.hid (fun t _ h => absurd h (by omega)), Lib.hid (fun t h h' => absurd h (by omega))⟩
  case round =>
    obtain ⟨i, j, rfl, rfl, hij, hj, HX, H1, H2⟩ := hrel
    by_cases hlt : i < j
    · obtain ⟨h, hh⟩ : ∃ h : Nat, h = (i + j) / 2 := ⟨_, rfl⟩
      have hh1 : i ≤ h := by omega
      have hh2 : h < j := by omega
      obtain ⟨b, off, rfl, hb, hrow⟩ := ReadsKy.row (HR.out.ext HX.out (Nat.le_refl _)) h (by omega)
      have hsz := HX.out.size
      have hb' : b < wr.heap.size := by omega
      have HP1 := Lib.hid (HP.out h (by omega))
      have HL : Hid (cmpK p s (l[h]'(by omega)) < 0 → ∀ t (ht : t < l.length), t < h + 1 → cmpK p s l[t] < 0) := Lib.hid (fun hc t ht hth => by
        by_cases e : t = h
        · subst e; exact hc
        · exact HM.out t h ht (by omega) (by omega) hc)
      have HG : Hid (0 ≤ cmpK p s (l[h]'(by omega)) → ∀ t (ht : t < l.length), h ≤ t → 0 ≤ cmpK p s l[t]) := Lib.hid (fun hc t ht hth => by
        by_cases e : t = h
        · subst e; exact hc
        · exact Int.not_lt.1 (fun hn => by have := HM.out h t (by omega) ht (by omega) hn; omega))
      generalize hck : cmpK p s (l[h]'(by omega)) = ck at *
      generalize l[h]'(by omega) = kh at *

      subst hh
      by_cases hneg : ck < 0
      · have d0 : decide (ck < 0) = true := by simpa using hneg
        have HL' := Lib.hid (HL.out hneg)
        clear HL HG hck hneg
        go_wp2_with (go_at_call 188; refine (HP1.out _ HX.out).mono ?_; rintro e w' ⟨rfl, hxl⟩; obtain ⟨xl, rfl⟩ := hxl.asLater; clear hxl)
        go_roundw
        case rel => exact ⟨(i + j) / 2 + 1, j, by go_num, rfl, by omega, hj, Lib.hid (HX.out.onto _), HL', H2⟩
        case measure => simp [intOf]; omega
      · have d0 : decide (ck < 0) = false := by simpa using hneg
        have HG' := Lib.hid (HG.out (by omega))
        clear HL HG hck hneg
        go_wp2_with (go_at_call 188; refine (HP1.out _ HX.out).mono ?_; rintro e w' ⟨rfl, hxl⟩; obtain ⟨xl, rfl⟩ := hxl.asLater; clear hxl)
        go_roundw
        case rel => exact ⟨i, (i + j) / 2, rfl, by go_num, by omega, by omega, Lib.hid (HX.out.onto _), H1, HG'⟩
        case measure => simp [intOf]; omega
    · have e : i = j := by omega
      subst e
      have hsz := HX.out.size
      by_cases hi : i < l.length
      · obtain ⟨b, off, rfl, hb, hrow⟩ := ReadsKy.row (HR.out.ext HX.out (Nat.le_refl _)) i hi
        have hb' : b < wr.heap.size := by omega
        have HP1 := Lib.hid (HP.out i hi)
        have HQ : Hid (AtK l p s i) := Lib.hid ⟨hj, H1.out, H2.out⟩
        have HE : Hid ((cmpK p s l[i] == 0) = true ↔ ∃ h : i < l.length, cmpK p s l[i] = 0) := Lib.hid (Iff.intro (fun h => ⟨hi, by simpa using h⟩) (fun h => by obtain ⟨_, h⟩ := h; simpa using h))
        generalize cmpK p s l[i] = ck at *
        generalize l[i] = kh at *
        go_wp2_with (go_at_call 188; refine (HP1.out _ HX.out).mono ?_; rintro e w' ⟨rfl, hxl⟩; obtain ⟨xl, rfl⟩ := hxl.asLater; clear hxl)
        refine bodyPost_ret (v := .tuple #[.int .i64 i, .bool (ck == 0)]) ?_ rfl ⟨i, _, rfl, HQ.out, HE.out, (by (repeat (first | with_reducible exact HX.out | with_reducible exact Ext.refl _ | with_reducible refine Ext.drew ?_ | with_reducible refine Ext.drewN ?_ _ | with_reducible refine Ext.alloc ?_ _ | with_reducible refine Ext.onto ?_ _ | (with_reducible refine Ext.setCells ?_ ?_ _ _; rotate_left; focus (first | omega | (simp; done) | (simp; omega))) | (with_reducible refine Ext.setCell ?_ ?_ _; rotate_left; focus (first | omega | (simp; done) | (simp; omega))))))⟩
        simp [results, Tryz.results187, go_sem, ↓IntWalk.iteOmega]
      · have HQ : Hid (AtK l p s i) := Lib.hid ⟨hj, H1.out, H2.out⟩
        have HE : Hid (false = true ↔ ∃ h : i < l.length, cmpK p s l[i] = 0) := Lib.hid (Iff.intro (fun h => by cases h) (fun h => by obtain ⟨h, _⟩ := h; exact absurd h hi))
        clear H1 H2 HP
        go_wp2
        refine bodyPost_ret (v := .tuple #[.int .i64 i, .bool false]) ?_ rfl ⟨i, false, rfl, HQ.out, HE.out, HX.out⟩
        simp [results, Tryz.results187, go_sem, ↓IntWalk.iteOmega]
theorem kplace_any (A : Option Addr) (c : Nat) (l : List Ky) (p s : Int) (w : World) (hl : l.length ≤ 100000) (hr : ReadsKy w w.heap.size A l) (hm : MonoK l p s) (hk : ∀ k ∈ l, small40 k.party ∧ small40 k.serial) (h3 : small40 p) (h4 : small40 s) :
    Calls Tryz.prog 162 #[.slice A l.length c, .int .i64 p, .int .i64 s] w fun e w' =>
      ∃ (i : Nat) (f : Bool), e = .returned (.tuple #[.int .i64 i, .bool f]) ∧ AtK l p s i ∧ (f = true ↔ ∃ h : i < l.length, cmpK p s l[i] = 0) ∧ Ext w w' := by
  have H := Lib.hid (bsearch_any A c l p s w.heap.size (w.alloc (.cells #[.int .i64 s] 3)) hl (hr.on ((Ext.refl w).alloc _)) (by rw [alloc_cell_if, if_pos rfl]; rfl) (by simp) hm hk h3 h4)
  clear hr hm hk h3 h4
  go_enter Tryz.func162, Tryz.ntmps162
  go_wp2_with (go_at_call 187; refine H.out.mono ?_; rintro e w' ⟨i, f, rfl, h1, h2, hxl⟩; have H1 := Lib.hid h1; have H2 := Lib.hid h2; clear h1 h2; obtain ⟨xl, rfl⟩ := hxl.asLater; clear hxl)
  refine bodyPost_ret (v := .tuple #[.int .i64 i, .bool f]) ?_ rfl ⟨i, f, rfl, H1.out, H2.out, (by (repeat (first | with_reducible exact Ext.refl _ | with_reducible exact Ext.refl _ | with_reducible refine Ext.drew ?_ | with_reducible refine Ext.drewN ?_ _ | with_reducible refine Ext.alloc ?_ _ | with_reducible refine Ext.onto ?_ _ | (with_reducible refine Ext.setCells ?_ ?_ _ _; rotate_left; focus (first | omega | (simp; done) | (simp; omega))) | (with_reducible refine Ext.setCell ?_ ?_ _; rotate_left; focus (first | omega | (simp; done) | (simp; omega))))))⟩
  simp [results, Tryz.results162, go_sem, ↓IntWalk.iteOmega]
theorem ky_loaded {w : World} {b : Nat} {x : Ky} (h : rowOf w b 0 5 = some (kyC x)) : (loadVar 23 ⟨b, 0, none⟩).run Tryz.prog w = .ok (.agg (kyC x)) w := run_loadVar_row ky_ty h
def kyB0 : Sem Next := do pure (.value (← Instr.build 23 #[]))
theorem kyB0_x (ρ : Operand → Value) (dst : Option Tmp) (t : TypeId) (pos : String) (after : Array Edge) (guard : Option (Nat × Bool)) : execOp ρ { dst, op := .build 23 #[], type := t, pos, after, guard } = kyB0 := by kernel_rfl
theorem kyB0_run (W : World) : kyB0.run Tryz.prog W = .ok (.value (.agg (kyC noKy))) W := by kernel_rfl
attribute [go_sem ↓] kyB0_x
attribute [go_sem] kyB0_run
/-- The key with these two numbers. -/
def keyN (l : List Ky) (p s : Int) : Option Ky := l.find? fun k => cmpK p s k == 0
theorem key_at {l : List Ky} {p s : Int} {i : Nat} (ha : AtK l p s i) (hm : ∀ a (h : a < l.length), cmpK p s l[a] = 0 → ∀ b (h' : b < l.length), a < b → 0 < cmpK p s l[b]) (h : i < l.length) (h0 : cmpK p s l[i] = 0) : keyN l p s = some l[i] := by
  unfold keyN
  rw [List.find?_eq_some_iff_getElem]
  refine ⟨by simpa using h0, i, h, rfl, fun j hj => ?_⟩
  have := ha.2.1 j (by omega) hj
  simp
  omega
theorem key_none {l : List Ky} {p s : Int} {i : Nat} (ha : AtK l p s i) (hm : ∀ a (h : a < l.length), cmpK p s l[a] < 0 ∨ cmpK p s l[a] = 0 ∨ 0 < cmpK p s l[a]) (hp : ∀ a b (h : a < l.length) (h' : b < l.length), a < b → 0 < cmpK p s l[a] → 0 < cmpK p s l[b]) (h : ¬ ∃ h : i < l.length, cmpK p s l[i] = 0) : keyN l p s = none := by
  unfold keyN
  rw [List.find?_eq_none]
  intro k hk
  obtain ⟨j, hj, rfl⟩ := List.getElem_of_mem hk
  simp only [beq_iff_eq]
  intro h0
  by_cases hji : j < i
  · have := ha.2.1 j hj hji; omega
  · by_cases e : j = i
    · subst e; exact h ⟨hj, h0⟩
    · have hlt : i < j := by omega
      have h1 := ha.2.2 i (by omega) (Nat.le_refl _)
      have h2 : cmpK p s (l[i]'(by omega)) ≠ 0 := fun e => h ⟨by omega, e⟩
      have := hp i j (by omega) hj hlt (by omega)
      omega
set_option maxHeartbeats 1000000 in
theorem kfind_hit (A : Option Addr) (c : Nat) (l : List Ky) (p s : Int) (w : World) (hl : l.length ≤ 100000) (hr : ReadsKy w w.heap.size A l) (hm : MonoK l p s) (hk : ∀ k ∈ l, small40 k.party ∧ small40 k.serial) (h3 : small40 p) (h4 : small40 s) :
    Calls Tryz.prog 122 #[.slice A l.length c, .int .i64 p, .int .i64 s] w fun e w' => ∃ i : Nat, AtK l p s i ∧ ((∃ h : i < l.length, cmpK p s l[i] = 0 ∧ e = .returned (.tuple #[.agg (kyC l[i]), .int .i64 0])) ∨ ((¬ ∃ h : i < l.length, cmpK p s l[i] = 0) ∧ e = .returned (.tuple #[.agg (kyC noKy), .int .i64 5]))) ∧ Ext w w' := by
  have H := Lib.hid (kplace_any A c l p s (w.alloc (.cells (kyC noKy) 23)) hl (hr.on ((Ext.refl w).alloc _)) hm hk h3 h4)
  have HR := Lib.hid hr
  have hft0 := ky_fits noKy
  clear hr hm hk h3 h4
  go_enter Tryz.func122, Tryz.ntmps122
  go_wp2_with (go_at_call 162; refine (show Hid _ from ?_).out)
  refine Lib.hid ?_
  refine H.out.mono ?_
  rintro e w1 ⟨i, f, rfl, h1, h2, hx1⟩
  have H1 := Lib.hid h1
  have HX1 : Hid (Ext w w1) := Lib.hid (((Ext.refl w).alloc _).trans hx1)
  have HRow : Hid (RowAt w1 w.heap.size (kyC noKy)) := Lib.hid ((RowAt.new w (kyC noKy) 23).ext hx1)
  have hlr := HRow.out.lt
  have hrm : roomOf w1 w.heap.size 0 5 = true := by rw [HRow.out.room]; rfl
  clear h1 hx1 H
  cases f with
  | true =>
    obtain ⟨hi, h0⟩ := h2.1 rfl
    obtain ⟨b, off, rfl, hb, hrow⟩ := ReadsKy.row (HR.out.ext HX1.out (Nat.le_refl _)) i hi
    have hb' : b < w1.heap.size := by omega
    have HQ : Hid (∃ h : i < l.length, cmpK p s l[i] = 0) := Lib.hid ⟨hi, h0⟩
    have hft := ky_fits l[i]
    clear h2 h0
    go_wp2
    refine post_two (v1 := .agg (kyC l[i])) (v2 := .int .i64 0) Tryz.results122 rfl ⟨_, rfl, ky_loaded ((HRow.out.store (ds := kyC l[i]) rfl).all rfl (by omega))⟩ rfl ⟨i, H1.out, .inl (by obtain ⟨h, h0⟩ := HQ.out; exact ⟨h, h0, rfl⟩), Ext.setCells HX1.out (Nat.le_refl _) _ _⟩
  | false =>
    have HN : Hid (¬ ∃ h : i < l.length, cmpK p s l[i] = 0) := Lib.hid (fun h => by have := h2.2 h; cases this)
    clear h2
    go_wp2
    refine post_two (v1 := .agg (kyC noKy)) (v2 := .int .i64 5) Tryz.results122 rfl ⟨_, rfl, ky_loaded ((HRow.out.store (ds := kyC noKy) rfl).all rfl (by omega))⟩ rfl ⟨i, H1.out, .inr ⟨HN.out, rfl⟩, Ext.setCells HX1.out (Nat.le_refl _) _ _⟩
def countB (k : Ky) (lo hi : Int) : Bool := decide (0 ≤ lo) && decide (lo ≤ hi) && decide (hi ≤ 1099511627776) && decide (k.fr ≤ lo) && decide (hi < k.upto)
set_option maxHeartbeats 1000000 in
theorem counts_any (k : Ky) (lo hi : Int) (w : World) : Calls Tryz.prog 123 #[.agg (kyC k), .agg #[.int .i64 lo, .int .i64 hi]] w fun e w' => e = .returned (.bool (countB k lo hi)) ∧ Ext w w' := by
  have HF : Hid (countB k lo hi = (decide (0 ≤ lo) && decide (lo ≤ hi) && decide (hi ≤ 1099511627776) && decide (k.fr ≤ lo) && decide (hi < k.upto))) := Lib.hid rfl
  generalize countB k lo hi = R at HF ⊢
  go_enter Tryz.func123, Tryz.ntmps123
  go_wp2
  all_goals
    go_ret
    exact ⟨ret_bool (by rw [HF.out]; clear HF; simp [*] <;> omega), (by (repeat (first | with_reducible exact Ext.refl _ | with_reducible exact Ext.refl _ | with_reducible refine Ext.drew ?_ | with_reducible refine Ext.drewN ?_ _ | with_reducible refine Ext.alloc ?_ _ | with_reducible refine Ext.onto ?_ _ | (with_reducible refine Ext.setCells ?_ ?_ _ _; rotate_left; focus (first | omega | (simp; done) | (simp; omega))) | (with_reducible refine Ext.setCell ?_ ?_ _; rotate_left; focus (first | omega | (simp; done) | (simp; omega))))))⟩
end Go.Proofs.YtpfhmcdcmepfdaaGreatDoor
