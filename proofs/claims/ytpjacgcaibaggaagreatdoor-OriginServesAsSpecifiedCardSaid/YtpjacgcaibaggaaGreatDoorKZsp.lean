/- weirgatelaw34.OriginServesAsSpecified, the lifted law: it returns true for every timeline, faults, instant and digest, and leaves its arguments as they were; the listed tables hold what the program's text lays (the card ties them). No other condition. -/
import Derived.Test.YtpjacgcaibaggaaGreatDoorProg
import Derived.Test.YtpjacgcaibaggaaGreatDoorKSpv
import Derived.WalkKit
import Derived.WalkSpells
import Derived.WalkLawsBesides
import Derived.Deep.QuietTactic
import Derived.BigQuiet
import Derived.Test.YtpjacgcaibaggaaGreatDoorKWe
import Derived.Test.YtpjacgcaibaggaaGreatDoorKFw
import Derived.Test.YtpjacgcaibaggaaGreatDoorKVr
import Derived.Test.YtpjacgcaibaggaaGreatDoorKOs
import Derived.Test.YtpjacgcaibaggaaGreatDoorTie
import Derived.Test.YtpjacgcaibaggaaGreatDoorCards
import Derived.ProofKit
import Derived.Lay
import Derived.ChangeMaps5
import Derived.SevenTiedAt
import Derived.Stop.Joined
set_option linter.unusedVariables false
set_option linter.unusedSimpArgs false
namespace Go.Proofs.YtpjacgcaibaggaaGreatDoor
open Go.RowKit Go.Shelf
open Go.Proofs

theorem oall7 (a b c d e f i : Bool) (w : World) (t : TypeId) (g : Nat) (hg : g = w.heap.size) :
    Calls Tryz.prog 47 #[.slice (some ⟨g, 0, none⟩) 7 7] (w.alloc (.cells #[.bool a, .bool b, .bool c, .bool d, .bool e, .bool f, .bool i] t)) fun e' w' => e' = .returned (.bool (a && b && c && d && e && f && i)) ∧ Ext w w' := by
  subst hg
  have h := oall_row w.heap.size 7 [a, b, c, d, e, f, i] (w.alloc (.cells #[.bool a, .bool b, .bool c, .bool d, .bool e, .bool f, .bool i] t)) (by simp) (RowAt.new _ _ _)
  refine h.mono fun e' w' ⟨h1, h2⟩ => ⟨by rw [h1]; simp [Bool.and_assoc], ((Ext.refl w).alloc _).trans h2⟩
def okF (x : Fau) : Bool := decide (0 ≤ x.fr) && decide (x.fr ≤ x.upto) && decide (x.upto ≤ 1099511627776) && decide (1 ≤ x.kind) && decide (x.kind ≤ 3) && decide (0 ≤ x.delay) && decide (x.delay ≤ 1099511627776)
def faultyB (l : List Fau) : Bool := decide (l.length ≤ 1000) && l.all okF
theorem faulty1_any (x : Fau) (w : World) : Calls Tryz.prog 73 #[.agg (fauC x)] w fun e w' => e = .returned (.bool (!(okF x))) ∧ Ext w w' := by
  have HF : Hid (okF x = (decide (0 ≤ x.fr) && decide (x.fr ≤ x.upto) && decide (x.upto ≤ 1099511627776) && decide (1 ≤ x.kind) && decide (x.kind ≤ 3) && decide (0 ≤ x.delay) && decide (x.delay ≤ 1099511627776))) := Lib.hid rfl
  generalize okF x = R at *
  go_enter Tryz.func73, Tryz.ntmps73
  go_wp2_with (go_at_call 47; refine (oall7 _ _ _ _ _ _ _ _ _ _ (by simp)).mono ?_; rintro e w' ⟨rfl, hxl⟩; obtain ⟨xl, rfl⟩ := hxl.asLater; clear hxl)
  go_ret
  exact ⟨ret_bool (by rw [HF.out]; simp only [Bool.not_and]), (by (repeat (first | with_reducible exact Ext.refl _ | with_reducible exact Ext.refl _ | with_reducible refine Ext.drew ?_ | with_reducible refine Ext.drewN ?_ _ | with_reducible refine Ext.alloc ?_ _ | with_reducible refine Ext.onto ?_ _ | (with_reducible refine Ext.setCells ?_ ?_ _ _; rotate_left; focus (first | omega | (simp; done) | (simp; omega))) | (with_reducible refine Ext.setCell ?_ ?_ _; rotate_left; focus (first | omega | (simp; done) | (simp; omega))))))⟩
theorem all_snocF {l : List Fau} {k : Nat} (h : k < l.length) (h0 : (l.take k).all okF = true) (h1 : okF l[k] = true) : (l.take (k + 1)).all okF = true := by
  rw [List.take_succ_eq_append_getElem h, List.all_append, h0]
  simpa using h1
theorem all_noF {l : List Fau} {k : Nat} (h : k < l.length) (h1 : okF l[k] = false) : l.all okF = false := List.all_eq_false.2 ⟨l[k], List.getElem_mem h, by simp [h1]⟩
set_option maxHeartbeats 1000000 in
theorem findexF_any (A : Option Addr) (c : Nat) (l : List Fau) (w : World) (hl : l.length ≤ 100000) (hr : ReadsFau w w.heap.size A l) :
    Calls Tryz.prog 74 #[.slice A l.length c, .func (.func 73) #[] #[]] w fun e w' => ∃ i : Int, e = .returned (.int .i64 i) ∧ (l.all okF = false → 0 ≤ i) ∧ (l.all okF = true → i = -1) ∧ Ext w w' := by
  have HR := Lib.hid hr
  clear hr
  go_enter Tryz.func74, Tryz.ntmps74
  go_wp2
  go_loopw [8] (fun i wr => ∃ k : Nat, k ≤ l.length ∧ i = .int .i64 k ∧ Ext w wr ∧ Hid ((l.take k).all okF = true)) (fun i _ => l.length - (intOf i).toNat)
  case atStart => exact ⟨0, Nat.zero_le _, rfl, Ext.refl _, Lib.hid rfl⟩
  case round =>
    obtain ⟨k, hk, rfl, hx, HJ⟩ := hrel
    have HX := Lib.hid hx
    by_cases hlt : k < l.length
    · obtain ⟨b, off, rfl, hb, hrow, _, _⟩ := ReadsFau.cell (HR.out.ext hx (Nat.le_refl _)) k hlt
      have hsz := hx.size
      have HP := Lib.hid (fun W : World => faulty1_any l[k] W)
      have HN := Lib.hid (fun h => all_snocF hlt HJ.out h)
      have HM := Lib.hid (fun h => all_noF (l := l) hlt h)
      generalize l[k] = x at *
      clear hx
      cases hv : okF x with
      | false =>
        have HE := Lib.hid (HM.out hv)
        rw [hv] at HP
        clear hv HN HM
        go_wp2_with (go_at_call 73; refine (HP.out _).mono ?_; rintro e w' ⟨rfl, hxl⟩; obtain ⟨xl, rfl⟩ := hxl.asLater; clear hxl)
        go_ret
        exact ⟨k, rfl, fun _ => by omega, fun h => (by rw [HE.out] at h; cases h), (by (repeat (first | with_reducible exact HX.out | with_reducible exact Ext.refl _ | with_reducible refine Ext.drew ?_ | with_reducible refine Ext.drewN ?_ _ | with_reducible refine Ext.alloc ?_ _ | with_reducible refine Ext.onto ?_ _ | (with_reducible refine Ext.setCells ?_ ?_ _ _; rotate_left; focus (first | omega | (simp; done) | (simp; omega))) | (with_reducible refine Ext.setCell ?_ ?_ _; rotate_left; focus (first | omega | (simp; done) | (simp; omega))))))⟩
      | true =>
        have HE := Lib.hid (HN.out hv)
        rw [hv] at HP
        clear hv HN HM
        go_wp2_with (go_at_call 73; refine (HP.out _).mono ?_; rintro e w' ⟨rfl, hxl⟩; obtain ⟨xl, rfl⟩ := hxl.asLater; clear hxl)
        go_roundw
        case rel => exact ⟨k + 1, by omega, by go_num, (by (repeat (first | with_reducible exact HX.out | with_reducible exact Ext.refl _ | with_reducible refine Ext.drew ?_ | with_reducible refine Ext.drewN ?_ _ | with_reducible refine Ext.alloc ?_ _ | with_reducible refine Ext.onto ?_ _ | (with_reducible refine Ext.setCells ?_ ?_ _ _; rotate_left; focus (first | omega | (simp; done) | (simp; omega))) | (with_reducible refine Ext.setCell ?_ ?_ _; rotate_left; focus (first | omega | (simp; done) | (simp; omega)))))), HE⟩
        case measure => simp [intOf]; omega
    · have HE : Hid (l.all okF = true) := Lib.hid (by have h := HJ.out; rwa [List.take_of_length_le (by omega)] at h)
      clear hx
      go_wp2
      go_ret
      exact ⟨-1, rfl, fun h => (by rw [HE.out] at h; cases h), fun _ => rfl, HX.out⟩
theorem fcontF_any (A : Option Addr) (c : Nat) (l : List Fau) (w : World) (hl : l.length ≤ 100000) (hr : ReadsFau w w.heap.size A l) :
    Calls Tryz.prog 72 #[.slice A l.length c, .func (.func 73) #[] #[]] w fun e w' => e = .returned (.bool (!(l.all okF))) ∧ Ext w w' := by
  have H := Lib.hid (findexF_any A c l w hl hr)
  clear hr
  cases hb : l.all okF with
  | false =>
    rw [hb] at H
    go_enter Tryz.func72, Tryz.ntmps72
    go_wp2_with (go_at_call 74; refine H.out.mono ?_; rintro e w' ⟨i, rfl, h1, _, hx⟩; have h2 := h1 rfl; obtain ⟨xl, rfl⟩ := hx.asLater; clear hx h1)
    go_ret
    exact ⟨ret_bool (by first | simp; done | (simp; omega)), (by (repeat (first | with_reducible exact Ext.refl _ | with_reducible exact Ext.refl _ | with_reducible refine Ext.drew ?_ | with_reducible refine Ext.drewN ?_ _ | with_reducible refine Ext.alloc ?_ _ | with_reducible refine Ext.onto ?_ _ | (with_reducible refine Ext.setCells ?_ ?_ _ _; rotate_left; focus (first | omega | (simp; done) | (simp; omega))) | (with_reducible refine Ext.setCell ?_ ?_ _; rotate_left; focus (first | omega | (simp; done) | (simp; omega))))))⟩
  | true =>
    rw [hb] at H
    go_enter Tryz.func72, Tryz.ntmps72
    go_wp2_with (go_at_call 74; refine H.out.mono ?_; rintro e w' ⟨i, rfl, _, h1, hx⟩; have h2 := h1 rfl; subst h2; obtain ⟨xl, rfl⟩ := hx.asLater; clear hx h1)
    go_ret
    exact ⟨ret_bool (by simp), (by (repeat (first | with_reducible exact Ext.refl _ | with_reducible exact Ext.refl _ | with_reducible refine Ext.drew ?_ | with_reducible refine Ext.drewN ?_ _ | with_reducible refine Ext.alloc ?_ _ | with_reducible refine Ext.onto ?_ _ | (with_reducible refine Ext.setCells ?_ ?_ _ _; rotate_left; focus (first | omega | (simp; done) | (simp; omega))) | (with_reducible refine Ext.setCell ?_ ?_ _; rotate_left; focus (first | omega | (simp; done) | (simp; omega))))))⟩
theorem ofaulty_any (A : Option Addr) (c : Nat) (l : List Fau) (w : World) (hl : l.length ≤ 100000) (hr : ReadsFau w w.heap.size A l) :
    Calls Tryz.prog 33 #[.slice A l.length c] w fun e w' => e = .returned (.bool (faultyB l)) ∧ Ext w w' := by
  have H := Lib.hid (fcontF_any A c l w hl hr)
  have HF : Hid (faultyB l = (decide (l.length ≤ 1000) && l.all okF)) := Lib.hid rfl
  generalize faultyB l = R at *
  generalize l.all okF = b at *
  by_cases h : l.length ≤ 1000
  · have d0 : decide ((l.length : Int) ≤ 1000) = true := by simp; omega
    have d1 : decide (l.length ≤ 1000) = true := by simpa using h
    clear hr
    go_enter Tryz.func33, Tryz.ntmps33
    go_wp2_with (go_at_call 72; refine H.out.mono ?_; rintro e w' ⟨rfl, hxl⟩; obtain ⟨xl, rfl⟩ := hxl.asLater; clear hxl)
    go_ret
    exact ⟨ret_bool (by rw [HF.out, d1]; simp), (by (repeat (first | with_reducible exact Ext.refl _ | with_reducible exact Ext.refl _ | with_reducible refine Ext.drew ?_ | with_reducible refine Ext.drewN ?_ _ | with_reducible refine Ext.alloc ?_ _ | with_reducible refine Ext.onto ?_ _ | (with_reducible refine Ext.setCells ?_ ?_ _ _; rotate_left; focus (first | omega | (simp; done) | (simp; omega))) | (with_reducible refine Ext.setCell ?_ ?_ _; rotate_left; focus (first | omega | (simp; done) | (simp; omega))))))⟩
  · have d0 : decide ((l.length : Int) ≤ 1000) = false := by simp; omega
    have d1 : decide (l.length ≤ 1000) = false := by simpa using h
    clear hr
    go_enter Tryz.func33, Tryz.ntmps33
    go_wp2_with (go_at_call 72; refine H.out.mono ?_; rintro e w' ⟨rfl, hxl⟩; obtain ⟨xl, rfl⟩ := hxl.asLater; clear hxl)
    go_ret
    exact ⟨ret_bool (by rw [HF.out, d1]; simp), (by (repeat (first | with_reducible exact Ext.refl _ | with_reducible exact Ext.refl _ | with_reducible refine Ext.drew ?_ | with_reducible refine Ext.drewN ?_ _ | with_reducible refine Ext.alloc ?_ _ | with_reducible refine Ext.onto ?_ _ | (with_reducible refine Ext.setCells ?_ ?_ _ _; rotate_left; focus (first | omega | (simp; done) | (simp; omega))) | (with_reducible refine Ext.setCell ?_ ?_ _; rotate_left; focus (first | omega | (simp; done) | (simp; omega))))))⟩
set_option maxHeartbeats 4000000 in
theorem rfaulty_any (A : Option Addr) (c : Nat) (l : List Fau) (w : World) (hl : l.length ≤ 100000) (hr : ReadsFau w w.heap.size A l) :
    Calls Tryz.prog 34 #[.slice A l.length c] w fun e w' => e = .returned (.bool (faultyB l)) ∧ Ext w w' := by
  have HR := Lib.hid hr
  have HF : Hid (faultyB l = (decide (l.length ≤ 1000) && l.all okF)) := Lib.hid rfl
  generalize faultyB l = R at *
  clear hr
  go_enter Tryz.func34, Tryz.ntmps34
  go_wp2
  go_loopw [3] (fun i wr => ∃ k : Nat, k ≤ l.length ∧ i = .int .i64 k ∧ Hid (Ext w wr) ∧ Hid ((l.take k).all okF = true)) (fun i _ => l.length - (intOf i).toNat)
  case atStart => exact ⟨0, Nat.zero_le _, rfl, Lib.hid (Ext.refl _), Lib.hid rfl⟩
  case round =>
    obtain ⟨k, hk, rfl, HX, HJ⟩ := hrel
    by_cases hlt : k < l.length
    · obtain ⟨b, off, rfl, hb, hrow, _, _⟩ := ReadsFau.cell (HR.out.ext HX.out (Nat.le_refl _)) k hlt
      have hsz := HX.out.size
      have hb2 : b < wr.heap.size := by omega
      have HN := Lib.hid (fun h => all_snocF hlt HJ.out h)
      have HM := Lib.hid (fun h => all_noF (l := l) hlt h)
      generalize l[k] = x at *
      have HOk : Hid (okF x = (decide (0 ≤ x.fr) && decide (x.fr ≤ x.upto) && decide (x.upto ≤ 1099511627776) && decide (1 ≤ x.kind) && decide (x.kind ≤ 3) && decide (0 ≤ x.delay) && decide (x.delay ≤ 1099511627776))) := Lib.hid rfl
      generalize okF x = ok at *
      obtain ⟨x0, x1, x2, x3⟩ := x
      simp only [] at HOk
      by_cases q0 : x0 < 0
      ·
        have ex : decide (x0 < 0) = true := by simpa using q0
        have hok : ok = false := by rw [HOk.out]; rw [Bool.eq_false_iff]; simp; omega
        have HE := Lib.hid (HM.out hok)
        clear HN HM HOk hok q0
        go_wp2
        go_ret
        exact ⟨ret_bool (by rw [HF.out, HE.out]; simp), (by (repeat (first | with_reducible exact HX.out | with_reducible exact Ext.refl _ | with_reducible refine Ext.drew ?_ | with_reducible refine Ext.drewN ?_ _ | with_reducible refine Ext.alloc ?_ _ | with_reducible refine Ext.onto ?_ _ | (with_reducible refine Ext.setCells ?_ ?_ _ _; rotate_left; focus (first | omega | (simp; done) | (simp; omega))) | (with_reducible refine Ext.setCell ?_ ?_ _; rotate_left; focus (first | omega | (simp; done) | (simp; omega))))))⟩
      have e0 : decide (x0 < 0) = false := by simpa using q0
      by_cases q1 : x1 < x0
      ·
        have ex : decide (x1 < x0) = true := by simpa using q1
        have hok : ok = false := by rw [HOk.out]; rw [Bool.eq_false_iff]; simp; omega
        have HE := Lib.hid (HM.out hok)
        clear HN HM HOk hok q1
        go_wp2
        go_ret
        exact ⟨ret_bool (by rw [HF.out, HE.out]; simp), (by (repeat (first | with_reducible exact HX.out | with_reducible exact Ext.refl _ | with_reducible refine Ext.drew ?_ | with_reducible refine Ext.drewN ?_ _ | with_reducible refine Ext.alloc ?_ _ | with_reducible refine Ext.onto ?_ _ | (with_reducible refine Ext.setCells ?_ ?_ _ _; rotate_left; focus (first | omega | (simp; done) | (simp; omega))) | (with_reducible refine Ext.setCell ?_ ?_ _; rotate_left; focus (first | omega | (simp; done) | (simp; omega))))))⟩
      have e1 : decide (x1 < x0) = false := by simpa using q1
      by_cases q2 : 1099511627776 < x1
      ·
        have ex : decide (1099511627776 < x1) = true := by simpa using q2
        have hok : ok = false := by rw [HOk.out]; rw [Bool.eq_false_iff]; simp; omega
        have HE := Lib.hid (HM.out hok)
        clear HN HM HOk hok q2
        go_wp2
        go_ret
        exact ⟨ret_bool (by rw [HF.out, HE.out]; simp), (by (repeat (first | with_reducible exact HX.out | with_reducible exact Ext.refl _ | with_reducible refine Ext.drew ?_ | with_reducible refine Ext.drewN ?_ _ | with_reducible refine Ext.alloc ?_ _ | with_reducible refine Ext.onto ?_ _ | (with_reducible refine Ext.setCells ?_ ?_ _ _; rotate_left; focus (first | omega | (simp; done) | (simp; omega))) | (with_reducible refine Ext.setCell ?_ ?_ _; rotate_left; focus (first | omega | (simp; done) | (simp; omega))))))⟩
      have e2 : decide (1099511627776 < x1) = false := by simpa using q2
      by_cases q3 : x2 < 1
      ·
        have ex : decide (x2 < 1) = true := by simpa using q3
        have hok : ok = false := by rw [HOk.out]; rw [Bool.eq_false_iff]; simp; omega
        have HE := Lib.hid (HM.out hok)
        clear HN HM HOk hok q3
        go_wp2
        go_ret
        exact ⟨ret_bool (by rw [HF.out, HE.out]; simp), (by (repeat (first | with_reducible exact HX.out | with_reducible exact Ext.refl _ | with_reducible refine Ext.drew ?_ | with_reducible refine Ext.drewN ?_ _ | with_reducible refine Ext.alloc ?_ _ | with_reducible refine Ext.onto ?_ _ | (with_reducible refine Ext.setCells ?_ ?_ _ _; rotate_left; focus (first | omega | (simp; done) | (simp; omega))) | (with_reducible refine Ext.setCell ?_ ?_ _; rotate_left; focus (first | omega | (simp; done) | (simp; omega))))))⟩
      have e3 : decide (x2 < 1) = false := by simpa using q3
      by_cases q4 : 3 < x2
      ·
        have ex : decide (3 < x2) = true := by simpa using q4
        have hok : ok = false := by rw [HOk.out]; rw [Bool.eq_false_iff]; simp; omega
        have HE := Lib.hid (HM.out hok)
        clear HN HM HOk hok q4
        go_wp2
        go_ret
        exact ⟨ret_bool (by rw [HF.out, HE.out]; simp), (by (repeat (first | with_reducible exact HX.out | with_reducible exact Ext.refl _ | with_reducible refine Ext.drew ?_ | with_reducible refine Ext.drewN ?_ _ | with_reducible refine Ext.alloc ?_ _ | with_reducible refine Ext.onto ?_ _ | (with_reducible refine Ext.setCells ?_ ?_ _ _; rotate_left; focus (first | omega | (simp; done) | (simp; omega))) | (with_reducible refine Ext.setCell ?_ ?_ _; rotate_left; focus (first | omega | (simp; done) | (simp; omega))))))⟩
      have e4 : decide (3 < x2) = false := by simpa using q4
      by_cases q5 : x3 < 0
      ·
        have ex : decide (x3 < 0) = true := by simpa using q5
        have hok : ok = false := by rw [HOk.out]; rw [Bool.eq_false_iff]; simp; omega
        have HE := Lib.hid (HM.out hok)
        clear HN HM HOk hok q5
        go_wp2
        go_ret
        exact ⟨ret_bool (by rw [HF.out, HE.out]; simp), (by (repeat (first | with_reducible exact HX.out | with_reducible exact Ext.refl _ | with_reducible refine Ext.drew ?_ | with_reducible refine Ext.drewN ?_ _ | with_reducible refine Ext.alloc ?_ _ | with_reducible refine Ext.onto ?_ _ | (with_reducible refine Ext.setCells ?_ ?_ _ _; rotate_left; focus (first | omega | (simp; done) | (simp; omega))) | (with_reducible refine Ext.setCell ?_ ?_ _; rotate_left; focus (first | omega | (simp; done) | (simp; omega))))))⟩
      have e5 : decide (x3 < 0) = false := by simpa using q5
      by_cases q6 : 1099511627776 < x3
      ·
        have ex : decide (1099511627776 < x3) = true := by simpa using q6
        have hok : ok = false := by rw [HOk.out]; rw [Bool.eq_false_iff]; simp; omega
        have HE := Lib.hid (HM.out hok)
        clear HN HM HOk hok q6
        go_wp2
        go_ret
        exact ⟨ret_bool (by rw [HF.out, HE.out]; simp), (by (repeat (first | with_reducible exact HX.out | with_reducible exact Ext.refl _ | with_reducible refine Ext.drew ?_ | with_reducible refine Ext.drewN ?_ _ | with_reducible refine Ext.alloc ?_ _ | with_reducible refine Ext.onto ?_ _ | (with_reducible refine Ext.setCells ?_ ?_ _ _; rotate_left; focus (first | omega | (simp; done) | (simp; omega))) | (with_reducible refine Ext.setCell ?_ ?_ _; rotate_left; focus (first | omega | (simp; done) | (simp; omega))))))⟩
      have e6 : decide (1099511627776 < x3) = false := by simpa using q6
      have hok : ok = true := by rw [HOk.out]; simp; omega
      have HE := Lib.hid (HN.out hok)
      clear HN HM HOk hok q0 q1 q2 q3 q4 q5 q6
      go_wp2
      go_roundw
      case rel => exact ⟨k + 1, by omega, by go_num, Lib.hid (by (repeat (first | with_reducible exact HX.out | with_reducible exact Ext.refl _ | with_reducible refine Ext.drew ?_ | with_reducible refine Ext.drewN ?_ _ | with_reducible refine Ext.alloc ?_ _ | with_reducible refine Ext.onto ?_ _ | (with_reducible refine Ext.setCells ?_ ?_ _ _; rotate_left; focus (first | omega | (simp; done) | (simp; omega))) | (with_reducible refine Ext.setCell ?_ ?_ _; rotate_left; focus (first | omega | (simp; done) | (simp; omega)))))), HE⟩
      case measure => simp [intOf]; omega
    · have HE : Hid (l.all okF = true) := Lib.hid (by have h := HJ.out; rwa [List.take_of_length_le (by omega)] at h)
      go_wp2
      go_ret
      exact ⟨ret_bool (by rw [HF.out, HE.out]; simp; omega), HX.out⟩
end Go.Proofs.YtpjacgcaibaggaaGreatDoor


set_option linter.unusedVariables false
set_option linter.unusedSimpArgs false
namespace Go.Proofs.YtpjacgcaibaggaaGreatDoor
open Go.RowKit Go.Shelf
open Go.Proofs

theorem fau_loaded {w : World} {b : Nat} {x : Fau} (h : rowOf w b 0 4 = some (fauC x)) : (loadVar 99 ⟨b, 0, none⟩).run Tryz.prog w = .ok (.agg (fauC x)) w := run_loadVar_row fau_ty h
def fauB0 : Sem Next := do pure (.value (← Instr.build 99 #[]))
theorem fauB0_x (ρ : Operand → Value) (dst : Option Tmp) (t : TypeId) (pos : String) (after : Array Edge) (guard : Option (Nat × Bool)) : execOp ρ { dst, op := .build 99 #[], type := t, pos, after, guard } = fauB0 := by kernel_rfl
theorem fauB0_run (W : World) : fauB0.run Tryz.prog W = .ok (.value (.agg (fauC noFau))) W := by kernel_rfl
attribute [go_sem ↓] fauB0_x
attribute [go_sem] fauB0_run
set_option maxRecDepth 100000 in
set_option maxHeartbeats 2000000 in
theorem rfault_any (A : Option Addr) (c : Nat) (l : List Fau) (t : Int) (w : World) (hl : l.length ≤ 100000) (hr : ReadsFau w w.heap.size A l) :
    Calls Tryz.prog 81 #[.slice A l.length c, .int .i64 t] w fun e w' => e = .returned (.agg (fauC (faultN l t))) ∧ Ext w w' := by
  have HR := Lib.hid hr
  obtain ⟨F, hF⟩ : ∃ F, faultN l t = F := ⟨_, rfl⟩
  have HF := Lib.hid hF
  rw [hF]
  clear hr hF
  have hft0 := fau_fits noFau
  go_enter Tryz.func81, Tryz.ntmps81
  go_wp2
  go_loopw [5] (fun i wr => ∃ k : Nat, k ≤ l.length ∧ i = .int .i64 k ∧ Hid (Ext w wr) ∧ Hid (RowAt wr w.heap.size (fauC noFau)) ∧ Hid ((l.take k).any (hitF t) = false)) (fun i _ => l.length - (intOf i).toNat)
  case atStart => exact ⟨0, Nat.zero_le _, rfl, Lib.hid ((Ext.refl w).alloc _), Lib.hid (RowAt.new _ _ _), Lib.hid rfl⟩
  case round =>
    obtain ⟨k, hk, rfl, HX, HRw, HJ⟩ := hrel
    have hlr := HRw.out.lt
    have hsz := HX.out.size
    have hrm : roomOf wr w.heap.size 0 4 = true := by rw [HRw.out.room]; rfl
    by_cases hlt : k < l.length
    · obtain ⟨b, off, rfl, hb, hrow, d0, d1⟩ := ReadsFau.cell (HR.out.ext HX.out (Nat.le_refl _)) k hlt
      have hb2 : b < wr.heap.size := by omega
      cases hv : hitF t l[k] with
      | true =>
        have HI := Lib.hid ((fault_hit hlt HJ.out hv).symm.trans HF.out)
        generalize l[k] = x at *
        have hFx : x = F := HI.out
        subst hFx
        have hft := fau_fits x
        simp only [hitF, Bool.and_eq_true, decide_eq_true_eq] at hv
        obtain ⟨v1, v2⟩ := hv
        have e1 : decide (x.fr ≤ t) = true := by simpa using v1
        have e2 : decide (t < x.upto) = true := by simpa using v2
        clear HI HF
        go_wp2
        exact post_one (v := .agg (fauC x)) Tryz.results81 rfl ⟨_, rfl, fau_loaded ((HRw.out.store (ds := fauC x) rfl).all rfl (by omega))⟩ ⟨rfl, Ext.setCells HX.out (Nat.le_refl _) _ _⟩
      | false =>
        have HN := Lib.hid (any_snocF hlt HJ.out hv)
        generalize l[k] = x at *
        by_cases h1 : x.fr ≤ t
        · have e1 : decide (x.fr ≤ t) = true := by simpa using h1
          have h2 : ¬ t < x.upto := fun h => by simp [hitF, h1, h] at hv
          have e2 : decide (t < x.upto) = false := by simpa using h2
          clear hv h1 h2
          go_wp2
          go_roundw
          case rel => exact ⟨k + 1, by omega, by go_num, HX, HRw, HN⟩
          case measure => simp [intOf]; omega
        · have e1 : decide (x.fr ≤ t) = false := by simpa using h1
          clear hv h1
          go_wp2
          go_roundw
          case rel => exact ⟨k + 1, by omega, by go_num, HX, HRw, HN⟩
          case measure => simp [intOf]; omega
    · have hFn : noFau = F := (fault_none (l := l) (t := t) (by have h := HJ.out; rwa [List.take_of_length_le (by omega)] at h)).symm.trans HF.out
      subst hFn
      clear HF
      go_wp2
      exact post_one (v := .agg (fauC noFau)) Tryz.results81 rfl ⟨_, rfl, fau_loaded ((HRw.out.store (ds := fauC noFau) rfl).all rfl (by omega))⟩ ⟨rfl, Ext.setCells HX.out (Nat.le_refl _) _ _⟩
set_option maxRecDepth 100000 in
set_option maxHeartbeats 2000000 in
theorem rgiven_any (base : Nat) (A : Option Addr) (c : Nat) (out : List Giv) (Av : Option Addr) (cv : Nat) (lv : List Ver) (t : Int) (known : List Int) (w : World) (hb : base ≤ w.heap.size) (ho : OwnsGiv base w A c out) (hol : out.length ≤ 8) (hl : lv.length ≤ 100000) (hr : ReadsVer w w.heap.size Av lv) (h16 : known.length = 16) (hby : Byt known) (hla : lastAt lv t lv.length = atN lv t) (hv : VerIn (atN lv t)) (hk : RKonst w) :
    Calls Tryz.prog 82 #[.slice A out.length c, .slice Av lv.length cv, .int .i64 t, .agg (dgC known)] w fun e w' => ∃ A' c', e = .returned (.slice A' (giveN lv known out t).length c') ∧ OwnsGiv base w' A' c' (giveN lv known out t) ∧ Below base w w' := by
  have HO := Lib.hid ho
  have HAn : Hid (∀ (W : World) (hx : Ext w W), Calls Tryz.prog 20 #[.slice Av lv.length cv, .int .i64 t, .agg (dgC known)] W fun e w' => e = .returned (.agg (anC (ansOf (atN lv t) known))) ∧ Ext W w') := Lib.hid (fun W hx => by
    have h := ranswer_any Av cv lv t known W hl (hr.on hx) h16 hby (by rw [hla]; exact hv) (RowAt.ext hk hx)
    rwa [hla] at h)
  obtain ⟨L, hL⟩ : ∃ L, giveN lv known out t = L := ⟨_, rfl⟩
  have HL : Hid (L = if t ≤ 1099511627776 then out ++ [(t, ansOf (atN lv t) known)] else out) := Lib.hid (by rw [← hL]; rfl)
  rw [hL]
  clear ho hr h16 hby hla hv hk hL
  generalize ansOf (atN lv t) known = an at *
  by_cases ht : t ≤ 1099511627776
  · have HL' : Hid (L = out ++ [(t, an)]) := Lib.hid (HL.out.trans (if_pos ht))
    have e0 : decide (1099511627776 < t) = false := by simp; omega
    clear HL ht
    go_enter Tryz.func82, Tryz.ntmps82
    go_wp2_with (go_at_call 20; refine (show Hid _ from ?_).out)
    refine Lib.hid ?_
    refine (HAn.out _ ((Ext.refl w).alloc _)).mono ?_
    rintro e w' ⟨rfl, hxl⟩; obtain ⟨xl, rfl⟩ := hxl.asLater; clear hxl
    have HW : Hid (Ext w (later (w.alloc (.cells (dgC known) 24)) xl)) := Lib.hid (((Ext.refl w).alloc _).onto _)
    have HOw : Hid (OwnsGiv base (later (w.alloc (.cells (dgC known) 24)) xl) A c out) := Lib.hid (HO.out.ext HW.out)
    have hsW := HW.out.size
    go_wp2_with (at_builtin; refine app_reads gvT gvE rfl _ _ rfl base A c out rfl (HOw.out.alloc _) _ (some ⟨w.heap.size + 1 + xl.n, 0, none⟩) 1 [(t, an)] rfl (reads_freshAt gvE [(t, an)] _ _ _ _ (by simp [later_size]) (by simp [gvL])) (fun h => by cases h) (by simp; omega) (by simp; omega) (by simp [later_size]; omega) ?_; intro A5 c5 l5 w5 HL5 HO5 hB5 hl1 hl2 _; have HO5' := Lib.hid HO5; have HB5 := Lib.hid hB5; clear HO5 hB5)
    go_ret
    rw [HL'.out, ← HL5.out]
    exact ⟨A5, c5, rfl, HO5'.out, Below.trans (Below.mono (HW.out.alloc _) hb) HB5.out⟩
  · have HL' : Hid (L = out) := Lib.hid (HL.out.trans (if_neg ht))
    have e0 : decide (1099511627776 < t) = true := by simp; omega
    clear HL ht
    go_enter Tryz.func82, Tryz.ntmps82
    go_wp2
    go_ret
    rw [HL'.out]
    exact ⟨A, c, rfl, HO.out.ext ((Ext.refl w).alloc _), Below.alloc (Below.refl _ _) hb _⟩
theorem row_below {B : Nat} {w w' : World} (hx : Below B w w') {b : Nat} (hb : b < B) (o n : Nat) : rowOf w' b o n = rowOf w b o n := rowOf_congr (fun i _ => hx.cell (p := ⟨b, o + i, none⟩) hb)
theorem srv_ty : RowTy Tryz.prog 74 2 := ⟨by kernel_rfl, by kernel_rfl⟩
set_option maxRecDepth 100000 in
set_option maxHeartbeats 8000000 in
theorem rserve_any (Av Af : Option Addr) (cv cf : Nat) (lv : List Ver) (lf : List Fau) (t : Int) (known : List Int) (w : World) (hl : lv.length ≤ 100000) (hlf : lf.length ≤ 100000) (hr : ReadsVer w w.heap.size Av lv) (hrf : ReadsFau w w.heap.size Af lf) (h16 : known.length = 16) (hby : Byt known) (hla : ∀ u, lastAt lv u lv.length = atN lv u) (hv : ∀ t, VerIn (atN lv t)) (hs : i64 (t + (faultN lf t).delay)) (hkd : 0 ≤ (faultN lf t).kind ∧ (faultN lf t).kind ≤ 3) (hk : RKonst w) :
    Calls Tryz.prog 36 #[.slice Av lv.length cv, .slice Af lf.length cf, .int .i64 t, .agg (dgC known)] w fun e w' => ∃ A c, e = .returned (.agg #[.slice A (servedN lv known t (faultN lf t)).length c, .int .i64 (servE (servedN lv known t (faultN lf t)))]) ∧ Reads 22 gvL w' w'.heap.size A (servedN lv known t (faultN lf t)) ∧ Ext w w' := by
  have HFa := Lib.hid (fun (W : World) (hx : Ext w W) => rfault_any Af cf lf t W hlf (hrf.on hx))
  have HG := Lib.hid (fun (base : Nat) (A : Option Addr) (c : Nat) (out : List Giv) (u : Int) (W : World) (hx : Ext w W) (hb : base ≤ W.heap.size) (ho : OwnsGiv base W A c out) (hol : out.length ≤ 8) => rgiven_any base A c out Av cv lv u known W hb ho hol hl (hr.on hx) h16 hby (hla u) (hv u) (RowAt.ext hk hx))
  generalize faultN lf t = x at *
  obtain ⟨S, hS⟩ : ∃ S, servedN lv known t x = S := ⟨_, rfl⟩
  have HS := Lib.hid hS
  rw [hS]
  have hft := fau_fits x
  clear hl hlf hr hrf h16 hby hla hv hk hS
  go_enter Tryz.func36, Tryz.ntmps36
  go_upto_region 2 with (go_at_call 81; refine (HFa.out _ (by (repeat (first | with_reducible exact Ext.refl _ | with_reducible exact Ext.refl _ | with_reducible refine Ext.drew ?_ | with_reducible refine Ext.drewN ?_ _ | with_reducible refine Ext.alloc ?_ _ | with_reducible refine Ext.onto ?_ _ | (with_reducible refine Ext.setCells ?_ ?_ _ _; rotate_left; focus (first | omega | (simp; done) | (simp; omega))) | (with_reducible refine Ext.setCell ?_ ?_ _; rotate_left; focus (first | omega | (simp; done) | (simp; omega))))))).mono ?_; rintro e w' ⟨rfl, hxl⟩; obtain ⟨xl, rfl⟩ := hxl.asLater; clear hxl)
  refine wp_world (fun W => Ext w W ∧ RowAt W w.heap.size (dgC known) ∧ RowAt W (w.heap.size + 1) #[.slice none 0 0, .int .i64 0] ∧ RowAt W (w.heap.size + 1 + 1 + xl.n) (fauC x)) ⟨(by (repeat (first | with_reducible exact Ext.refl _ | with_reducible exact Ext.refl _ | with_reducible refine Ext.drew ?_ | with_reducible refine Ext.drewN ?_ _ | with_reducible refine Ext.alloc ?_ _ | with_reducible refine Ext.onto ?_ _ | (with_reducible refine Ext.setCells ?_ ?_ _ _; rotate_left; focus (first | omega | (simp; done) | (simp; omega))) | (with_reducible refine Ext.setCell ?_ ?_ _; rotate_left; focus (first | omega | (simp; done) | (simp; omega)))))), ?_, ?_, ?_⟩ ?_
  · exact (((((RowAt.new _ _ _).alloc _).later _).alloc _).others (by omega) _ _)
  · exact ((((RowAt.newAt (cs := #[.slice none 0 0, .int .i64 0]) (by simp)).later _).alloc _).others (by omega) _ _)
  · exact (RowAt.newAt (cs := fauC noFau) (t := 99) (by simp [later_size])).store rfl
  have hB9 : w.heap.size + 1 < w.heap.size + 1 + 1 + xl.n := by omega
  generalize w.heap.size + 1 + 1 + xl.n = B9 at *
  rintro W1 ⟨x1, k1, t1, u1⟩
  have HX1 := Lib.hid x1
  have HT1 := Lib.hid t1
  have hk1 : rowOf W1 w.heap.size 0 16 = some (dgC known) := k1.all rfl (by omega)
  have z2 : W1.cell? ⟨B9, 2, none⟩ = some (.int .i64 x.kind) := u1.cell 2
  have z3 : W1.cell? ⟨B9, 3, none⟩ = some (.int .i64 x.delay) := u1.cell 3
  have s0 : W1.cell? ⟨w.heap.size + 1, 0, none⟩ = some (.slice none 0 0) := t1.cell 0
  have s1 : W1.cell? ⟨w.heap.size + 1, 1, none⟩ = some (.int .i64 0) := t1.cell 1
  have sf := t1.free
  have hlk := k1.lt
  have hlu := u1.lt
  have hlt := t1.lt
  clear x1 t1 k1 u1
  have HG1 : Hid (∀ (A : Option Addr) (c : Nat) (out : List Giv) (u : Int) (W : World), Below W1.heap.size W1 W → OwnsGiv W1.heap.size W A c out → out.length ≤ 8 → Calls Tryz.prog 82 #[.slice A out.length c, .slice Av lv.length cv, .int .i64 u, .agg (dgC known)] W fun e w' => ∃ A' c', e = .returned (.slice A' (giveN lv known out u).length c') ∧ OwnsGiv W1.heap.size w' A' c' (giveN lv known out u) ∧ Below W1.heap.size W w') :=
    Lib.hid (fun A c out u W hB ho hol => HG.out W1.heap.size A c out u W (HX1.out.grown hB HX1.out.size) hB.size ho hol)
  clear HG HFa
  obtain ⟨hk0, hk3⟩ := hkd
  have hk4 : x.kind = 0 ∨ x.kind = 1 ∨ x.kind = 2 ∨ x.kind = 3 := by omega
  rcases hk4 with hk4 | hk4 | hk4 | hk4
  · have hL : giveN lv known [] t = S := (show servedN lv known t x = _ by simp [servedN, hk4]).symm.trans HS.out
    rw [hk4] at z2
    have HG2 := Lib.hid (HG1.out none 0 [] t W1 (Below.refl _ _) (Owns.nil _ _ _ _ _) (by simp))
    rw [hL] at HG2
    clear HG1 hL HS hk4 hk0 hk3 hs
    go_wp2_with (go_at_call 82; refine (show Hid _ from ?_).out)
    refine Lib.hid ?_
    refine HG2.out.mono ?_
    rintro e w2 ⟨A2, c2, rfl, ho2, hb2⟩
    have HO2 := Lib.hid ho2
    clear ho2
    have y2 := (hb2.cell (p := ⟨B9, 2, none⟩) hlu).trans z2
    have y3 := (hb2.cell (p := ⟨B9, 3, none⟩) hlu).trans z3
    have yk : rowOf w2 w.heap.size 0 16 = some (dgC known) := (row_below hb2 hlk 0 16).trans hk1
    have ht2 := HT1.out.below hb2 hlt
    have y0 : w2.cell? ⟨w.heap.size + 1, 0, none⟩ = some (.slice none 0 0) := ht2.cell 0
    have y1 : w2.cell? ⟨w.heap.size + 1, 1, none⟩ = some (.int .i64 0) := ht2.cell 1
    have yf := ht2.free
    have HT2 := Lib.hid ht2
    have HB2 := Lib.hid hb2
    have hs2 := hb2.size
    clear hb2 ht2
    go_upto_region 9 with (fail)
    by_cases hS0 : S = []
    ·
      have hS1 : S.length = 0 := by rw [hS0]; rfl
      have hv1 : servE S = 340 := if_pos hS0
      have hS2 : ¬ 0 < S.length := by omega
      go_wp2
      refine post_row srv_ty Tryz.results36 rfl rfl (RowAt.set2 HT2.out _ _) ⟨none, 0, by rw [hS1, hv1], by rw [hS0]; exact fun h => absurd h (by simp), ?_⟩
      exact ((HX1.out.grown HB2.out HX1.out.size).setCell (by show _ ≤ w.heap.size + 1; omega) _).setCell (by show _ ≤ w.heap.size + 1; omega) _
    ·
      have hS1 : 0 < S.length := by rcases S with _ | ⟨a, S'⟩; exact absurd rfl hS0; simp
      have hv1 : servE S = 0 := if_neg hS0
      go_wp2
      refine post_row srv_ty Tryz.results36 rfl rfl (RowAt.set2 HT2.out _ _) ⟨A2, c2, by rw [hv1], ?_, ?_⟩
      · exact ((HO2.out.other (p := ⟨w.heap.size + 1, 0, none⟩) hlt _).other (p := ⟨w.heap.size + 1, 1, none⟩) hlt _).reads gvE
      · exact ((HX1.out.grown HB2.out HX1.out.size).setCell (by show _ ≤ w.heap.size + 1; omega) _).setCell (by show _ ≤ w.heap.size + 1; omega) _
  · have hL : [] = S := (show servedN lv known t x = _ by simp [servedN, hk4]).symm.trans HS.out
    subst hL
    rw [hk4] at z2
    clear HG1 HS hk4 hk0 hk3 hs
    go_wp2
    refine post_row srv_ty Tryz.results36 rfl rfl (RowAt.set2 HT1.out _ _) ⟨none, 0, rfl, fun h => absurd h (by simp), ?_⟩
    exact ((HX1.out).setCell (by show _ ≤ w.heap.size + 1; omega) _).setCell (by show _ ≤ w.heap.size + 1; omega) _
  · have hL : giveN lv known [] (t + x.delay) = S := (show servedN lv known t x = _ by simp [servedN, hk4]).symm.trans HS.out
    rw [hk4] at z2
    have HG2 := Lib.hid (HG1.out none 0 [] (t + x.delay) W1 (Below.refl _ _) (Owns.nil _ _ _ _ _) (by simp))
    rw [hL] at HG2
    obtain ⟨hs1, hs2⟩ := hs
    clear HG1 hL HS hk4 hk0 hk3
    go_wp2_with (go_at_call 82; refine (show Hid _ from ?_).out)
    refine Lib.hid ?_
    refine HG2.out.mono ?_
    rintro e w2 ⟨A2, c2, rfl, ho2, hb2⟩
    have HO2 := Lib.hid ho2
    clear ho2 hs1 hs2
    have y2 := (hb2.cell (p := ⟨B9, 2, none⟩) hlu).trans z2
    have y3 := (hb2.cell (p := ⟨B9, 3, none⟩) hlu).trans z3
    have yk : rowOf w2 w.heap.size 0 16 = some (dgC known) := (row_below hb2 hlk 0 16).trans hk1
    have ht2 := HT1.out.below hb2 hlt
    have y0 : w2.cell? ⟨w.heap.size + 1, 0, none⟩ = some (.slice none 0 0) := ht2.cell 0
    have y1 : w2.cell? ⟨w.heap.size + 1, 1, none⟩ = some (.int .i64 0) := ht2.cell 1
    have yf := ht2.free
    have HT2 := Lib.hid ht2
    have HB2 := Lib.hid hb2
    have hs2 := hb2.size
    clear hb2 ht2
    go_upto_region 9 with (fail)
    by_cases hS0 : S = []
    ·
      have hS1 : S.length = 0 := by rw [hS0]; rfl
      have hv1 : servE S = 340 := if_pos hS0
      have hS2 : ¬ 0 < S.length := by omega
      go_wp2
      refine post_row srv_ty Tryz.results36 rfl rfl (RowAt.set2 HT2.out _ _) ⟨none, 0, by rw [hS1, hv1], by rw [hS0]; exact fun h => absurd h (by simp), ?_⟩
      exact ((HX1.out.grown HB2.out HX1.out.size).setCell (by show _ ≤ w.heap.size + 1; omega) _).setCell (by show _ ≤ w.heap.size + 1; omega) _
    ·
      have hS1 : 0 < S.length := by rcases S with _ | ⟨a, S'⟩; exact absurd rfl hS0; simp
      have hv1 : servE S = 0 := if_neg hS0
      go_wp2
      refine post_row srv_ty Tryz.results36 rfl rfl (RowAt.set2 HT2.out _ _) ⟨A2, c2, by rw [hv1], ?_, ?_⟩
      · exact ((HO2.out.other (p := ⟨w.heap.size + 1, 0, none⟩) hlt _).other (p := ⟨w.heap.size + 1, 1, none⟩) hlt _).reads gvE
      · exact ((HX1.out.grown HB2.out HX1.out.size).setCell (by show _ ≤ w.heap.size + 1; omega) _).setCell (by show _ ≤ w.heap.size + 1; omega) _
  · have hL : giveN lv known (giveN lv known [] t) (t + x.delay) = S := (show servedN lv known t x = _ by simp [servedN, hk4]).symm.trans HS.out
    rw [hk4] at z2
    have hl1 : (giveN lv known [] t).length ≤ 8 := by unfold giveN; split <;> simp
    have HG2 := Lib.hid (HG1.out none 0 [] t W1 (Below.refl _ _) (Owns.nil _ _ _ _ _) (by simp))
    have HG3 := Lib.hid (fun A c W hB ho => HG1.out A c (giveN lv known [] t) (t + x.delay) W hB ho hl1)
    rw [hL] at HG3
    generalize giveN lv known [] t = S1 at *
    obtain ⟨hs1, hs2⟩ := hs
    clear HG1 hL HS hk4 hk0 hk3
    go_wp2_with (go_at_call 82; refine (show Hid _ from ?_).out)
    refine Lib.hid ?_
    refine HG2.out.mono ?_
    rintro e w3 ⟨A3, c3, rfl, ho3, hb3⟩
    have HG4 := Lib.hid (HG3.out A3 c3 w3 hb3 ho3)
    have u2 := (hb3.cell (p := ⟨B9, 2, none⟩) hlu).trans z2
    have u3 := (hb3.cell (p := ⟨B9, 3, none⟩) hlu).trans z3
    have uk : rowOf w3 w.heap.size 0 16 = some (dgC known) := (row_below hb3 hlk 0 16).trans hk1
    have hl9 := hb3.size
    have HB3 := Lib.hid hb3
    clear HG3 HG2 ho3 hb3
    go_wp2_with (go_at_call 82; refine (show Hid _ from ?_).out)
    refine Lib.hid ?_
    refine HG4.out.mono ?_
    rintro e w2 ⟨A2, c2, rfl, ho2, hb2'⟩
    have hb2 : Below W1.heap.size W1 w2 := Below.trans HB3.out hb2'
    have HO2 := Lib.hid ho2
    clear ho2 hs1 hs2 hb2' u2 u3 uk HB3 hl9
    have y2 := (hb2.cell (p := ⟨B9, 2, none⟩) hlu).trans z2
    have y3 := (hb2.cell (p := ⟨B9, 3, none⟩) hlu).trans z3
    have yk : rowOf w2 w.heap.size 0 16 = some (dgC known) := (row_below hb2 hlk 0 16).trans hk1
    have ht2 := HT1.out.below hb2 hlt
    have y0 : w2.cell? ⟨w.heap.size + 1, 0, none⟩ = some (.slice none 0 0) := ht2.cell 0
    have y1 : w2.cell? ⟨w.heap.size + 1, 1, none⟩ = some (.int .i64 0) := ht2.cell 1
    have yf := ht2.free
    have HT2 := Lib.hid ht2
    have HB2 := Lib.hid hb2
    have hs2 := hb2.size
    clear hb2 ht2
    go_upto_region 9 with (fail)
    by_cases hS0 : S = []
    ·
      have hS1 : S.length = 0 := by rw [hS0]; rfl
      have hv1 : servE S = 340 := if_pos hS0
      have hS2 : ¬ 0 < S.length := by omega
      go_wp2
      refine post_row srv_ty Tryz.results36 rfl rfl (RowAt.set2 HT2.out _ _) ⟨none, 0, by rw [hS1, hv1], by rw [hS0]; exact fun h => absurd h (by simp), ?_⟩
      exact ((HX1.out.grown HB2.out HX1.out.size).setCell (by show _ ≤ w.heap.size + 1; omega) _).setCell (by show _ ≤ w.heap.size + 1; omega) _
    ·
      have hS1 : 0 < S.length := by rcases S with _ | ⟨a, S'⟩; exact absurd rfl hS0; simp
      have hv1 : servE S = 0 := if_neg hS0
      go_wp2
      refine post_row srv_ty Tryz.results36 rfl rfl (RowAt.set2 HT2.out _ _) ⟨A2, c2, by rw [hv1], ?_, ?_⟩
      · exact ((HO2.out.other (p := ⟨w.heap.size + 1, 0, none⟩) hlt _).other (p := ⟨w.heap.size + 1, 1, none⟩) hlt _).reads gvE
      · exact ((HX1.out.grown HB2.out HX1.out.size).setCell (by show _ ≤ w.heap.size + 1; omega) _).setCell (by show _ ≤ w.heap.size + 1; omega) _
end Go.Proofs.YtpjacgcaibaggaaGreatDoor


set_option linter.unusedVariables false
set_option linter.unusedSimpArgs false
namespace Go.Proofs.YtpjacgcaibaggaaGreatDoor
open Go.RowKit Go.Shelf
open Go.Proofs

def noGiv : Giv := (0, noAn)
theorem giv_ty : RowTy Tryz.prog 92 22 := ⟨by kernel_rfl, by kernel_rfl⟩
theorem giv_ld (w : World) (b o : Nat) : (rowLoad 92 22 (.pointer (some ⟨b, o, none⟩))).run Tryz.prog w = rowLoadR Tryz.prog w 92 22 b o (rowOf w b o 22) := run_rowLoad giv_ty w b o
theorem giv_st (w : World) (b o : Nat) (cells : Array Value) : (rowStore 92 22 (.pointer (some ⟨b, o, none⟩)) (.agg cells)).run Tryz.prog w = rowStoreR Tryz.prog w 92 22 b o cells (roomOf w b o 22 && fitsRow 22 cells) := run_rowStore giv_ty w b o cells
theorem giv_lv (w : World) (b o : Nat) : (loadVar 92 ⟨b, o, none⟩).run Tryz.prog w = varRes Tryz.prog w 92 b o (rowOf w b o 22) := loadVar_row giv_ty w b o
theorem giv_al (w : World) : (rowAlloc 92).run Tryz.prog w = .ok (.value (.pointer (some ⟨w.heap.size, 0, none⟩))) (w.alloc (.cells (gvC noGiv) 92)) := run_rowAlloc (by kernel_rfl) w
theorem giv_xl (ρ : Operand → Value) (dst : Option Tmp) (x : Operand) (t : TypeId) (pos : String) (after : Array Edge) (guard : Option (Nat × Bool)) : execOp ρ { dst, op := .load 92 x, type := t, pos, after, guard } = rowLoad 92 22 (ρ x) := rfl
theorem giv_xs (ρ : Operand → Value) (dst : Option Tmp) (x y : Operand) (t : TypeId) (pos : String) (after : Array Edge) (guard : Option (Nat × Bool)) : execOp ρ { dst, op := .store 92 x y, type := t, pos, after, guard } = rowStore 92 22 (ρ x) (ρ y) := rfl
theorem giv_xa (ρ : Operand → Value) (dst : Option Tmp) (t : TypeId) (pos : String) (after : Array Edge) (guard : Option (Nat × Bool)) : execOp ρ { dst, op := .alloc 92, type := t, pos, after, guard } = rowAlloc 92 := rfl
attribute [go_sem ↓] giv_xl giv_xs giv_xa
attribute [go_sem] giv_ld giv_st giv_al
theorem dgx_self (a0 a1 a2 a3 a4 a5 a6 a7 a8 a9 a10 a11 a12 a13 a14 a15 : Int) (W : World) : (Op.equalIn 9998 24 (.agg #[.int .u8 a0, .int .u8 a1, .int .u8 a2, .int .u8 a3, .int .u8 a4, .int .u8 a5, .int .u8 a6, .int .u8 a7, .int .u8 a8, .int .u8 a9, .int .u8 a10, .int .u8 a11, .int .u8 a12, .int .u8 a13, .int .u8 a14, .int .u8 a15]) (.agg #[.int .u8 a0, .int .u8 a1, .int .u8 a2, .int .u8 a3, .int .u8 a4, .int .u8 a5, .int .u8 a6, .int .u8 a7, .int .u8 a8, .int .u8 a9, .int .u8 a10, .int .u8 a11, .int .u8 a12, .int .u8 a13, .int .u8 a14, .int .u8 a15])).run Tryz.prog W = .ok true W := by
  have hc : Tryz.prog.cellsOf 5 = 1 := by kernel_rfl
  have hr : List.range 16 = [0, 1, 2, 3, 4, 5, 6, 7, 8, 9, 10, 11, 12, 13, 14, 15] := by decide
  have hinf : (Tryz.prog.info? 5).map (fun i => (i.zero, i.size, i.bytes)) = some (some (.int .u8 0), 1, 1) := by kernel_rfl
  obtain ⟨i, hi, _, _, _⟩ := info_parts hinf
  rw [run_equalIn_array W 9997 (t := 24) (e := 5) (n := 16) _ _ (by kernel_rfl) hi, hc, hr]
  simp [Op.eqItems, go_sem]
theorem giv_self (g : Giv) (W : World) : (binOp .neq 92 (.agg (gvC g)) (.agg (gvC g))).run Tryz.prog W = .ok (.bool false) W := by
  rw [run_neq_struct]
  simp [go_sem, gvC, anC, dgC, dgx_self]
attribute [local go_sem ↓] giv_self
abbrev ReadsGiv (w : World) (B : Nat) (A : Option Addr) (l : List Giv) : Prop := Reads 22 gvL w B A l
theorem ReadsGiv.row {w : World} {B : Nat} {A : Option Addr} {l : List Giv} (h : ReadsGiv w B A l) (i : Nat) (hi : i < l.length) : ∃ b off, A = some ⟨b, off, none⟩ ∧ b < B ∧ rowOf w b (off + i * 22) 22 = some (gvC l[i]) := by
  obtain ⟨b, off, h1, h2, h3⟩ := h (by omega)
  refine ⟨b, off, h1, h2, rowOf_some rfl fun j hj => ?_⟩
  have hlen : (gvL l[i]).length = 22 := rfl
  have k := h3 i hi j ((gvL l[i])[j]'(by omega)) (List.getElem?_eq_getElem _)
  rw [k, ← List.getElem?_eq_getElem]
  show (gvC l[i]).toList[j]? = (gvC l[i])[j]?
  rw [Array.getElem?_toList]
set_option maxRecDepth 100000 in
set_option maxHeartbeats 2000000 in
theorem rsame_any (A A2 : Option Addr) (c c2 : Nat) (l : List Giv) (w : World) (hl : l.length ≤ 100000) (hr : ReadsGiv w w.heap.size A l) (hr2 : ReadsGiv w w.heap.size A2 l) :
    Calls Tryz.prog 37 #[.slice A l.length c, .slice A2 l.length c2] w fun e w' => e = .returned (.bool true) ∧ Ext w w' := by
  have HR := Lib.hid hr
  have HR2 := Lib.hid hr2
  clear hr hr2
  go_enter Tryz.func37, Tryz.ntmps37
  go_wp2
  go_loopw [5] (fun i wr => ∃ k : Nat, k ≤ l.length ∧ i = .int .i64 k ∧ Hid (Ext w wr)) (fun i _ => l.length - (intOf i).toNat)
  case atStart => exact ⟨0, Nat.zero_le _, rfl, Lib.hid (Ext.refl _)⟩
  case round =>
    obtain ⟨k, hk, rfl, HX⟩ := hrel
    by_cases hlt : k < l.length
    · obtain ⟨b, off, rfl, hb, hrow⟩ := ReadsGiv.row (HR.out.ext HX.out (Nat.le_refl _)) k hlt
      obtain ⟨b2, off2, rfl, hb2, hrow2⟩ := ReadsGiv.row (HR2.out.ext HX.out (Nat.le_refl _)) k hlt
      have hsz := HX.out.size
      have hb' : b < wr.heap.size := by omega
      have hb2' : b2 < wr.heap.size := by omega
      generalize l[k] = g at *
      go_wp2
      refine wp_region_later (by kernel_rfl) (by kernel_rfl) ?_
      repeat (first | go_big_quiet_step (fail) | quiet_step (fail))
      refine wpQuiet_nil ?_
      rintro _ ⟨xq, rfl⟩
      go_wp2
      go_roundw
      case rel => exact ⟨k + 1, by omega, by go_num, Lib.hid (by (repeat (first | with_reducible exact HX.out | with_reducible exact Ext.refl _ | with_reducible refine Ext.drew ?_ | with_reducible refine Ext.drewN ?_ _ | with_reducible refine Ext.alloc ?_ _ | with_reducible refine Ext.onto ?_ _ | (with_reducible refine Ext.setCells ?_ ?_ _ _; rotate_left; focus (first | omega | (simp; done) | (simp; omega))) | (with_reducible refine Ext.setCell ?_ ?_ _; rotate_left; focus (first | omega | (simp; done) | (simp; omega))))))⟩
      case measure => simp [intOf]; omega
    · go_wp2
      go_ret
      exact ⟨rfl, HX.out⟩
end Go.Proofs.YtpjacgcaibaggaaGreatDoor


set_option linter.unusedVariables false
set_option linter.unusedSimpArgs false
namespace Go.Proofs.YtpjacgcaibaggaaGreatDoor
open Go.RowKit Go.Shelf
open Go.Proofs

theorem okF_is {x : Fau} (h : okF x = true) : 0 ≤ x.fr ∧ x.fr ≤ x.upto ∧ x.upto ≤ 1099511627776 ∧ 1 ≤ x.kind ∧ x.kind ≤ 3 ∧ 0 ≤ x.delay ∧ x.delay ≤ 1099511627776 := by
  simp only [okF, Bool.and_eq_true, decide_eq_true_eq] at h
  omega
theorem fault_or (l : List Fau) (t : Int) : faultN l t = noFau ∨ faultN l t ∈ l := by
  unfold faultN
  cases h : l.find? (hitF t) with
  | none => exact .inl rfl
  | some x => exact .inr (List.mem_of_find?_eq_some h)
theorem fault_in {l : List Fau} {t : Int} (h : faultyB l = true) : 0 ≤ (faultN l t).kind ∧ (faultN l t).kind ≤ 3 ∧ 0 ≤ (faultN l t).delay ∧ (faultN l t).delay ≤ 1099511627776 := by
  simp only [faultyB, Bool.and_eq_true, List.all_eq_true] at h
  rcases fault_or l t with e | e
  · rw [e]; decide
  · have := okF_is (h.2 _ e)
    omega
theorem inst_is {t : Int} (h : instB t = true) : 0 ≤ t ∧ t ≤ 1099511627776 := by
  simp only [instB, Bool.and_eq_true, decide_eq_true_eq] at h
  exact h
set_option maxRecDepth 100000 in
set_option maxHeartbeats 4000000 in
theorem serves_ok (A : Option Addr) (c : Nat) (l : List Ver) (A2 : Option Addr) (c2 : Nat) (lf : List Fau) (t : Int) (known : List Int) (w : World) (hl : l.length ≤ 9223372036854775807) (hz : ∀ v ∈ l, v.bytes.size ≤ 9223372036854775807 ∧ v.tags.size ≤ 9223372036854775807) (hr : ReadsVer w w.heap.size A l) (hlf : lf.length ≤ 9223372036854775807) (hrf : ReadsFau w w.heap.size A2 lf) (h16 : known.length = 16) (hby : Byt known)
    (hk : Konst 0 w) (hrk : RKonst w) :
    Calls Tryz.prog 7 #[.slice A l.length c, .slice A2 lf.length c2, .int .i64 t, .agg (dgC known)] w fun e w' => e = .returned (.bool true) ∧ Ext w w' := by
  have HS := Lib.hid (fun (W : World) (hx : Ext w W) => sanity34 W (RowAt.ext hk hx))
  have HF := Lib.hid (fun (W : World) (hx : Ext w W) => few_any A c l 20 W hl hz (hr.on hx))
  cases hf : fewB l 20 with
  | false =>
    have Hf := Lib.hid hf
    clear hl hz hr hk hrk hf hrf
    go_enter Tryz.func7, Tryz.ntmps7
    go_wp2_with (first
      | (go_at_call 10; refine (HF.out _ (by (repeat (first | with_reducible exact Ext.refl _ | with_reducible exact Ext.refl _ | with_reducible refine Ext.drew ?_ | with_reducible refine Ext.drewN ?_ _ | with_reducible refine Ext.alloc ?_ _ | with_reducible refine Ext.onto ?_ _ | (with_reducible refine Ext.setCells ?_ ?_ _ _; rotate_left; focus (first | omega | (simp; done) | (simp; omega))) | (with_reducible refine Ext.setCell ?_ ?_ _; rotate_left; focus (first | omega | (simp; done) | (simp; omega))))))).mono ?_; rintro e w' ⟨rfl, hxk⟩; rw [Hf.out]; obtain ⟨xk, rfl⟩ := hxk.asLater; clear hxk)
      | (go_at_call 13; refine (HV2.out _ (by (repeat (first | with_reducible exact Ext.refl _ | with_reducible exact Ext.refl _ | with_reducible refine Ext.drew ?_ | with_reducible refine Ext.drewN ?_ _ | with_reducible refine Ext.alloc ?_ _ | with_reducible refine Ext.onto ?_ _ | (with_reducible refine Ext.setCells ?_ ?_ _ _; rotate_left; focus (first | omega | (simp; done) | (simp; omega))) | (with_reducible refine Ext.setCell ?_ ?_ _; rotate_left; focus (first | omega | (simp; done) | (simp; omega))))))).mono ?_; rintro e w' ⟨rfl, hxk⟩; rw [Hv.out]; obtain ⟨xk, rfl⟩ := hxk.asLater; clear hxk)
      | (go_at_call 14; refine (rinst34 _ _).mono ?_; rintro e w' ⟨rfl, hxk⟩; rw [Hi1.out]; obtain ⟨xk, rfl⟩ := hxk.asLater; clear hxk)
      | (go_at_call 33; refine (HQ1.out _ (by (repeat (first | with_reducible exact Ext.refl _ | with_reducible exact Ext.refl _ | with_reducible refine Ext.drew ?_ | with_reducible refine Ext.drewN ?_ _ | with_reducible refine Ext.alloc ?_ _ | with_reducible refine Ext.onto ?_ _ | (with_reducible refine Ext.setCells ?_ ?_ _ _; rotate_left; focus (first | omega | (simp; done) | (simp; omega))) | (with_reducible refine Ext.setCell ?_ ?_ _; rotate_left; focus (first | omega | (simp; done) | (simp; omega))))))).mono ?_; rintro e w' ⟨rfl, hxk⟩; rw [Hq.out]; obtain ⟨xk, rfl⟩ := hxk.asLater; clear hxk)
      | (go_at_call 34; refine (HQ2.out _ (by (repeat (first | with_reducible exact Ext.refl _ | with_reducible exact Ext.refl _ | with_reducible refine Ext.drew ?_ | with_reducible refine Ext.drewN ?_ _ | with_reducible refine Ext.alloc ?_ _ | with_reducible refine Ext.onto ?_ _ | (with_reducible refine Ext.setCells ?_ ?_ _ _; rotate_left; focus (first | omega | (simp; done) | (simp; omega))) | (with_reducible refine Ext.setCell ?_ ?_ _; rotate_left; focus (first | omega | (simp; done) | (simp; omega))))))).mono ?_; rintro e w' ⟨rfl, hxk⟩; rw [Hq.out]; obtain ⟨xk, rfl⟩ := hxk.asLater; clear hxk)
      | (go_at_call 11; refine (HS.out _ (by (repeat (first | with_reducible exact Ext.refl _ | with_reducible exact Ext.refl _ | with_reducible refine Ext.drew ?_ | with_reducible refine Ext.drewN ?_ _ | with_reducible refine Ext.alloc ?_ _ | with_reducible refine Ext.onto ?_ _ | (with_reducible refine Ext.setCells ?_ ?_ _ _; rotate_left; focus (first | omega | (simp; done) | (simp; omega))) | (with_reducible refine Ext.setCell ?_ ?_ _; rotate_left; focus (first | omega | (simp; done) | (simp; omega))))))).mono ?_; rintro e w' ⟨rfl, hxk⟩; obtain ⟨xk, rfl⟩ := hxk.asLater; clear hxk))
    go_ret
    exact ⟨rfl, (by (repeat (first | with_reducible exact Ext.refl _ | with_reducible exact Ext.refl _ | with_reducible refine Ext.drew ?_ | with_reducible refine Ext.drewN ?_ _ | with_reducible refine Ext.alloc ?_ _ | with_reducible refine Ext.onto ?_ _ | (with_reducible refine Ext.setCells ?_ ?_ _ _; rotate_left; focus (first | omega | (simp; done) | (simp; omega))) | (with_reducible refine Ext.setCell ?_ ?_ _; rotate_left; focus (first | omega | (simp; done) | (simp; omega))))))⟩
  | true =>
    have Hf := Lib.hid hf
    obtain ⟨hsm, hl20⟩ := few_is hf
    have hl9 : l.length ≤ 100000 := by omega
    have htz : ∀ v ∈ l, v.tags.size ≤ 900000 ∧ v.bytes.size ≤ 9223372036854775807 := fun v hv => by have := hsm v hv; omega
    have HV2 := Lib.hid (fun (W : World) (hx : Ext w W) => rvalidV_any A c l W hl9 htz (hr.on hx))
    by_cases h20 : 20 < lf.length
    · have d20 : decide ((20 : Int) < (lf.length : Int)) = true := by simp; omega
      clear hl hz hr hk hrk hf hrf HV2 hsm htz
      go_enter Tryz.func7, Tryz.ntmps7
      go_wp2_with (first
        | (go_at_call 10; refine (HF.out _ (by (repeat (first | with_reducible exact Ext.refl _ | with_reducible exact Ext.refl _ | with_reducible refine Ext.drew ?_ | with_reducible refine Ext.drewN ?_ _ | with_reducible refine Ext.alloc ?_ _ | with_reducible refine Ext.onto ?_ _ | (with_reducible refine Ext.setCells ?_ ?_ _ _; rotate_left; focus (first | omega | (simp; done) | (simp; omega))) | (with_reducible refine Ext.setCell ?_ ?_ _; rotate_left; focus (first | omega | (simp; done) | (simp; omega))))))).mono ?_; rintro e w' ⟨rfl, hxk⟩; rw [Hf.out]; obtain ⟨xk, rfl⟩ := hxk.asLater; clear hxk)
        | (go_at_call 13; refine (HV2.out _ (by (repeat (first | with_reducible exact Ext.refl _ | with_reducible exact Ext.refl _ | with_reducible refine Ext.drew ?_ | with_reducible refine Ext.drewN ?_ _ | with_reducible refine Ext.alloc ?_ _ | with_reducible refine Ext.onto ?_ _ | (with_reducible refine Ext.setCells ?_ ?_ _ _; rotate_left; focus (first | omega | (simp; done) | (simp; omega))) | (with_reducible refine Ext.setCell ?_ ?_ _; rotate_left; focus (first | omega | (simp; done) | (simp; omega))))))).mono ?_; rintro e w' ⟨rfl, hxk⟩; rw [Hv.out]; obtain ⟨xk, rfl⟩ := hxk.asLater; clear hxk)
        | (go_at_call 14; refine (rinst34 _ _).mono ?_; rintro e w' ⟨rfl, hxk⟩; rw [Hi1.out]; obtain ⟨xk, rfl⟩ := hxk.asLater; clear hxk)
        | (go_at_call 33; refine (HQ1.out _ (by (repeat (first | with_reducible exact Ext.refl _ | with_reducible exact Ext.refl _ | with_reducible refine Ext.drew ?_ | with_reducible refine Ext.drewN ?_ _ | with_reducible refine Ext.alloc ?_ _ | with_reducible refine Ext.onto ?_ _ | (with_reducible refine Ext.setCells ?_ ?_ _ _; rotate_left; focus (first | omega | (simp; done) | (simp; omega))) | (with_reducible refine Ext.setCell ?_ ?_ _; rotate_left; focus (first | omega | (simp; done) | (simp; omega))))))).mono ?_; rintro e w' ⟨rfl, hxk⟩; rw [Hq.out]; obtain ⟨xk, rfl⟩ := hxk.asLater; clear hxk)
        | (go_at_call 34; refine (HQ2.out _ (by (repeat (first | with_reducible exact Ext.refl _ | with_reducible exact Ext.refl _ | with_reducible refine Ext.drew ?_ | with_reducible refine Ext.drewN ?_ _ | with_reducible refine Ext.alloc ?_ _ | with_reducible refine Ext.onto ?_ _ | (with_reducible refine Ext.setCells ?_ ?_ _ _; rotate_left; focus (first | omega | (simp; done) | (simp; omega))) | (with_reducible refine Ext.setCell ?_ ?_ _; rotate_left; focus (first | omega | (simp; done) | (simp; omega))))))).mono ?_; rintro e w' ⟨rfl, hxk⟩; rw [Hq.out]; obtain ⟨xk, rfl⟩ := hxk.asLater; clear hxk)
        | (go_at_call 11; refine (HS.out _ (by (repeat (first | with_reducible exact Ext.refl _ | with_reducible exact Ext.refl _ | with_reducible refine Ext.drew ?_ | with_reducible refine Ext.drewN ?_ _ | with_reducible refine Ext.alloc ?_ _ | with_reducible refine Ext.onto ?_ _ | (with_reducible refine Ext.setCells ?_ ?_ _ _; rotate_left; focus (first | omega | (simp; done) | (simp; omega))) | (with_reducible refine Ext.setCell ?_ ?_ _; rotate_left; focus (first | omega | (simp; done) | (simp; omega))))))).mono ?_; rintro e w' ⟨rfl, hxk⟩; obtain ⟨xk, rfl⟩ := hxk.asLater; clear hxk))
      go_ret
      exact ⟨rfl, (by (repeat (first | with_reducible exact Ext.refl _ | with_reducible exact Ext.refl _ | with_reducible refine Ext.drew ?_ | with_reducible refine Ext.drewN ?_ _ | with_reducible refine Ext.alloc ?_ _ | with_reducible refine Ext.onto ?_ _ | (with_reducible refine Ext.setCells ?_ ?_ _ _; rotate_left; focus (first | omega | (simp; done) | (simp; omega))) | (with_reducible refine Ext.setCell ?_ ?_ _; rotate_left; focus (first | omega | (simp; done) | (simp; omega))))))⟩
    have d20 : decide ((20 : Int) < (lf.length : Int)) = false := by simp; omega
    have hlf9 : lf.length ≤ 100000 := by omega
    have HQ1 := Lib.hid (fun (W : World) (hx : Ext w W) => ofaulty_any A2 c2 lf W hlf9 (hrf.on hx))
    have HQ2 := Lib.hid (fun (W : World) (hx : Ext w W) => rfaulty_any A2 c2 lf W hlf9 (hrf.on hx))
    cases hv : validV l with
    | false =>
      have Hv := Lib.hid hv
      clear hl hz hr hk hrk hf hrf hsm htz hv HQ1 HQ2
      go_enter Tryz.func7, Tryz.ntmps7
      go_wp2_with (first
        | (go_at_call 10; refine (HF.out _ (by (repeat (first | with_reducible exact Ext.refl _ | with_reducible exact Ext.refl _ | with_reducible refine Ext.drew ?_ | with_reducible refine Ext.drewN ?_ _ | with_reducible refine Ext.alloc ?_ _ | with_reducible refine Ext.onto ?_ _ | (with_reducible refine Ext.setCells ?_ ?_ _ _; rotate_left; focus (first | omega | (simp; done) | (simp; omega))) | (with_reducible refine Ext.setCell ?_ ?_ _; rotate_left; focus (first | omega | (simp; done) | (simp; omega))))))).mono ?_; rintro e w' ⟨rfl, hxk⟩; rw [Hf.out]; obtain ⟨xk, rfl⟩ := hxk.asLater; clear hxk)
        | (go_at_call 13; refine (HV2.out _ (by (repeat (first | with_reducible exact Ext.refl _ | with_reducible exact Ext.refl _ | with_reducible refine Ext.drew ?_ | with_reducible refine Ext.drewN ?_ _ | with_reducible refine Ext.alloc ?_ _ | with_reducible refine Ext.onto ?_ _ | (with_reducible refine Ext.setCells ?_ ?_ _ _; rotate_left; focus (first | omega | (simp; done) | (simp; omega))) | (with_reducible refine Ext.setCell ?_ ?_ _; rotate_left; focus (first | omega | (simp; done) | (simp; omega))))))).mono ?_; rintro e w' ⟨rfl, hxk⟩; rw [Hv.out]; obtain ⟨xk, rfl⟩ := hxk.asLater; clear hxk)
        | (go_at_call 14; refine (rinst34 _ _).mono ?_; rintro e w' ⟨rfl, hxk⟩; rw [Hi1.out]; obtain ⟨xk, rfl⟩ := hxk.asLater; clear hxk)
        | (go_at_call 33; refine (HQ1.out _ (by (repeat (first | with_reducible exact Ext.refl _ | with_reducible exact Ext.refl _ | with_reducible refine Ext.drew ?_ | with_reducible refine Ext.drewN ?_ _ | with_reducible refine Ext.alloc ?_ _ | with_reducible refine Ext.onto ?_ _ | (with_reducible refine Ext.setCells ?_ ?_ _ _; rotate_left; focus (first | omega | (simp; done) | (simp; omega))) | (with_reducible refine Ext.setCell ?_ ?_ _; rotate_left; focus (first | omega | (simp; done) | (simp; omega))))))).mono ?_; rintro e w' ⟨rfl, hxk⟩; rw [Hq.out]; obtain ⟨xk, rfl⟩ := hxk.asLater; clear hxk)
        | (go_at_call 34; refine (HQ2.out _ (by (repeat (first | with_reducible exact Ext.refl _ | with_reducible exact Ext.refl _ | with_reducible refine Ext.drew ?_ | with_reducible refine Ext.drewN ?_ _ | with_reducible refine Ext.alloc ?_ _ | with_reducible refine Ext.onto ?_ _ | (with_reducible refine Ext.setCells ?_ ?_ _ _; rotate_left; focus (first | omega | (simp; done) | (simp; omega))) | (with_reducible refine Ext.setCell ?_ ?_ _; rotate_left; focus (first | omega | (simp; done) | (simp; omega))))))).mono ?_; rintro e w' ⟨rfl, hxk⟩; rw [Hq.out]; obtain ⟨xk, rfl⟩ := hxk.asLater; clear hxk)
        | (go_at_call 11; refine (HS.out _ (by (repeat (first | with_reducible exact Ext.refl _ | with_reducible exact Ext.refl _ | with_reducible refine Ext.drew ?_ | with_reducible refine Ext.drewN ?_ _ | with_reducible refine Ext.alloc ?_ _ | with_reducible refine Ext.onto ?_ _ | (with_reducible refine Ext.setCells ?_ ?_ _ _; rotate_left; focus (first | omega | (simp; done) | (simp; omega))) | (with_reducible refine Ext.setCell ?_ ?_ _; rotate_left; focus (first | omega | (simp; done) | (simp; omega))))))).mono ?_; rintro e w' ⟨rfl, hxk⟩; obtain ⟨xk, rfl⟩ := hxk.asLater; clear hxk))
      go_ret
      exact ⟨rfl, (by (repeat (first | with_reducible exact Ext.refl _ | with_reducible exact Ext.refl _ | with_reducible refine Ext.drew ?_ | with_reducible refine Ext.drewN ?_ _ | with_reducible refine Ext.alloc ?_ _ | with_reducible refine Ext.onto ?_ _ | (with_reducible refine Ext.setCells ?_ ?_ _ _; rotate_left; focus (first | omega | (simp; done) | (simp; omega))) | (with_reducible refine Ext.setCell ?_ ?_ _; rotate_left; focus (first | omega | (simp; done) | (simp; omega))))))⟩
    | true =>
      have Hv := Lib.hid hv
      cases hq : faultyB lf with
      | false =>
        have Hq := Lib.hid hq
        clear hl hz hr hk hrk hf hrf hsm htz hv hq
        go_enter Tryz.func7, Tryz.ntmps7
        go_wp2_with (first
          | (go_at_call 10; refine (HF.out _ (by (repeat (first | with_reducible exact Ext.refl _ | with_reducible exact Ext.refl _ | with_reducible refine Ext.drew ?_ | with_reducible refine Ext.drewN ?_ _ | with_reducible refine Ext.alloc ?_ _ | with_reducible refine Ext.onto ?_ _ | (with_reducible refine Ext.setCells ?_ ?_ _ _; rotate_left; focus (first | omega | (simp; done) | (simp; omega))) | (with_reducible refine Ext.setCell ?_ ?_ _; rotate_left; focus (first | omega | (simp; done) | (simp; omega))))))).mono ?_; rintro e w' ⟨rfl, hxk⟩; rw [Hf.out]; obtain ⟨xk, rfl⟩ := hxk.asLater; clear hxk)
          | (go_at_call 13; refine (HV2.out _ (by (repeat (first | with_reducible exact Ext.refl _ | with_reducible exact Ext.refl _ | with_reducible refine Ext.drew ?_ | with_reducible refine Ext.drewN ?_ _ | with_reducible refine Ext.alloc ?_ _ | with_reducible refine Ext.onto ?_ _ | (with_reducible refine Ext.setCells ?_ ?_ _ _; rotate_left; focus (first | omega | (simp; done) | (simp; omega))) | (with_reducible refine Ext.setCell ?_ ?_ _; rotate_left; focus (first | omega | (simp; done) | (simp; omega))))))).mono ?_; rintro e w' ⟨rfl, hxk⟩; rw [Hv.out]; obtain ⟨xk, rfl⟩ := hxk.asLater; clear hxk)
          | (go_at_call 14; refine (rinst34 _ _).mono ?_; rintro e w' ⟨rfl, hxk⟩; rw [Hi1.out]; obtain ⟨xk, rfl⟩ := hxk.asLater; clear hxk)
          | (go_at_call 33; refine (HQ1.out _ (by (repeat (first | with_reducible exact Ext.refl _ | with_reducible exact Ext.refl _ | with_reducible refine Ext.drew ?_ | with_reducible refine Ext.drewN ?_ _ | with_reducible refine Ext.alloc ?_ _ | with_reducible refine Ext.onto ?_ _ | (with_reducible refine Ext.setCells ?_ ?_ _ _; rotate_left; focus (first | omega | (simp; done) | (simp; omega))) | (with_reducible refine Ext.setCell ?_ ?_ _; rotate_left; focus (first | omega | (simp; done) | (simp; omega))))))).mono ?_; rintro e w' ⟨rfl, hxk⟩; rw [Hq.out]; obtain ⟨xk, rfl⟩ := hxk.asLater; clear hxk)
          | (go_at_call 34; refine (HQ2.out _ (by (repeat (first | with_reducible exact Ext.refl _ | with_reducible exact Ext.refl _ | with_reducible refine Ext.drew ?_ | with_reducible refine Ext.drewN ?_ _ | with_reducible refine Ext.alloc ?_ _ | with_reducible refine Ext.onto ?_ _ | (with_reducible refine Ext.setCells ?_ ?_ _ _; rotate_left; focus (first | omega | (simp; done) | (simp; omega))) | (with_reducible refine Ext.setCell ?_ ?_ _; rotate_left; focus (first | omega | (simp; done) | (simp; omega))))))).mono ?_; rintro e w' ⟨rfl, hxk⟩; rw [Hq.out]; obtain ⟨xk, rfl⟩ := hxk.asLater; clear hxk)
          | (go_at_call 11; refine (HS.out _ (by (repeat (first | with_reducible exact Ext.refl _ | with_reducible exact Ext.refl _ | with_reducible refine Ext.drew ?_ | with_reducible refine Ext.drewN ?_ _ | with_reducible refine Ext.alloc ?_ _ | with_reducible refine Ext.onto ?_ _ | (with_reducible refine Ext.setCells ?_ ?_ _ _; rotate_left; focus (first | omega | (simp; done) | (simp; omega))) | (with_reducible refine Ext.setCell ?_ ?_ _; rotate_left; focus (first | omega | (simp; done) | (simp; omega))))))).mono ?_; rintro e w' ⟨rfl, hxk⟩; obtain ⟨xk, rfl⟩ := hxk.asLater; clear hxk))
        go_ret
        exact ⟨rfl, (by (repeat (first | with_reducible exact Ext.refl _ | with_reducible exact Ext.refl _ | with_reducible refine Ext.drew ?_ | with_reducible refine Ext.drewN ?_ _ | with_reducible refine Ext.alloc ?_ _ | with_reducible refine Ext.onto ?_ _ | (with_reducible refine Ext.setCells ?_ ?_ _ _; rotate_left; focus (first | omega | (simp; done) | (simp; omega))) | (with_reducible refine Ext.setCell ?_ ?_ _; rotate_left; focus (first | omega | (simp; done) | (simp; omega))))))⟩
      | true =>
        have Hq := Lib.hid hq
        cases hi1 : instB t with
        | false =>
          have Hi1 := Lib.hid hi1
          clear hl hz hr hk hrk hf hrf hsm htz hv hq hi1
          go_enter Tryz.func7, Tryz.ntmps7
          go_wp2_with (first
            | (go_at_call 10; refine (HF.out _ (by (repeat (first | with_reducible exact Ext.refl _ | with_reducible exact Ext.refl _ | with_reducible refine Ext.drew ?_ | with_reducible refine Ext.drewN ?_ _ | with_reducible refine Ext.alloc ?_ _ | with_reducible refine Ext.onto ?_ _ | (with_reducible refine Ext.setCells ?_ ?_ _ _; rotate_left; focus (first | omega | (simp; done) | (simp; omega))) | (with_reducible refine Ext.setCell ?_ ?_ _; rotate_left; focus (first | omega | (simp; done) | (simp; omega))))))).mono ?_; rintro e w' ⟨rfl, hxk⟩; rw [Hf.out]; obtain ⟨xk, rfl⟩ := hxk.asLater; clear hxk)
            | (go_at_call 13; refine (HV2.out _ (by (repeat (first | with_reducible exact Ext.refl _ | with_reducible exact Ext.refl _ | with_reducible refine Ext.drew ?_ | with_reducible refine Ext.drewN ?_ _ | with_reducible refine Ext.alloc ?_ _ | with_reducible refine Ext.onto ?_ _ | (with_reducible refine Ext.setCells ?_ ?_ _ _; rotate_left; focus (first | omega | (simp; done) | (simp; omega))) | (with_reducible refine Ext.setCell ?_ ?_ _; rotate_left; focus (first | omega | (simp; done) | (simp; omega))))))).mono ?_; rintro e w' ⟨rfl, hxk⟩; rw [Hv.out]; obtain ⟨xk, rfl⟩ := hxk.asLater; clear hxk)
            | (go_at_call 14; refine (rinst34 _ _).mono ?_; rintro e w' ⟨rfl, hxk⟩; rw [Hi1.out]; obtain ⟨xk, rfl⟩ := hxk.asLater; clear hxk)
            | (go_at_call 33; refine (HQ1.out _ (by (repeat (first | with_reducible exact Ext.refl _ | with_reducible exact Ext.refl _ | with_reducible refine Ext.drew ?_ | with_reducible refine Ext.drewN ?_ _ | with_reducible refine Ext.alloc ?_ _ | with_reducible refine Ext.onto ?_ _ | (with_reducible refine Ext.setCells ?_ ?_ _ _; rotate_left; focus (first | omega | (simp; done) | (simp; omega))) | (with_reducible refine Ext.setCell ?_ ?_ _; rotate_left; focus (first | omega | (simp; done) | (simp; omega))))))).mono ?_; rintro e w' ⟨rfl, hxk⟩; rw [Hq.out]; obtain ⟨xk, rfl⟩ := hxk.asLater; clear hxk)
            | (go_at_call 34; refine (HQ2.out _ (by (repeat (first | with_reducible exact Ext.refl _ | with_reducible exact Ext.refl _ | with_reducible refine Ext.drew ?_ | with_reducible refine Ext.drewN ?_ _ | with_reducible refine Ext.alloc ?_ _ | with_reducible refine Ext.onto ?_ _ | (with_reducible refine Ext.setCells ?_ ?_ _ _; rotate_left; focus (first | omega | (simp; done) | (simp; omega))) | (with_reducible refine Ext.setCell ?_ ?_ _; rotate_left; focus (first | omega | (simp; done) | (simp; omega))))))).mono ?_; rintro e w' ⟨rfl, hxk⟩; rw [Hq.out]; obtain ⟨xk, rfl⟩ := hxk.asLater; clear hxk)
            | (go_at_call 11; refine (HS.out _ (by (repeat (first | with_reducible exact Ext.refl _ | with_reducible exact Ext.refl _ | with_reducible refine Ext.drew ?_ | with_reducible refine Ext.drewN ?_ _ | with_reducible refine Ext.alloc ?_ _ | with_reducible refine Ext.onto ?_ _ | (with_reducible refine Ext.setCells ?_ ?_ _ _; rotate_left; focus (first | omega | (simp; done) | (simp; omega))) | (with_reducible refine Ext.setCell ?_ ?_ _; rotate_left; focus (first | omega | (simp; done) | (simp; omega))))))).mono ?_; rintro e w' ⟨rfl, hxk⟩; obtain ⟨xk, rfl⟩ := hxk.asLater; clear hxk))
          go_ret
          exact ⟨rfl, (by (repeat (first | with_reducible exact Ext.refl _ | with_reducible exact Ext.refl _ | with_reducible refine Ext.drew ?_ | with_reducible refine Ext.drewN ?_ _ | with_reducible refine Ext.alloc ?_ _ | with_reducible refine Ext.onto ?_ _ | (with_reducible refine Ext.setCells ?_ ?_ _ _; rotate_left; focus (first | omega | (simp; done) | (simp; omega))) | (with_reducible refine Ext.setCell ?_ ?_ _; rotate_left; focus (first | omega | (simp; done) | (simp; omega))))))⟩
        | true =>
          have Hi1 := Lib.hid hi1
          have hvv := (validV_iff l).1 hv
          have hin : ∀ t, VerIn (atN l t) := fun t => by
            rcases atN_or l t with h | ⟨k, hk', h⟩
            · rw [h]; exact Nat.zero_le _
            · rw [h]
              have := hsm _ (List.getElem_mem hk')
              show _ ≤ _
              omega
          obtain ⟨f1, f2, f3, f4⟩ := fault_in (t := t) hq
          obtain ⟨t1, t2⟩ := inst_is hi1
          have hsum : i64 (t + (faultN lf t).delay) := ⟨by omega, by omega⟩
          have HO := Lib.hid (fun (W : World) (hx : Ext w W) => oserve_any A A2 c c2 l lf t known W hl9 hlf9 (hr.on hx) (hrf.on hx) h16 hby hin hsum ⟨f1, f2⟩ (RowAt.ext hk hx))
          have HR := Lib.hid (fun (W : World) (hx : Ext w W) => rserve_any A A2 c c2 l lf t known W hl9 hlf9 (hr.on hx) (hrf.on hx) h16 hby (fun u => lastAt_is hvv.1) hin hsum ⟨f1, f2⟩ (RowAt.ext hrk hx))
          have hSl : (servedN l known t (faultN lf t)).length ≤ 100000 := by
            have g : ∀ (o : List Giv) u, (giveN l known o u).length ≤ o.length + 1 := fun o u => by unfold giveN; split <;> simp
            unfold servedN
            have g1 := g [] (t + (faultN lf t).delay)
            have g2 := g [] t
            have g3 := g (giveN l known [] t) (t + (faultN lf t).delay)
            simp only [List.length_nil] at g1 g2
            split
            · simp
            · split
              · omega
              · split <;> omega
          generalize servedN l known t (faultN lf t) = S at *
          clear hl hz hr hk hrk hf hrf hsm htz hv hq hi1 hvv hin hsum f1 f2 f3 f4 h16 hby
          go_enter Tryz.func7, Tryz.ntmps7
          go_upto_region 7 with (first
            | (go_at_call 10; refine (HF.out _ (by (repeat (first | with_reducible exact Ext.refl _ | with_reducible exact Ext.refl _ | with_reducible refine Ext.drew ?_ | with_reducible refine Ext.drewN ?_ _ | with_reducible refine Ext.alloc ?_ _ | with_reducible refine Ext.onto ?_ _ | (with_reducible refine Ext.setCells ?_ ?_ _ _; rotate_left; focus (first | omega | (simp; done) | (simp; omega))) | (with_reducible refine Ext.setCell ?_ ?_ _; rotate_left; focus (first | omega | (simp; done) | (simp; omega))))))).mono ?_; rintro e w' ⟨rfl, hxk⟩; rw [Hf.out]; obtain ⟨xk, rfl⟩ := hxk.asLater; clear hxk)
            | (go_at_call 13; refine (HV2.out _ (by (repeat (first | with_reducible exact Ext.refl _ | with_reducible exact Ext.refl _ | with_reducible refine Ext.drew ?_ | with_reducible refine Ext.drewN ?_ _ | with_reducible refine Ext.alloc ?_ _ | with_reducible refine Ext.onto ?_ _ | (with_reducible refine Ext.setCells ?_ ?_ _ _; rotate_left; focus (first | omega | (simp; done) | (simp; omega))) | (with_reducible refine Ext.setCell ?_ ?_ _; rotate_left; focus (first | omega | (simp; done) | (simp; omega))))))).mono ?_; rintro e w' ⟨rfl, hxk⟩; rw [Hv.out]; obtain ⟨xk, rfl⟩ := hxk.asLater; clear hxk)
            | (go_at_call 14; refine (rinst34 _ _).mono ?_; rintro e w' ⟨rfl, hxk⟩; rw [Hi1.out]; obtain ⟨xk, rfl⟩ := hxk.asLater; clear hxk)
            | (go_at_call 33; refine (HQ1.out _ (by (repeat (first | with_reducible exact Ext.refl _ | with_reducible exact Ext.refl _ | with_reducible refine Ext.drew ?_ | with_reducible refine Ext.drewN ?_ _ | with_reducible refine Ext.alloc ?_ _ | with_reducible refine Ext.onto ?_ _ | (with_reducible refine Ext.setCells ?_ ?_ _ _; rotate_left; focus (first | omega | (simp; done) | (simp; omega))) | (with_reducible refine Ext.setCell ?_ ?_ _; rotate_left; focus (first | omega | (simp; done) | (simp; omega))))))).mono ?_; rintro e w' ⟨rfl, hxk⟩; rw [Hq.out]; obtain ⟨xk, rfl⟩ := hxk.asLater; clear hxk)
            | (go_at_call 34; refine (HQ2.out _ (by (repeat (first | with_reducible exact Ext.refl _ | with_reducible exact Ext.refl _ | with_reducible refine Ext.drew ?_ | with_reducible refine Ext.drewN ?_ _ | with_reducible refine Ext.alloc ?_ _ | with_reducible refine Ext.onto ?_ _ | (with_reducible refine Ext.setCells ?_ ?_ _ _; rotate_left; focus (first | omega | (simp; done) | (simp; omega))) | (with_reducible refine Ext.setCell ?_ ?_ _; rotate_left; focus (first | omega | (simp; done) | (simp; omega))))))).mono ?_; rintro e w' ⟨rfl, hxk⟩; rw [Hq.out]; obtain ⟨xk, rfl⟩ := hxk.asLater; clear hxk)
            | (go_at_call 11; refine (HS.out _ (by (repeat (first | with_reducible exact Ext.refl _ | with_reducible exact Ext.refl _ | with_reducible refine Ext.drew ?_ | with_reducible refine Ext.drewN ?_ _ | with_reducible refine Ext.alloc ?_ _ | with_reducible refine Ext.onto ?_ _ | (with_reducible refine Ext.setCells ?_ ?_ _ _; rotate_left; focus (first | omega | (simp; done) | (simp; omega))) | (with_reducible refine Ext.setCell ?_ ?_ _; rotate_left; focus (first | omega | (simp; done) | (simp; omega))))))).mono ?_; rintro e w' ⟨rfl, hxk⟩; obtain ⟨xk, rfl⟩ := hxk.asLater; clear hxk))
          refine wp_world (fun W => Ext w W ∧ RowAt W w.heap.size (dgC known)) ⟨(by (repeat (first | with_reducible exact Ext.refl _ | with_reducible exact Ext.refl _ | with_reducible refine Ext.drew ?_ | with_reducible refine Ext.drewN ?_ _ | with_reducible refine Ext.alloc ?_ _ | with_reducible refine Ext.onto ?_ _ | (with_reducible refine Ext.setCells ?_ ?_ _ _; rotate_left; focus (first | omega | (simp; done) | (simp; omega))) | (with_reducible refine Ext.setCell ?_ ?_ _; rotate_left; focus (first | omega | (simp; done) | (simp; omega)))))), (by (repeat (first | with_reducible exact RowAt.new _ _ _ | with_reducible refine RowAt.drew ?_ | with_reducible refine RowAt.later ?_ _ | with_reducible exact RowAt.newAt (by first | rfl | omega | (simp [later_size, setCells_size]; done) | (simp [later_size, setCells_size]; omega)) | with_reducible refine RowAt.alloc ?_ _ | with_reducible apply RowAt.store | with_reducible refine RowAt.others ?_ ?_ _ _ | with_reducible refine RowAt.other ?_ ?_ _)); all_goals first | omega | (simp; done) | (simp; omega) | (simp [go_sem]; done))⟩ ?_
          rintro W1 ⟨x1, r1⟩
          have HX1 := Lib.hid x1
          have HR1 := Lib.hid r1
          have hk1 : rowOf W1 w.heap.size 0 16 = some (dgC known) := r1.all rfl (by omega)
          have hlr := r1.lt
          clear x1 r1 HF HV2 HQ1 HQ2
          go_upto_region 8 with (go_at_call 35; refine (HO.out _ HX1.out).mono ?_; rintro e w2 ⟨A5, c5, rfl, hr5, hx5⟩; have HR5 := Lib.hid hr5; have HX5 := Lib.hid hx5; have hk2 : rowOf w2 w.heap.size 0 16 = some (dgC known) := (HR1.out.ext hx5).all rfl (by omega); have hs5 := hx5.size; clear hr5 hx5)
          go_upto_region 9 with (go_at_call 36; refine (HR.out _ (HX1.out.trans HX5.out)).mono ?_; rintro e w3 ⟨A6, c6, rfl, hr6, hx6⟩; have HR6 := Lib.hid hr6; have HX6 := Lib.hid hx6; have hs6 := hx6.size; clear hr6 hx6)
          have HX36 : Hid (Ext w w3) := Lib.hid ((HX1.out.trans HX5.out).trans HX6.out)
          have hszw := HX36.out.size
          refine wp_world (fun W => Ext w W ∧ RowAt W w3.heap.size #[.slice A6 S.length c6, .int .i64 (servE S)] ∧ ReadsGiv W W.heap.size A5 S ∧ ReadsGiv W W.heap.size A6 S) ⟨?_, ?_, ?_, ?_⟩ ?_
          · exact HX36.out.alloc _
          · exact RowAt.new _ _ _
          · exact HR5.out.on (HX6.out.alloc _)
          · exact HR6.out.on ((Ext.refl w3).alloc _)
          rintro W4 ⟨x4, r4, g5, g6⟩
          have HX4 := Lib.hid x4
          have c0 : W4.cell? ⟨w3.heap.size, 0, none⟩ = some (.slice A6 S.length c6) := r4.cell 0
          have c1 : W4.cell? ⟨w3.heap.size, 1, none⟩ = some (.int .i64 (servE S)) := r4.cell 1
          have hl4 := r4.lt
          have HSm := Lib.hid (fun (W : World) (hx : Ext W4 W) => rsame_any A5 A6 c5 c6 S W hSl (g5.on hx) (g6.on hx))
          clear x4 r4 g5 g6 HR5 HR6 HX5 HX6 HX36 HR1 HX1 HO HR hk1 hk2
          go_wp2_with (first
            | (go_at_call 11; refine (HS.out _ (by (repeat (first | with_reducible exact HX4.out | with_reducible exact Ext.refl _ | with_reducible refine Ext.drew ?_ | with_reducible refine Ext.drewN ?_ _ | with_reducible refine Ext.alloc ?_ _ | with_reducible refine Ext.onto ?_ _ | (with_reducible refine Ext.setCells ?_ ?_ _ _; rotate_left; focus (first | omega | (simp; done) | (simp; omega))) | (with_reducible refine Ext.setCell ?_ ?_ _; rotate_left; focus (first | omega | (simp; done) | (simp; omega))))))).mono ?_; rintro e w' ⟨rfl, hxk⟩; obtain ⟨xk, rfl⟩ := hxk.asLater; clear hxk)
            | (go_at_call 37; refine (HSm.out _ (ext_later _ _)).mono ?_; rintro e w' ⟨rfl, hxk⟩; obtain ⟨xk, rfl⟩ := hxk.asLater; clear hxk))
          go_ret
          exact ⟨rfl, (by (repeat (first | with_reducible exact HX4.out | with_reducible exact Ext.refl _ | with_reducible refine Ext.drew ?_ | with_reducible refine Ext.drewN ?_ _ | with_reducible refine Ext.alloc ?_ _ | with_reducible refine Ext.onto ?_ _ | (with_reducible refine Ext.setCells ?_ ?_ _ _; rotate_left; focus (first | omega | (simp; done) | (simp; omega))) | (with_reducible refine Ext.setCell ?_ ?_ _; rotate_left; focus (first | omega | (simp; done) | (simp; omega))))))⟩
end Go.Proofs.YtpjacgcaibaggaaGreatDoor


set_option linter.unusedVariables false
set_option linter.unusedSimpArgs false
namespace Go.Proofs.YtpjacgcaibaggaaGreatDoor
open Go.ChangeShapes Go.WideShapes Go.ChangeAt Go.ChangeMaps Go.RowKit
open Go.Proofs

set_option maxRecDepth 100000 in
theorem laidS {W : World} (h : laidMetH Tryz.prog Rows.originServesAsSpecifiedRow.laid W) : Konst 0 W ∧ RKonst W := by
  rw [MakeChecks.laidMetH_plain _ _ _ (by kernel_rfl)] at h
  obtain ⟨ps, ⟨ga, ta, csa, fa, pa, qa, hga, hta, hva, hda, ⟨g0, t0, cs0, f0, p0, q0, hg0, ht0, hv0, hd0, ⟨g1, t1, cs1, f1, p1, q1, hg1, ht1, hv1, hd1, _, rfl⟩, rfl⟩, rfl⟩, _, hf⟩ := h
  obtain rfl := Option.some.inj ((show Tryz.prog.globalNamed "weirgate/weirgateref02.constants" = some 1 by kernel_rfl).symm.trans hg0)
  obtain rfl := Option.some.inj ((show Tryz.prog.globalNamed "weirgate/hash.constants" = some 0 by kernel_rfl).symm.trans hg1)
  obtain rfl := Option.some.inj ((show (Tryz.prog.globals[(1 : Nat)]?).map (·.type) = some 222 by kernel_rfl).symm.trans ht0)
  obtain rfl := Option.some.inj ((show (Tryz.prog.globals[(0 : Nat)]?).map (·.type) = some 222 by kernel_rfl).symm.trans ht1)
  rw [laidRK] at hd0
  rw [laidK] at hd1
  exact ⟨table_at hg1 hv1 hd1 (fun x hx => by simp [hx]) hf, table_at hg0 hv0 hd0 (fun x hx => by simp [hx]) hf⟩

set_option maxRecDepth 100000 in
theorem originServesAsSpecified_lifted (os : Os) (started : os.Started) (H : Type) (enc : TypeId × Value → H) :
    ReturnsInHanded {} Tryz.checked os 7 .any (fun w args => (Rows.originServesAsSpecifiedSpec.pre enc Tryz.prog Tryz.f7 Rows.originServesAsSpecifiedRow.domain false w args ∧ laidMetH Tryz.prog Rows.originServesAsSpecifiedRow.laid w) ∧ sizedMet enc Tryz.prog Tryz.f7 (OpenSpec.ofChange Rows.originServesAsSpecifiedSpec) false w args)
      (Rows.originServesAsSpecifiedSpec.post enc Tryz.prog Tryz.f7 false true false false) := by
  refine returnsInHanded_of_change_and (C := Tryz.checked) (X := fun w _ => laidMetH Tryz.prog Rows.originServesAsSpecifiedRow.laid w) (fun _ _ _ hh h => h.of_heap hh) Tryz.own started (by kernel_rfl) Tryz.func7
    (ChangeSpec.witness_shaped (enc := enc) (C := Tryz.checked) (os := os) (X := fun w _ => laidMetH Tryz.prog Rows.originServesAsSpecifiedRow.laid w) false (World.laidAll Tryz.prog os Rows.originServesAsSpecifiedRow.laid) #[.slice none 0 0, .slice none 0 0, .int .i64 0, .agg (dgC (zeros32 16))] 8 (World.laidAll_os _ _ _)
      (World.shaped_of_ZipB (by kernel_rfl) (by kernel_rfl)) (by kernel_rfl) (by kernel_rfl) (by kernel_rfl)
      (by rw [MakeChecks.laidMetH_plain _ _ _ (by kernel_rfl)]; exact laidMet_laidAll _ (by kernel_rfl) (by kernel_rfl))) ?_
  intro W base args ds gs before hval0 hW hcnd hSz hL _
  have hval : ∀ (j : Nat) t v, Tryz.f7.params[j]? = some t → args[j]? = some v → Value.okWide Tryz.prog W .any base t v := hval0
  have hW' := hW
  obtain ⟨p, q, hA0, hV, rfl, hfz, hnd⟩ := hW
  have hA : DataW.TrodAll enc Tryz.prog W 0 (fun _ => true) true Tryz.f7.params.toList args.toList ds p := hA0
  rw [Tryz.params7] at hA hval
  obtain ⟨rfl, rfl⟩ := trodVars_none hV
  clear hA0 hval0 hcnd
  obtain ⟨v0, vs0, d0, ds0, p0, q0, ea0, rfl, rfl, h0, hA⟩ := trodAll_cons hA
  obtain ⟨v1, vs1, d1, ds1, p1, q1, rfl, rfl, rfl, h1, hA⟩ := trodAll_cons hA
  obtain ⟨v2, vs2, d2, ds2, p2, q2, rfl, rfl, rfl, h2, hA⟩ := trodAll_cons hA
  obtain ⟨v3, vs3, d3, ds3, p3, q3, rfl, rfl, rfl, h3, hA⟩ := trodAll_cons hA
  obtain ⟨rfl, rfl, rfl⟩ := trodAll_nil hA
  obtain rfl : args = #[v0, v1, v2, v3] := by cases args; simp_all
  obtain ⟨hk, hrk⟩ := laidS hL
  obtain ⟨A, c, l, rfl, hlc, hcm, hrd, hin, _, _⟩ := open_versions (hval 0 22 v0 rfl rfl) h0
  obtain ⟨A2, c2, lf, rfl, hlc2, hcm2, hrd2⟩ := open_faults (hval 1 68 v1 rfl rfl) h1
  obtain ⟨t, rfl, _, _, _⟩ := open_int Tryz.underlying3 (hval 2 3 v2 rfl rfl) h2
  obtain ⟨kn, rfl, h16, hby⟩ := open_digest (hval 3 24 v3 rfl rfl) h3
  have main := serves_ok A c l A2 c2 lf t kn W (by unfold maxLen at hcm; omega) (fun v hv => by have := hin v hv; unfold Ver.In maxLen at this; omega) hrd (by unfold maxLen at hcm2; omega) hrd2 h16 hby hk hrk
  refine main.mono fun e' W' ⟨he, hx⟩ => ?_
  subst he
  exact ⟨_, rfl, law_post Tryz.laidOut (by kernel_rfl) rfl hW' hx 4 (by kernel_rfl) Tryz.underlying4 rfl rfl rfl⟩
end Go.Proofs.YtpjacgcaibaggaaGreatDoor
