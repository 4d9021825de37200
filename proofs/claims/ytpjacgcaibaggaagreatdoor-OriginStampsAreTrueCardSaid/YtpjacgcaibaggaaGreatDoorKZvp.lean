/- weirgatelaw34.OriginStampsAreTrue, the lifted law: it returns true for every timeline, faults, key, instant, numbers and digest, and leaves its arguments as they were; the listed tables hold what the program's text lays (the card ties them). No other condition. -/
import Derived.Test.YtpjacgcaibaggaaGreatDoorProg
import Derived.Test.YtpjacgcaibaggaaGreatDoorKSpv
import Derived.WalkKit
import Derived.WalkSpells
import Derived.WalkLawsBesides
import Derived.Deep.QuietTactic
import Derived.BigQuiet
import Derived.Test.YtpjacgcaibaggaaGreatDoorKWe
import Derived.Test.YtpjacgcaibaggaaGreatDoorKFw
import Derived.Test.YtpjacgcaibaggaaGreatDoorKVr
import Derived.Test.YtpjacgcaibaggaaGreatDoorKXc
import Derived.Test.YtpjacgcaibaggaaGreatDoorKCh
import Derived.Test.YtpjacgcaibaggaaGreatDoorKVy
import Derived.Test.YtpjacgcaibaggaaGreatDoorKOs
import Derived.Test.YtpjacgcaibaggaaGreatDoorKOk
import Derived.Test.YtpjacgcaibaggaaGreatDoorTie
import Derived.Test.YtpjacgcaibaggaaGreatDoorCards
import Derived.ProofKit
import Derived.Lay
import Derived.ChangeMaps5
import Derived.SevenTiedAt
import Derived.Stop.Joined
set_option linter.unusedVariables false
set_option linter.unusedSimpArgs false
namespace Go.Proofs.YtpjacgcaibaggaaGreatDoor
open Go.RowKit Go.Shelf
open Go.Proofs

theorem oall7 (a b c d e f i : Bool) (w : World) (t : TypeId) (g : Nat) (hg : g = w.heap.size) :
    Calls Tryz.prog 47 #[.slice (some ⟨g, 0, none⟩) 7 7] (w.alloc (.cells #[.bool a, .bool b, .bool c, .bool d, .bool e, .bool f, .bool i] t)) fun e' w' => e' = .returned (.bool (a && b && c && d && e && f && i)) ∧ Ext w w' := by
  subst hg
  have h := oall_row w.heap.size 7 [a, b, c, d, e, f, i] (w.alloc (.cells #[.bool a, .bool b, .bool c, .bool d, .bool e, .bool f, .bool i] t)) (by simp) (RowAt.new _ _ _)
  refine h.mono fun e' w' ⟨h1, h2⟩ => ⟨by rw [h1]; simp [Bool.and_assoc], ((Ext.refl w).alloc _).trans h2⟩
def okF (x : Fau) : Bool := decide (0 ≤ x.fr) && decide (x.fr ≤ x.upto) && decide (x.upto ≤ 1099511627776) && decide (1 ≤ x.kind) && decide (x.kind ≤ 3) && decide (0 ≤ x.delay) && decide (x.delay ≤ 1099511627776)
def faultyB (l : List Fau) : Bool := decide (l.length ≤ 1000) && l.all okF
theorem faulty1_any (x : Fau) (w : World) : Calls Tryz.prog 73 #[.agg (fauC x)] w fun e w' => e = .returned (.bool (!(okF x))) ∧ Ext w w' := by
  have HF : Hid (okF x = (decide (0 ≤ x.fr) && decide (x.fr ≤ x.upto) && decide (x.upto ≤ 1099511627776) && decide (1 ≤ x.kind) && decide (x.kind ≤ 3) && decide (0 ≤ x.delay) && decide (x.delay ≤ 1099511627776))) := Lib.hid rfl
  generalize okF x = R at *
  go_enter Tryz.func73, Tryz.ntmps73
  go_wp2_with (go_at_call 47; refine (oall7 _ _ _ _ _ _ _ _ _ _ (by simp)).mono ?_; rintro e w' ⟨rfl, hxl⟩; obtain ⟨xl, rfl⟩ := hxl.asLater; clear hxl)
  go_ret
  exact ⟨ret_bool (by rw [HF.out]; simp only [Bool.not_and]), (by (repeat (first | with_reducible exact Ext.refl _ | with_reducible exact Ext.refl _ | with_reducible refine Ext.drew ?_ | with_reducible refine Ext.drewN ?_ _ | with_reducible refine Ext.alloc ?_ _ | with_reducible refine Ext.onto ?_ _ | (with_reducible refine Ext.setCells ?_ ?_ _ _; rotate_left; focus (first | omega | (simp; done) | (simp; omega))) | (with_reducible refine Ext.setCell ?_ ?_ _; rotate_left; focus (first | omega | (simp; done) | (simp; omega))))))⟩
theorem all_snocF {l : List Fau} {k : Nat} (h : k < l.length) (h0 : (l.take k).all okF = true) (h1 : okF l[k] = true) : (l.take (k + 1)).all okF = true := by
  rw [List.take_succ_eq_append_getElem h, List.all_append, h0]
  simpa using h1
theorem all_noF {l : List Fau} {k : Nat} (h : k < l.length) (h1 : okF l[k] = false) : l.all okF = false := List.all_eq_false.2 ⟨l[k], List.getElem_mem h, by simp [h1]⟩
set_option maxHeartbeats 1000000 in
theorem findexF_any (A : Option Addr) (c : Nat) (l : List Fau) (w : World) (hl : l.length ≤ 100000) (hr : ReadsFau w w.heap.size A l) :
    Calls Tryz.prog 74 #[.slice A l.length c, .func (.func 73) #[] #[]] w fun e w' => ∃ i : Int, e = .returned (.int .i64 i) ∧ (l.all okF = false → 0 ≤ i) ∧ (l.all okF = true → i = -1) ∧ Ext w w' := by
  have HR := Lib.hid hr
  clear hr
  go_enter Tryz.func74, Tryz.ntmps74
  go_wp2
  go_loopw [8] (fun i wr => ∃ k : Nat, k ≤ l.length ∧ i = .int .i64 k ∧ Ext w wr ∧ Hid ((l.take k).all okF = true)) (fun i _ => l.length - (intOf i).toNat)
  case atStart => exact ⟨0, Nat.zero_le _, rfl, Ext.refl _, Lib.hid rfl⟩
  case round =>
    obtain ⟨k, hk, rfl, hx, HJ⟩ := hrel
    have HX := Lib.hid hx
    by_cases hlt : k < l.length
    · obtain ⟨b, off, rfl, hb, hrow, _, _⟩ := ReadsFau.cell (HR.out.ext hx (Nat.le_refl _)) k hlt
      have hsz := hx.size
      have HP := Lib.hid (fun W : World => faulty1_any l[k] W)
      have HN := Lib.hid (fun h => all_snocF hlt HJ.out h)
      have HM := Lib.hid (fun h => all_noF (l := l) hlt h)
      generalize l[k] = x at *
      clear hx
      cases hv : okF x with
      | false =>
        have HE := Lib.hid (HM.out hv)
        rw [hv] at HP
        clear hv HN HM
        go_wp2_with (go_at_call 73; refine (HP.out _).mono ?_; rintro e w' ⟨rfl, hxl⟩; obtain ⟨xl, rfl⟩ := hxl.asLater; clear hxl)
        go_ret
        exact ⟨k, rfl, fun _ => by omega, fun h => (by rw [HE.out] at h; cases h), (by (repeat (first | with_reducible exact HX.out | with_reducible exact Ext.refl _ | with_reducible refine Ext.drew ?_ | with_reducible refine Ext.drewN ?_ _ | with_reducible refine Ext.alloc ?_ _ | with_reducible refine Ext.onto ?_ _ | (with_reducible refine Ext.setCells ?_ ?_ _ _; rotate_left; focus (first | omega | (simp; done) | (simp; omega))) | (with_reducible refine Ext.setCell ?_ ?_ _; rotate_left; focus (first | omega | (simp; done) | (simp; omega))))))⟩
      | true =>
        have HE := Lib.hid (HN.out hv)
        rw [hv] at HP
        clear hv HN HM
        go_wp2_with (go_at_call 73; refine (HP.out _).mono ?_; rintro e w' ⟨rfl, hxl⟩; obtain ⟨xl, rfl⟩ := hxl.asLater; clear hxl)
        go_roundw
        case rel => exact ⟨k + 1, by omega, by go_num, (by (repeat (first | with_reducible exact HX.out | with_reducible exact Ext.refl _ | with_reducible refine Ext.drew ?_ | with_reducible refine Ext.drewN ?_ _ | with_reducible refine Ext.alloc ?_ _ | with_reducible refine Ext.onto ?_ _ | (with_reducible refine Ext.setCells ?_ ?_ _ _; rotate_left; focus (first | omega | (simp; done) | (simp; omega))) | (with_reducible refine Ext.setCell ?_ ?_ _; rotate_left; focus (first | omega | (simp; done) | (simp; omega)))))), HE⟩
        case measure => simp [intOf]; omega
    · have HE : Hid (l.all okF = true) := Lib.hid (by have h := HJ.out; rwa [List.take_of_length_le (by omega)] at h)
      clear hx
      go_wp2
      go_ret
      exact ⟨-1, rfl, fun h => (by rw [HE.out] at h; cases h), fun _ => rfl, HX.out⟩
theorem fcontF_any (A : Option Addr) (c : Nat) (l : List Fau) (w : World) (hl : l.length ≤ 100000) (hr : ReadsFau w w.heap.size A l) :
    Calls Tryz.prog 72 #[.slice A l.length c, .func (.func 73) #[] #[]] w fun e w' => e = .returned (.bool (!(l.all okF))) ∧ Ext w w' := by
  have H := Lib.hid (findexF_any A c l w hl hr)
  clear hr
  cases hb : l.all okF with
  | false =>
    rw [hb] at H
    go_enter Tryz.func72, Tryz.ntmps72
    go_wp2_with (go_at_call 74; refine H.out.mono ?_; rintro e w' ⟨i, rfl, h1, _, hx⟩; have h2 := h1 rfl; obtain ⟨xl, rfl⟩ := hx.asLater; clear hx h1)
    go_ret
    exact ⟨ret_bool (by first | simp; done | (simp; omega)), (by (repeat (first | with_reducible exact Ext.refl _ | with_reducible exact Ext.refl _ | with_reducible refine Ext.drew ?_ | with_reducible refine Ext.drewN ?_ _ | with_reducible refine Ext.alloc ?_ _ | with_reducible refine Ext.onto ?_ _ | (with_reducible refine Ext.setCells ?_ ?_ _ _; rotate_left; focus (first | omega | (simp; done) | (simp; omega))) | (with_reducible refine Ext.setCell ?_ ?_ _; rotate_left; focus (first | omega | (simp; done) | (simp; omega))))))⟩
  | true =>
    rw [hb] at H
    go_enter Tryz.func72, Tryz.ntmps72
    go_wp2_with (go_at_call 74; refine H.out.mono ?_; rintro e w' ⟨i, rfl, _, h1, hx⟩; have h2 := h1 rfl; subst h2; obtain ⟨xl, rfl⟩ := hx.asLater; clear hx h1)
    go_ret
    exact ⟨ret_bool (by simp), (by (repeat (first | with_reducible exact Ext.refl _ | with_reducible exact Ext.refl _ | with_reducible refine Ext.drew ?_ | with_reducible refine Ext.drewN ?_ _ | with_reducible refine Ext.alloc ?_ _ | with_reducible refine Ext.onto ?_ _ | (with_reducible refine Ext.setCells ?_ ?_ _ _; rotate_left; focus (first | omega | (simp; done) | (simp; omega))) | (with_reducible refine Ext.setCell ?_ ?_ _; rotate_left; focus (first | omega | (simp; done) | (simp; omega))))))⟩
theorem ofaulty_any (A : Option Addr) (c : Nat) (l : List Fau) (w : World) (hl : l.length ≤ 100000) (hr : ReadsFau w w.heap.size A l) :
    Calls Tryz.prog 33 #[.slice A l.length c] w fun e w' => e = .returned (.bool (faultyB l)) ∧ Ext w w' := by
  have H := Lib.hid (fcontF_any A c l w hl hr)
  have HF : Hid (faultyB l = (decide (l.length ≤ 1000) && l.all okF)) := Lib.hid rfl
  generalize faultyB l = R at *
  generalize l.all okF = b at *
  by_cases h : l.length ≤ 1000
  · have d0 : decide ((l.length : Int) ≤ 1000) = true := by simp; omega
    have d1 : decide (l.length ≤ 1000) = true := by simpa using h
    clear hr
    go_enter Tryz.func33, Tryz.ntmps33
    go_wp2_with (go_at_call 72; refine H.out.mono ?_; rintro e w' ⟨rfl, hxl⟩; obtain ⟨xl, rfl⟩ := hxl.asLater; clear hxl)
    go_ret
    exact ⟨ret_bool (by rw [HF.out, d1]; simp), (by (repeat (first | with_reducible exact Ext.refl _ | with_reducible exact Ext.refl _ | with_reducible refine Ext.drew ?_ | with_reducible refine Ext.drewN ?_ _ | with_reducible refine Ext.alloc ?_ _ | with_reducible refine Ext.onto ?_ _ | (with_reducible refine Ext.setCells ?_ ?_ _ _; rotate_left; focus (first | omega | (simp; done) | (simp; omega))) | (with_reducible refine Ext.setCell ?_ ?_ _; rotate_left; focus (first | omega | (simp; done) | (simp; omega))))))⟩
  · have d0 : decide ((l.length : Int) ≤ 1000) = false := by simp; omega
    have d1 : decide (l.length ≤ 1000) = false := by simpa using h
    clear hr
    go_enter Tryz.func33, Tryz.ntmps33
    go_wp2_with (go_at_call 72; refine H.out.mono ?_; rintro e w' ⟨rfl, hxl⟩; obtain ⟨xl, rfl⟩ := hxl.asLater; clear hxl)
    go_ret
    exact ⟨ret_bool (by rw [HF.out, d1]; simp), (by (repeat (first | with_reducible exact Ext.refl _ | with_reducible exact Ext.refl _ | with_reducible refine Ext.drew ?_ | with_reducible refine Ext.drewN ?_ _ | with_reducible refine Ext.alloc ?_ _ | with_reducible refine Ext.onto ?_ _ | (with_reducible refine Ext.setCells ?_ ?_ _ _; rotate_left; focus (first | omega | (simp; done) | (simp; omega))) | (with_reducible refine Ext.setCell ?_ ?_ _; rotate_left; focus (first | omega | (simp; done) | (simp; omega))))))⟩
set_option maxHeartbeats 4000000 in
theorem rfaulty_any (A : Option Addr) (c : Nat) (l : List Fau) (w : World) (hl : l.length ≤ 100000) (hr : ReadsFau w w.heap.size A l) :
    Calls Tryz.prog 34 #[.slice A l.length c] w fun e w' => e = .returned (.bool (faultyB l)) ∧ Ext w w' := by
  have HR := Lib.hid hr
  have HF : Hid (faultyB l = (decide (l.length ≤ 1000) && l.all okF)) := Lib.hid rfl
  generalize faultyB l = R at *
  clear hr
  go_enter Tryz.func34, Tryz.ntmps34
  go_wp2
  go_loopw [3] (fun i wr => ∃ k : Nat, k ≤ l.length ∧ i = .int .i64 k ∧ Hid (Ext w wr) ∧ Hid ((l.take k).all okF = true)) (fun i _ => l.length - (intOf i).toNat)
  case atStart => exact ⟨0, Nat.zero_le _, rfl, Lib.hid (Ext.refl _), Lib.hid rfl⟩
  case round =>
    obtain ⟨k, hk, rfl, HX, HJ⟩ := hrel
    by_cases hlt : k < l.length
    · obtain ⟨b, off, rfl, hb, hrow, _, _⟩ := ReadsFau.cell (HR.out.ext HX.out (Nat.le_refl _)) k hlt
      have hsz := HX.out.size
      have hb2 : b < wr.heap.size := by omega
      have HN := Lib.hid (fun h => all_snocF hlt HJ.out h)
      have HM := Lib.hid (fun h => all_noF (l := l) hlt h)
      generalize l[k] = x at *
      have HOk : Hid (okF x = (decide (0 ≤ x.fr) && decide (x.fr ≤ x.upto) && decide (x.upto ≤ 1099511627776) && decide (1 ≤ x.kind) && decide (x.kind ≤ 3) && decide (0 ≤ x.delay) && decide (x.delay ≤ 1099511627776))) := Lib.hid rfl
      generalize okF x = ok at *
      obtain ⟨x0, x1, x2, x3⟩ := x
      simp only [] at HOk
      by_cases q0 : x0 < 0
      ·
        have ex : decide (x0 < 0) = true := by simpa using q0
        have hok : ok = false := by rw [HOk.out]; rw [Bool.eq_false_iff]; simp; omega
        have HE := Lib.hid (HM.out hok)
        clear HN HM HOk hok q0
        go_wp2
        go_ret
        exact ⟨ret_bool (by rw [HF.out, HE.out]; simp), (by (repeat (first | with_reducible exact HX.out | with_reducible exact Ext.refl _ | with_reducible refine Ext.drew ?_ | with_reducible refine Ext.drewN ?_ _ | with_reducible refine Ext.alloc ?_ _ | with_reducible refine Ext.onto ?_ _ | (with_reducible refine Ext.setCells ?_ ?_ _ _; rotate_left; focus (first | omega | (simp; done) | (simp; omega))) | (with_reducible refine Ext.setCell ?_ ?_ _; rotate_left; focus (first | omega | (simp; done) | (simp; omega))))))⟩
      have e0 : decide (x0 < 0) = false := by simpa using q0
      by_cases q1 : x1 < x0
      ·
        have ex : decide (x1 < x0) = true := by simpa using q1
        have hok : ok = false := by rw [HOk.out]; rw [Bool.eq_false_iff]; simp; omega
        have HE := Lib.hid (HM.out hok)
        clear HN HM HOk hok q1
        go_wp2
        go_ret
        exact ⟨ret_bool (by rw [HF.out, HE.out]; simp), (by (repeat (first | with_reducible exact HX.out | with_reducible exact Ext.refl _ | with_reducible refine Ext.drew ?_ | with_reducible refine Ext.drewN ?_ _ | with_reducible refine Ext.alloc ?_ _ | with_reducible refine Ext.onto ?_ _ | (with_reducible refine Ext.setCells ?_ ?_ _ _; rotate_left; focus (first | omega | (simp; done) | (simp; omega))) | (with_reducible refine Ext.setCell ?_ ?_ _; rotate_left; focus (first | omega | (simp; done) | (simp; omega))))))⟩
      have e1 : decide (x1 < x0) = false := by simpa using q1
      by_cases q2 : 1099511627776 < x1
      ·
        have ex : decide (1099511627776 < x1) = true := by simpa using q2
        have hok : ok = false := by rw [HOk.out]; rw [Bool.eq_false_iff]; simp; omega
        have HE := Lib.hid (HM.out hok)
        clear HN HM HOk hok q2
        go_wp2
        go_ret
        exact ⟨ret_bool (by rw [HF.out, HE.out]; simp), (by (repeat (first | with_reducible exact HX.out | with_reducible exact Ext.refl _ | with_reducible refine Ext.drew ?_ | with_reducible refine Ext.drewN ?_ _ | with_reducible refine Ext.alloc ?_ _ | with_reducible refine Ext.onto ?_ _ | (with_reducible refine Ext.setCells ?_ ?_ _ _; rotate_left; focus (first | omega | (simp; done) | (simp; omega))) | (with_reducible refine Ext.setCell ?_ ?_ _; rotate_left; focus (first | omega | (simp; done) | (simp; omega))))))⟩
      have e2 : decide (1099511627776 < x1) = false := by simpa using q2
      by_cases q3 : x2 < 1
      ·
        have ex : decide (x2 < 1) = true := by simpa using q3
        have hok : ok = false := by rw [HOk.out]; rw [Bool.eq_false_iff]; simp; omega
        have HE := Lib.hid (HM.out hok)
        clear HN HM HOk hok q3
        go_wp2
        go_ret
        exact ⟨ret_bool (by rw [HF.out, HE.out]; simp), (by (repeat (first | with_reducible exact HX.out | with_reducible exact Ext.refl _ | with_reducible refine Ext.drew ?_ | with_reducible refine Ext.drewN ?_ _ | with_reducible refine Ext.alloc ?_ _ | with_reducible refine Ext.onto ?_ _ | (with_reducible refine Ext.setCells ?_ ?_ _ _; rotate_left; focus (first | omega | (simp; done) | (simp; omega))) | (with_reducible refine Ext.setCell ?_ ?_ _; rotate_left; focus (first | omega | (simp; done) | (simp; omega))))))⟩
      have e3 : decide (x2 < 1) = false := by simpa using q3
      by_cases q4 : 3 < x2
      ·
        have ex : decide (3 < x2) = true := by simpa using q4
        have hok : ok = false := by rw [HOk.out]; rw [Bool.eq_false_iff]; simp; omega
        have HE := Lib.hid (HM.out hok)
        clear HN HM HOk hok q4
        go_wp2
        go_ret
        exact ⟨ret_bool (by rw [HF.out, HE.out]; simp), (by (repeat (first | with_reducible exact HX.out | with_reducible exact Ext.refl _ | with_reducible refine Ext.drew ?_ | with_reducible refine Ext.drewN ?_ _ | with_reducible refine Ext.alloc ?_ _ | with_reducible refine Ext.onto ?_ _ | (with_reducible refine Ext.setCells ?_ ?_ _ _; rotate_left; focus (first | omega | (simp; done) | (simp; omega))) | (with_reducible refine Ext.setCell ?_ ?_ _; rotate_left; focus (first | omega | (simp; done) | (simp; omega))))))⟩
      have e4 : decide (3 < x2) = false := by simpa using q4
      by_cases q5 : x3 < 0
      ·
        have ex : decide (x3 < 0) = true := by simpa using q5
        have hok : ok = false := by rw [HOk.out]; rw [Bool.eq_false_iff]; simp; omega
        have HE := Lib.hid (HM.out hok)
        clear HN HM HOk hok q5
        go_wp2
        go_ret
        exact ⟨ret_bool (by rw [HF.out, HE.out]; simp), (by (repeat (first | with_reducible exact HX.out | with_reducible exact Ext.refl _ | with_reducible refine Ext.drew ?_ | with_reducible refine Ext.drewN ?_ _ | with_reducible refine Ext.alloc ?_ _ | with_reducible refine Ext.onto ?_ _ | (with_reducible refine Ext.setCells ?_ ?_ _ _; rotate_left; focus (first | omega | (simp; done) | (simp; omega))) | (with_reducible refine Ext.setCell ?_ ?_ _; rotate_left; focus (first | omega | (simp; done) | (simp; omega))))))⟩
      have e5 : decide (x3 < 0) = false := by simpa using q5
      by_cases q6 : 1099511627776 < x3
      ·
        have ex : decide (1099511627776 < x3) = true := by simpa using q6
        have hok : ok = false := by rw [HOk.out]; rw [Bool.eq_false_iff]; simp; omega
        have HE := Lib.hid (HM.out hok)
        clear HN HM HOk hok q6
        go_wp2
        go_ret
        exact ⟨ret_bool (by rw [HF.out, HE.out]; simp), (by (repeat (first | with_reducible exact HX.out | with_reducible exact Ext.refl _ | with_reducible refine Ext.drew ?_ | with_reducible refine Ext.drewN ?_ _ | with_reducible refine Ext.alloc ?_ _ | with_reducible refine Ext.onto ?_ _ | (with_reducible refine Ext.setCells ?_ ?_ _ _; rotate_left; focus (first | omega | (simp; done) | (simp; omega))) | (with_reducible refine Ext.setCell ?_ ?_ _; rotate_left; focus (first | omega | (simp; done) | (simp; omega))))))⟩
      have e6 : decide (1099511627776 < x3) = false := by simpa using q6
      have hok : ok = true := by rw [HOk.out]; simp; omega
      have HE := Lib.hid (HN.out hok)
      clear HN HM HOk hok q0 q1 q2 q3 q4 q5 q6
      go_wp2
      go_roundw
      case rel => exact ⟨k + 1, by omega, by go_num, Lib.hid (by (repeat (first | with_reducible exact HX.out | with_reducible exact Ext.refl _ | with_reducible refine Ext.drew ?_ | with_reducible refine Ext.drewN ?_ _ | with_reducible refine Ext.alloc ?_ _ | with_reducible refine Ext.onto ?_ _ | (with_reducible refine Ext.setCells ?_ ?_ _ _; rotate_left; focus (first | omega | (simp; done) | (simp; omega))) | (with_reducible refine Ext.setCell ?_ ?_ _; rotate_left; focus (first | omega | (simp; done) | (simp; omega)))))), HE⟩
      case measure => simp [intOf]; omega
    · have HE : Hid (l.all okF = true) := Lib.hid (by have h := HJ.out; rwa [List.take_of_length_le (by omega)] at h)
      go_wp2
      go_ret
      exact ⟨ret_bool (by rw [HF.out, HE.out]; simp; omega), HX.out⟩
end Go.Proofs.YtpjacgcaibaggaaGreatDoor


set_option linter.unusedVariables false
set_option linter.unusedSimpArgs false
namespace Go.Proofs.YtpjacgcaibaggaaGreatDoor
open Go.RowKit Go.Shelf
open Go.Proofs

theorem fau_loaded {w : World} {b : Nat} {x : Fau} (h : rowOf w b 0 4 = some (fauC x)) : (loadVar 99 ⟨b, 0, none⟩).run Tryz.prog w = .ok (.agg (fauC x)) w := run_loadVar_row fau_ty h
def fauB0 : Sem Next := do pure (.value (← Instr.build 99 #[]))
theorem fauB0_x (ρ : Operand → Value) (dst : Option Tmp) (t : TypeId) (pos : String) (after : Array Edge) (guard : Option (Nat × Bool)) : execOp ρ { dst, op := .build 99 #[], type := t, pos, after, guard } = fauB0 := by kernel_rfl
theorem fauB0_run (W : World) : fauB0.run Tryz.prog W = .ok (.value (.agg (fauC noFau))) W := by kernel_rfl
attribute [go_sem ↓] fauB0_x
attribute [go_sem] fauB0_run
set_option maxRecDepth 100000 in
set_option maxHeartbeats 2000000 in
theorem rfault_any (A : Option Addr) (c : Nat) (l : List Fau) (t : Int) (w : World) (hl : l.length ≤ 100000) (hr : ReadsFau w w.heap.size A l) :
    Calls Tryz.prog 81 #[.slice A l.length c, .int .i64 t] w fun e w' => e = .returned (.agg (fauC (faultN l t))) ∧ Ext w w' := by
  have HR := Lib.hid hr
  obtain ⟨F, hF⟩ : ∃ F, faultN l t = F := ⟨_, rfl⟩
  have HF := Lib.hid hF
  rw [hF]
  clear hr hF
  have hft0 := fau_fits noFau
  go_enter Tryz.func81, Tryz.ntmps81
  go_wp2
  go_loopw [5] (fun i wr => ∃ k : Nat, k ≤ l.length ∧ i = .int .i64 k ∧ Hid (Ext w wr) ∧ Hid (RowAt wr w.heap.size (fauC noFau)) ∧ Hid ((l.take k).any (hitF t) = false)) (fun i _ => l.length - (intOf i).toNat)
  case atStart => exact ⟨0, Nat.zero_le _, rfl, Lib.hid ((Ext.refl w).alloc _), Lib.hid (RowAt.new _ _ _), Lib.hid rfl⟩
  case round =>
    obtain ⟨k, hk, rfl, HX, HRw, HJ⟩ := hrel
    have hlr := HRw.out.lt
    have hsz := HX.out.size
    have hrm : roomOf wr w.heap.size 0 4 = true := by rw [HRw.out.room]; rfl
    by_cases hlt : k < l.length
    · obtain ⟨b, off, rfl, hb, hrow, d0, d1⟩ := ReadsFau.cell (HR.out.ext HX.out (Nat.le_refl _)) k hlt
      have hb2 : b < wr.heap.size := by omega
      cases hv : hitF t l[k] with
      | true =>
        have HI := Lib.hid ((fault_hit hlt HJ.out hv).symm.trans HF.out)
        generalize l[k] = x at *
        have hFx : x = F := HI.out
        subst hFx
        have hft := fau_fits x
        simp only [hitF, Bool.and_eq_true, decide_eq_true_eq] at hv
        obtain ⟨v1, v2⟩ := hv
        have e1 : decide (x.fr ≤ t) = true := by simpa using v1
        have e2 : decide (t < x.upto) = true := by simpa using v2
        clear HI HF
        go_wp2
        exact post_one (v := .agg (fauC x)) Tryz.results81 rfl ⟨_, rfl, fau_loaded ((HRw.out.store (ds := fauC x) rfl).all rfl (by omega))⟩ ⟨rfl, Ext.setCells HX.out (Nat.le_refl _) _ _⟩
      | false =>
        have HN := Lib.hid (any_snocF hlt HJ.out hv)
        generalize l[k] = x at *
        by_cases h1 : x.fr ≤ t
        · have e1 : decide (x.fr ≤ t) = true := by simpa using h1
          have h2 : ¬ t < x.upto := fun h => by simp [hitF, h1, h] at hv
          have e2 : decide (t < x.upto) = false := by simpa using h2
          clear hv h1 h2
          go_wp2
          go_roundw
          case rel => exact ⟨k + 1, by omega, by go_num, HX, HRw, HN⟩
          case measure => simp [intOf]; omega
        · have e1 : decide (x.fr ≤ t) = false := by simpa using h1
          clear hv h1
          go_wp2
          go_roundw
          case rel => exact ⟨k + 1, by omega, by go_num, HX, HRw, HN⟩
          case measure => simp [intOf]; omega
    · have hFn : noFau = F := (fault_none (l := l) (t := t) (by have h := HJ.out; rwa [List.take_of_length_le (by omega)] at h)).symm.trans HF.out
      subst hFn
      clear HF
      go_wp2
      exact post_one (v := .agg (fauC noFau)) Tryz.results81 rfl ⟨_, rfl, fau_loaded ((HRw.out.store (ds := fauC noFau) rfl).all rfl (by omega))⟩ ⟨rfl, Ext.setCells HX.out (Nat.le_refl _) _ _⟩
set_option maxRecDepth 100000 in
set_option maxHeartbeats 2000000 in
theorem rgiven_any (base : Nat) (A : Option Addr) (c : Nat) (out : List Giv) (Av : Option Addr) (cv : Nat) (lv : List Ver) (t : Int) (known : List Int) (w : World) (hb : base ≤ w.heap.size) (ho : OwnsGiv base w A c out) (hol : out.length ≤ 8) (hl : lv.length ≤ 100000) (hr : ReadsVer w w.heap.size Av lv) (h16 : known.length = 16) (hby : Byt known) (hla : lastAt lv t lv.length = atN lv t) (hv : VerIn (atN lv t)) (hk : RKonst w) :
    Calls Tryz.prog 82 #[.slice A out.length c, .slice Av lv.length cv, .int .i64 t, .agg (dgC known)] w fun e w' => ∃ A' c', e = .returned (.slice A' (giveN lv known out t).length c') ∧ OwnsGiv base w' A' c' (giveN lv known out t) ∧ Below base w w' := by
  have HO := Lib.hid ho
  have HAn : Hid (∀ (W : World) (hx : Ext w W), Calls Tryz.prog 20 #[.slice Av lv.length cv, .int .i64 t, .agg (dgC known)] W fun e w' => e = .returned (.agg (anC (ansOf (atN lv t) known))) ∧ Ext W w') := Lib.hid (fun W hx => by
    have h := ranswer_any Av cv lv t known W hl (hr.on hx) h16 hby (by rw [hla]; exact hv) (RowAt.ext hk hx)
    rwa [hla] at h)
  obtain ⟨L, hL⟩ : ∃ L, giveN lv known out t = L := ⟨_, rfl⟩
  have HL : Hid (L = if t ≤ 1099511627776 then out ++ [(t, ansOf (atN lv t) known)] else out) := Lib.hid (by rw [← hL]; rfl)
  rw [hL]
  clear ho hr h16 hby hla hv hk hL
  generalize ansOf (atN lv t) known = an at *
  by_cases ht : t ≤ 1099511627776
  · have HL' : Hid (L = out ++ [(t, an)]) := Lib.hid (HL.out.trans (if_pos ht))
    have e0 : decide (1099511627776 < t) = false := by simp; omega
    clear HL ht
    go_enter Tryz.func82, Tryz.ntmps82
    go_wp2_with (go_at_call 20; refine (show Hid _ from ?_).out)
    refine Lib.hid ?_
    refine (HAn.out _ ((Ext.refl w).alloc _)).mono ?_
    rintro e w' ⟨rfl, hxl⟩; obtain ⟨xl, rfl⟩ := hxl.asLater; clear hxl
    have HW : Hid (Ext w (later (w.alloc (.cells (dgC known) 24)) xl)) := Lib.hid (((Ext.refl w).alloc _).onto _)
    have HOw : Hid (OwnsGiv base (later (w.alloc (.cells (dgC known) 24)) xl) A c out) := Lib.hid (HO.out.ext HW.out)
    have hsW := HW.out.size
    go_wp2_with (at_builtin; refine app_reads gvT gvE rfl _ _ rfl base A c out rfl (HOw.out.alloc _) _ (some ⟨w.heap.size + 1 + xl.n, 0, none⟩) 1 [(t, an)] rfl (reads_freshAt gvE [(t, an)] _ _ _ _ (by simp [later_size]) (by simp [gvL])) (fun h => by cases h) (by simp; omega) (by simp; omega) (by simp [later_size]; omega) ?_; intro A5 c5 l5 w5 HL5 HO5 hB5 hl1 hl2 _; have HO5' := Lib.hid HO5; have HB5 := Lib.hid hB5; clear HO5 hB5)
    go_ret
    rw [HL'.out, ← HL5.out]
    exact ⟨A5, c5, rfl, HO5'.out, Below.trans (Below.mono (HW.out.alloc _) hb) HB5.out⟩
  · have HL' : Hid (L = out) := Lib.hid (HL.out.trans (if_neg ht))
    have e0 : decide (1099511627776 < t) = true := by simp; omega
    clear HL ht
    go_enter Tryz.func82, Tryz.ntmps82
    go_wp2
    go_ret
    rw [HL'.out]
    exact ⟨A, c, rfl, HO.out.ext ((Ext.refl w).alloc _), Below.alloc (Below.refl _ _) hb _⟩
theorem row_below {B : Nat} {w w' : World} (hx : Below B w w') {b : Nat} (hb : b < B) (o n : Nat) : rowOf w' b o n = rowOf w b o n := rowOf_congr (fun i _ => hx.cell (p := ⟨b, o + i, none⟩) hb)
theorem srv_ty : RowTy Tryz.prog 74 2 := ⟨by kernel_rfl, by kernel_rfl⟩
set_option maxRecDepth 100000 in
set_option maxHeartbeats 8000000 in
theorem rserve_any (Av Af : Option Addr) (cv cf : Nat) (lv : List Ver) (lf : List Fau) (t : Int) (known : List Int) (w : World) (hl : lv.length ≤ 100000) (hlf : lf.length ≤ 100000) (hr : ReadsVer w w.heap.size Av lv) (hrf : ReadsFau w w.heap.size Af lf) (h16 : known.length = 16) (hby : Byt known) (hla : ∀ u, lastAt lv u lv.length = atN lv u) (hv : ∀ t, VerIn (atN lv t)) (hs : i64 (t + (faultN lf t).delay)) (hkd : 0 ≤ (faultN lf t).kind ∧ (faultN lf t).kind ≤ 3) (hk : RKonst w) :
    Calls Tryz.prog 36 #[.slice Av lv.length cv, .slice Af lf.length cf, .int .i64 t, .agg (dgC known)] w fun e w' => ∃ A c, e = .returned (.agg #[.slice A (servedN lv known t (faultN lf t)).length c, .int .i64 (servE (servedN lv known t (faultN lf t)))]) ∧ Reads 22 gvL w' w'.heap.size A (servedN lv known t (faultN lf t)) ∧ Ext w w' := by
  have HFa := Lib.hid (fun (W : World) (hx : Ext w W) => rfault_any Af cf lf t W hlf (hrf.on hx))
  have HG := Lib.hid (fun (base : Nat) (A : Option Addr) (c : Nat) (out : List Giv) (u : Int) (W : World) (hx : Ext w W) (hb : base ≤ W.heap.size) (ho : OwnsGiv base W A c out) (hol : out.length ≤ 8) => rgiven_any base A c out Av cv lv u known W hb ho hol hl (hr.on hx) h16 hby (hla u) (hv u) (RowAt.ext hk hx))
  generalize faultN lf t = x at *
  obtain ⟨S, hS⟩ : ∃ S, servedN lv known t x = S := ⟨_, rfl⟩
  have HS := Lib.hid hS
  rw [hS]
  have hft := fau_fits x
  clear hl hlf hr hrf h16 hby hla hv hk hS
  go_enter Tryz.func36, Tryz.ntmps36
  go_upto_region 2 with (go_at_call 81; refine (HFa.out _ (by (repeat (first | with_reducible exact Ext.refl _ | with_reducible exact Ext.refl _ | with_reducible refine Ext.drew ?_ | with_reducible refine Ext.drewN ?_ _ | with_reducible refine Ext.alloc ?_ _ | with_reducible refine Ext.onto ?_ _ | (with_reducible refine Ext.setCells ?_ ?_ _ _; rotate_left; focus (first | omega | (simp; done) | (simp; omega))) | (with_reducible refine Ext.setCell ?_ ?_ _; rotate_left; focus (first | omega | (simp; done) | (simp; omega))))))).mono ?_; rintro e w' ⟨rfl, hxl⟩; obtain ⟨xl, rfl⟩ := hxl.asLater; clear hxl)
  refine wp_world (fun W => Ext w W ∧ RowAt W w.heap.size (dgC known) ∧ RowAt W (w.heap.size + 1) #[.slice none 0 0, .int .i64 0] ∧ RowAt W (w.heap.size + 1 + 1 + xl.n) (fauC x)) ⟨(by (repeat (first | with_reducible exact Ext.refl _ | with_reducible exact Ext.refl _ | with_reducible refine Ext.drew ?_ | with_reducible refine Ext.drewN ?_ _ | with_reducible refine Ext.alloc ?_ _ | with_reducible refine Ext.onto ?_ _ | (with_reducible refine Ext.setCells ?_ ?_ _ _; rotate_left; focus (first | omega | (simp; done) | (simp; omega))) | (with_reducible refine Ext.setCell ?_ ?_ _; rotate_left; focus (first | omega | (simp; done) | (simp; omega)))))), ?_, ?_, ?_⟩ ?_
  · exact (((((RowAt.new _ _ _).alloc _).later _).alloc _).others (by omega) _ _)
  · exact ((((RowAt.newAt (cs := #[.slice none 0 0, .int .i64 0]) (by simp)).later _).alloc _).others (by omega) _ _)
  · exact (RowAt.newAt (cs := fauC noFau) (t := 99) (by simp [later_size])).store rfl
  have hB9 : w.heap.size + 1 < w.heap.size + 1 + 1 + xl.n := by omega
  generalize w.heap.size + 1 + 1 + xl.n = B9 at *
  rintro W1 ⟨x1, k1, t1, u1⟩
  have HX1 := Lib.hid x1
  have HT1 := Lib.hid t1
  have hk1 : rowOf W1 w.heap.size 0 16 = some (dgC known) := k1.all rfl (by omega)
  have z2 : W1.cell? ⟨B9, 2, none⟩ = some (.int .i64 x.kind) := u1.cell 2
  have z3 : W1.cell? ⟨B9, 3, none⟩ = some (.int .i64 x.delay) := u1.cell 3
  have s0 : W1.cell? ⟨w.heap.size + 1, 0, none⟩ = some (.slice none 0 0) := t1.cell 0
  have s1 : W1.cell? ⟨w.heap.size + 1, 1, none⟩ = some (.int .i64 0) := t1.cell 1
  have sf := t1.free
  have hlk := k1.lt
  have hlu := u1.lt
  have hlt := t1.lt
  clear x1 t1 k1 u1
  have HG1 : Hid (∀ (A : Option Addr) (c : Nat) (out : List Giv) (u : Int) (W : World), Below W1.heap.size W1 W → OwnsGiv W1.heap.size W A c out → out.length ≤ 8 → Calls Tryz.prog 82 #[.slice A out.length c, .slice Av lv.length cv, .int .i64 u, .agg (dgC known)] W fun e w' => ∃ A' c', e = .returned (.slice A' (giveN lv known out u).length c') ∧ OwnsGiv W1.heap.size w' A' c' (giveN lv known out u) ∧ Below W1.heap.size W w') :=
    Lib.hid (fun A c out u W hB ho hol => HG.out W1.heap.size A c out u W (HX1.out.grown hB HX1.out.size) hB.size ho hol)
  clear HG HFa
  obtain ⟨hk0, hk3⟩ := hkd
  have hk4 : x.kind = 0 ∨ x.kind = 1 ∨ x.kind = 2 ∨ x.kind = 3 := by omega
  rcases hk4 with hk4 | hk4 | hk4 | hk4
  · have hL : giveN lv known [] t = S := (show servedN lv known t x = _ by simp [servedN, hk4]).symm.trans HS.out
    rw [hk4] at z2
    have HG2 := Lib.hid (HG1.out none 0 [] t W1 (Below.refl _ _) (Owns.nil _ _ _ _ _) (by simp))
    rw [hL] at HG2
    clear HG1 hL HS hk4 hk0 hk3 hs
    go_wp2_with (go_at_call 82; refine (show Hid _ from ?_).out)
    refine Lib.hid ?_
    refine HG2.out.mono ?_
    rintro e w2 ⟨A2, c2, rfl, ho2, hb2⟩
    have HO2 := Lib.hid ho2
    clear ho2
    have y2 := (hb2.cell (p := ⟨B9, 2, none⟩) hlu).trans z2
    have y3 := (hb2.cell (p := ⟨B9, 3, none⟩) hlu).trans z3
    have yk : rowOf w2 w.heap.size 0 16 = some (dgC known) := (row_below hb2 hlk 0 16).trans hk1
    have ht2 := HT1.out.below hb2 hlt
    have y0 : w2.cell? ⟨w.heap.size + 1, 0, none⟩ = some (.slice none 0 0) := ht2.cell 0
    have y1 : w2.cell? ⟨w.heap.size + 1, 1, none⟩ = some (.int .i64 0) := ht2.cell 1
    have yf := ht2.free
    have HT2 := Lib.hid ht2
    have HB2 := Lib.hid hb2
    have hs2 := hb2.size
    clear hb2 ht2
    go_upto_region 9 with (fail)
    by_cases hS0 : S = []
    ·
      have hS1 : S.length = 0 := by rw [hS0]; rfl
      have hv1 : servE S = 340 := if_pos hS0
      have hS2 : ¬ 0 < S.length := by omega
      go_wp2
      refine post_row srv_ty Tryz.results36 rfl rfl (RowAt.set2 HT2.out _ _) ⟨none, 0, by rw [hS1, hv1], by rw [hS0]; exact fun h => absurd h (by simp), ?_⟩
      exact ((HX1.out.grown HB2.out HX1.out.size).setCell (by show _ ≤ w.heap.size + 1; omega) _).setCell (by show _ ≤ w.heap.size + 1; omega) _
    ·
      have hS1 : 0 < S.length := by rcases S with _ | ⟨a, S'⟩; exact absurd rfl hS0; simp
      have hv1 : servE S = 0 := if_neg hS0
      go_wp2
      refine post_row srv_ty Tryz.results36 rfl rfl (RowAt.set2 HT2.out _ _) ⟨A2, c2, by rw [hv1], ?_, ?_⟩
      · exact ((HO2.out.other (p := ⟨w.heap.size + 1, 0, none⟩) hlt _).other (p := ⟨w.heap.size + 1, 1, none⟩) hlt _).reads gvE
      · exact ((HX1.out.grown HB2.out HX1.out.size).setCell (by show _ ≤ w.heap.size + 1; omega) _).setCell (by show _ ≤ w.heap.size + 1; omega) _
  · have hL : [] = S := (show servedN lv known t x = _ by simp [servedN, hk4]).symm.trans HS.out
    subst hL
    rw [hk4] at z2
    clear HG1 HS hk4 hk0 hk3 hs
    go_wp2
    refine post_row srv_ty Tryz.results36 rfl rfl (RowAt.set2 HT1.out _ _) ⟨none, 0, rfl, fun h => absurd h (by simp), ?_⟩
    exact ((HX1.out).setCell (by show _ ≤ w.heap.size + 1; omega) _).setCell (by show _ ≤ w.heap.size + 1; omega) _
  · have hL : giveN lv known [] (t + x.delay) = S := (show servedN lv known t x = _ by simp [servedN, hk4]).symm.trans HS.out
    rw [hk4] at z2
    have HG2 := Lib.hid (HG1.out none 0 [] (t + x.delay) W1 (Below.refl _ _) (Owns.nil _ _ _ _ _) (by simp))
    rw [hL] at HG2
    obtain ⟨hs1, hs2⟩ := hs
    clear HG1 hL HS hk4 hk0 hk3
    go_wp2_with (go_at_call 82; refine (show Hid _ from ?_).out)
    refine Lib.hid ?_
    refine HG2.out.mono ?_
    rintro e w2 ⟨A2, c2, rfl, ho2, hb2⟩
    have HO2 := Lib.hid ho2
    clear ho2 hs1 hs2
    have y2 := (hb2.cell (p := ⟨B9, 2, none⟩) hlu).trans z2
    have y3 := (hb2.cell (p := ⟨B9, 3, none⟩) hlu).trans z3
    have yk : rowOf w2 w.heap.size 0 16 = some (dgC known) := (row_below hb2 hlk 0 16).trans hk1
    have ht2 := HT1.out.below hb2 hlt
    have y0 : w2.cell? ⟨w.heap.size + 1, 0, none⟩ = some (.slice none 0 0) := ht2.cell 0
    have y1 : w2.cell? ⟨w.heap.size + 1, 1, none⟩ = some (.int .i64 0) := ht2.cell 1
    have yf := ht2.free
    have HT2 := Lib.hid ht2
    have HB2 := Lib.hid hb2
    have hs2 := hb2.size
    clear hb2 ht2
    go_upto_region 9 with (fail)
    by_cases hS0 : S = []
    ·
      have hS1 : S.length = 0 := by rw [hS0]; rfl
      have hv1 : servE S = 340 := if_pos hS0
      have hS2 : ¬ 0 < S.length := by omega
      go_wp2
      refine post_row srv_ty Tryz.results36 rfl rfl (RowAt.set2 HT2.out _ _) ⟨none, 0, by rw [hS1, hv1], by rw [hS0]; exact fun h => absurd h (by simp), ?_⟩
      exact ((HX1.out.grown HB2.out HX1.out.size).setCell (by show _ ≤ w.heap.size + 1; omega) _).setCell (by show _ ≤ w.heap.size + 1; omega) _
    ·
      have hS1 : 0 < S.length := by rcases S with _ | ⟨a, S'⟩; exact absurd rfl hS0; simp
      have hv1 : servE S = 0 := if_neg hS0
      go_wp2
      refine post_row srv_ty Tryz.results36 rfl rfl (RowAt.set2 HT2.out _ _) ⟨A2, c2, by rw [hv1], ?_, ?_⟩
      · exact ((HO2.out.other (p := ⟨w.heap.size + 1, 0, none⟩) hlt _).other (p := ⟨w.heap.size + 1, 1, none⟩) hlt _).reads gvE
      · exact ((HX1.out.grown HB2.out HX1.out.size).setCell (by show _ ≤ w.heap.size + 1; omega) _).setCell (by show _ ≤ w.heap.size + 1; omega) _
  · have hL : giveN lv known (giveN lv known [] t) (t + x.delay) = S := (show servedN lv known t x = _ by simp [servedN, hk4]).symm.trans HS.out
    rw [hk4] at z2
    have hl1 : (giveN lv known [] t).length ≤ 8 := by unfold giveN; split <;> simp
    have HG2 := Lib.hid (HG1.out none 0 [] t W1 (Below.refl _ _) (Owns.nil _ _ _ _ _) (by simp))
    have HG3 := Lib.hid (fun A c W hB ho => HG1.out A c (giveN lv known [] t) (t + x.delay) W hB ho hl1)
    rw [hL] at HG3
    generalize giveN lv known [] t = S1 at *
    obtain ⟨hs1, hs2⟩ := hs
    clear HG1 hL HS hk4 hk0 hk3
    go_wp2_with (go_at_call 82; refine (show Hid _ from ?_).out)
    refine Lib.hid ?_
    refine HG2.out.mono ?_
    rintro e w3 ⟨A3, c3, rfl, ho3, hb3⟩
    have HG4 := Lib.hid (HG3.out A3 c3 w3 hb3 ho3)
    have u2 := (hb3.cell (p := ⟨B9, 2, none⟩) hlu).trans z2
    have u3 := (hb3.cell (p := ⟨B9, 3, none⟩) hlu).trans z3
    have uk : rowOf w3 w.heap.size 0 16 = some (dgC known) := (row_below hb3 hlk 0 16).trans hk1
    have hl9 := hb3.size
    have HB3 := Lib.hid hb3
    clear HG3 HG2 ho3 hb3
    go_wp2_with (go_at_call 82; refine (show Hid _ from ?_).out)
    refine Lib.hid ?_
    refine HG4.out.mono ?_
    rintro e w2 ⟨A2, c2, rfl, ho2, hb2'⟩
    have hb2 : Below W1.heap.size W1 w2 := Below.trans HB3.out hb2'
    have HO2 := Lib.hid ho2
    clear ho2 hs1 hs2 hb2' u2 u3 uk HB3 hl9
    have y2 := (hb2.cell (p := ⟨B9, 2, none⟩) hlu).trans z2
    have y3 := (hb2.cell (p := ⟨B9, 3, none⟩) hlu).trans z3
    have yk : rowOf w2 w.heap.size 0 16 = some (dgC known) := (row_below hb2 hlk 0 16).trans hk1
    have ht2 := HT1.out.below hb2 hlt
    have y0 : w2.cell? ⟨w.heap.size + 1, 0, none⟩ = some (.slice none 0 0) := ht2.cell 0
    have y1 : w2.cell? ⟨w.heap.size + 1, 1, none⟩ = some (.int .i64 0) := ht2.cell 1
    have yf := ht2.free
    have HT2 := Lib.hid ht2
    have HB2 := Lib.hid hb2
    have hs2 := hb2.size
    clear hb2 ht2
    go_upto_region 9 with (fail)
    by_cases hS0 : S = []
    ·
      have hS1 : S.length = 0 := by rw [hS0]; rfl
      have hv1 : servE S = 340 := if_pos hS0
      have hS2 : ¬ 0 < S.length := by omega
      go_wp2
      refine post_row srv_ty Tryz.results36 rfl rfl (RowAt.set2 HT2.out _ _) ⟨none, 0, by rw [hS1, hv1], by rw [hS0]; exact fun h => absurd h (by simp), ?_⟩
      exact ((HX1.out.grown HB2.out HX1.out.size).setCell (by show _ ≤ w.heap.size + 1; omega) _).setCell (by show _ ≤ w.heap.size + 1; omega) _
    ·
      have hS1 : 0 < S.length := by rcases S with _ | ⟨a, S'⟩; exact absurd rfl hS0; simp
      have hv1 : servE S = 0 := if_neg hS0
      go_wp2
      refine post_row srv_ty Tryz.results36 rfl rfl (RowAt.set2 HT2.out _ _) ⟨A2, c2, by rw [hv1], ?_, ?_⟩
      · exact ((HO2.out.other (p := ⟨w.heap.size + 1, 0, none⟩) hlt _).other (p := ⟨w.heap.size + 1, 1, none⟩) hlt _).reads gvE
      · exact ((HX1.out.grown HB2.out HX1.out.size).setCell (by show _ ≤ w.heap.size + 1; omega) _).setCell (by show _ ≤ w.heap.size + 1; omega) _
end Go.Proofs.YtpjacgcaibaggaaGreatDoor


set_option linter.unusedVariables false
set_option linter.unusedSimpArgs false
namespace Go.Proofs.YtpjacgcaibaggaaGreatDoor
open Go.RowKit Go.Shelf
open Go.Proofs

def noGiv : Giv := (0, noAn)
theorem giv_ty : RowTy Tryz.prog 92 22 := ⟨by kernel_rfl, by kernel_rfl⟩
theorem giv_ld (w : World) (b o : Nat) : (rowLoad 92 22 (.pointer (some ⟨b, o, none⟩))).run Tryz.prog w = rowLoadR Tryz.prog w 92 22 b o (rowOf w b o 22) := run_rowLoad giv_ty w b o
theorem giv_st (w : World) (b o : Nat) (cells : Array Value) : (rowStore 92 22 (.pointer (some ⟨b, o, none⟩)) (.agg cells)).run Tryz.prog w = rowStoreR Tryz.prog w 92 22 b o cells (roomOf w b o 22 && fitsRow 22 cells) := run_rowStore giv_ty w b o cells
theorem giv_lv (w : World) (b o : Nat) : (loadVar 92 ⟨b, o, none⟩).run Tryz.prog w = varRes Tryz.prog w 92 b o (rowOf w b o 22) := loadVar_row giv_ty w b o
theorem giv_al (w : World) : (rowAlloc 92).run Tryz.prog w = .ok (.value (.pointer (some ⟨w.heap.size, 0, none⟩))) (w.alloc (.cells (gvC noGiv) 92)) := run_rowAlloc (by kernel_rfl) w
theorem giv_xl (ρ : Operand → Value) (dst : Option Tmp) (x : Operand) (t : TypeId) (pos : String) (after : Array Edge) (guard : Option (Nat × Bool)) : execOp ρ { dst, op := .load 92 x, type := t, pos, after, guard } = rowLoad 92 22 (ρ x) := rfl
theorem giv_xs (ρ : Operand → Value) (dst : Option Tmp) (x y : Operand) (t : TypeId) (pos : String) (after : Array Edge) (guard : Option (Nat × Bool)) : execOp ρ { dst, op := .store 92 x y, type := t, pos, after, guard } = rowStore 92 22 (ρ x) (ρ y) := rfl
theorem giv_xa (ρ : Operand → Value) (dst : Option Tmp) (t : TypeId) (pos : String) (after : Array Edge) (guard : Option (Nat × Bool)) : execOp ρ { dst, op := .alloc 92, type := t, pos, after, guard } = rowAlloc 92 := rfl
attribute [go_sem ↓] giv_xl giv_xs giv_xa
attribute [go_sem] giv_ld giv_st giv_al
theorem dgx_self (a0 a1 a2 a3 a4 a5 a6 a7 a8 a9 a10 a11 a12 a13 a14 a15 : Int) (W : World) : (Op.equalIn 9998 24 (.agg #[.int .u8 a0, .int .u8 a1, .int .u8 a2, .int .u8 a3, .int .u8 a4, .int .u8 a5, .int .u8 a6, .int .u8 a7, .int .u8 a8, .int .u8 a9, .int .u8 a10, .int .u8 a11, .int .u8 a12, .int .u8 a13, .int .u8 a14, .int .u8 a15]) (.agg #[.int .u8 a0, .int .u8 a1, .int .u8 a2, .int .u8 a3, .int .u8 a4, .int .u8 a5, .int .u8 a6, .int .u8 a7, .int .u8 a8, .int .u8 a9, .int .u8 a10, .int .u8 a11, .int .u8 a12, .int .u8 a13, .int .u8 a14, .int .u8 a15])).run Tryz.prog W = .ok true W := by
  have hc : Tryz.prog.cellsOf 5 = 1 := by kernel_rfl
  have hr : List.range 16 = [0, 1, 2, 3, 4, 5, 6, 7, 8, 9, 10, 11, 12, 13, 14, 15] := by decide
  have hinf : (Tryz.prog.info? 5).map (fun i => (i.zero, i.size, i.bytes)) = some (some (.int .u8 0), 1, 1) := by kernel_rfl
  obtain ⟨i, hi, _, _, _⟩ := info_parts hinf
  rw [run_equalIn_array W 9997 (t := 24) (e := 5) (n := 16) _ _ (by kernel_rfl) hi, hc, hr]
  simp [Op.eqItems, go_sem]
theorem giv_self (g : Giv) (W : World) : (binOp .neq 92 (.agg (gvC g)) (.agg (gvC g))).run Tryz.prog W = .ok (.bool false) W := by
  rw [run_neq_struct]
  simp [go_sem, gvC, anC, dgC, dgx_self]
attribute [local go_sem ↓] giv_self
abbrev ReadsGiv (w : World) (B : Nat) (A : Option Addr) (l : List Giv) : Prop := Reads 22 gvL w B A l
theorem ReadsGiv.row {w : World} {B : Nat} {A : Option Addr} {l : List Giv} (h : ReadsGiv w B A l) (i : Nat) (hi : i < l.length) : ∃ b off, A = some ⟨b, off, none⟩ ∧ b < B ∧ rowOf w b (off + i * 22) 22 = some (gvC l[i]) := by
  obtain ⟨b, off, h1, h2, h3⟩ := h (by omega)
  refine ⟨b, off, h1, h2, rowOf_some rfl fun j hj => ?_⟩
  have hlen : (gvL l[i]).length = 22 := rfl
  have k := h3 i hi j ((gvL l[i])[j]'(by omega)) (List.getElem?_eq_getElem _)
  rw [k, ← List.getElem?_eq_getElem]
  show (gvC l[i]).toList[j]? = (gvC l[i])[j]?
  rw [Array.getElem?_toList]
set_option maxRecDepth 100000 in
set_option maxHeartbeats 2000000 in
theorem rsame_any (A A2 : Option Addr) (c c2 : Nat) (l : List Giv) (w : World) (hl : l.length ≤ 100000) (hr : ReadsGiv w w.heap.size A l) (hr2 : ReadsGiv w w.heap.size A2 l) :
    Calls Tryz.prog 37 #[.slice A l.length c, .slice A2 l.length c2] w fun e w' => e = .returned (.bool true) ∧ Ext w w' := by
  have HR := Lib.hid hr
  have HR2 := Lib.hid hr2
  clear hr hr2
  go_enter Tryz.func37, Tryz.ntmps37
  go_wp2
  go_loopw [5] (fun i wr => ∃ k : Nat, k ≤ l.length ∧ i = .int .i64 k ∧ Hid (Ext w wr)) (fun i _ => l.length - (intOf i).toNat)
  case atStart => exact ⟨0, Nat.zero_le _, rfl, Lib.hid (Ext.refl _)⟩
  case round =>
    obtain ⟨k, hk, rfl, HX⟩ := hrel
    by_cases hlt : k < l.length
    · obtain ⟨b, off, rfl, hb, hrow⟩ := ReadsGiv.row (HR.out.ext HX.out (Nat.le_refl _)) k hlt
      obtain ⟨b2, off2, rfl, hb2, hrow2⟩ := ReadsGiv.row (HR2.out.ext HX.out (Nat.le_refl _)) k hlt
      have hsz := HX.out.size
      have hb' : b < wr.heap.size := by omega
      have hb2' : b2 < wr.heap.size := by omega
      generalize l[k] = g at *
      go_wp2
      refine wp_region_later (by kernel_rfl) (by kernel_rfl) ?_
      repeat (first | go_big_quiet_step (fail) | quiet_step (fail))
      refine wpQuiet_nil ?_
      rintro _ ⟨xq, rfl⟩
      go_wp2
      go_roundw
      case rel => exact ⟨k + 1, by omega, by go_num, Lib.hid (by (repeat (first | with_reducible exact HX.out | with_reducible exact Ext.refl _ | with_reducible refine Ext.drew ?_ | with_reducible refine Ext.drewN ?_ _ | with_reducible refine Ext.alloc ?_ _ | with_reducible refine Ext.onto ?_ _ | (with_reducible refine Ext.setCells ?_ ?_ _ _; rotate_left; focus (first | omega | (simp; done) | (simp; omega))) | (with_reducible refine Ext.setCell ?_ ?_ _; rotate_left; focus (first | omega | (simp; done) | (simp; omega))))))⟩
      case measure => simp [intOf]; omega
    · go_wp2
      go_ret
      exact ⟨rfl, HX.out⟩
end Go.Proofs.YtpjacgcaibaggaaGreatDoor


set_option linter.unusedVariables false
set_option linter.unusedSimpArgs false
namespace Go.Proofs.YtpjacgcaibaggaaGreatDoor
open Go.RowKit Go.Shelf
open Go.Proofs

theorem okF_is {x : Fau} (h : okF x = true) : 0 ≤ x.fr ∧ x.fr ≤ x.upto ∧ x.upto ≤ 1099511627776 ∧ 1 ≤ x.kind ∧ x.kind ≤ 3 ∧ 0 ≤ x.delay ∧ x.delay ≤ 1099511627776 := by
  simp only [okF, Bool.and_eq_true, decide_eq_true_eq] at h
  omega
theorem fault_or (l : List Fau) (t : Int) : faultN l t = noFau ∨ faultN l t ∈ l := by
  unfold faultN
  cases h : l.find? (hitF t) with
  | none => exact .inl rfl
  | some x => exact .inr (List.mem_of_find?_eq_some h)
theorem fault_in {l : List Fau} {t : Int} (h : faultyB l = true) : 0 ≤ (faultN l t).kind ∧ (faultN l t).kind ≤ 3 ∧ 0 ≤ (faultN l t).delay ∧ (faultN l t).delay ≤ 1099511627776 := by
  simp only [faultyB, Bool.and_eq_true, List.all_eq_true] at h
  rcases fault_or l t with e | e
  · rw [e]; decide
  · have := okF_is (h.2 _ e)
    omega
theorem inst_is {t : Int} (h : instB t = true) : 0 ≤ t ∧ t ≤ 1099511627776 := by
  simp only [instB, Bool.and_eq_true, decide_eq_true_eq] at h
  exact h
set_option maxRecDepth 100000 in
set_option maxHeartbeats 4000000 in
theorem serves_ok (A : Option Addr) (c : Nat) (l : List Ver) (A2 : Option Addr) (c2 : Nat) (lf : List Fau) (t : Int) (known : List Int) (w : World) (hl : l.length ≤ 9223372036854775807) (hz : ∀ v ∈ l, v.bytes.size ≤ 9223372036854775807 ∧ v.tags.size ≤ 9223372036854775807) (hr : ReadsVer w w.heap.size A l) (hlf : lf.length ≤ 9223372036854775807) (hrf : ReadsFau w w.heap.size A2 lf) (h16 : known.length = 16) (hby : Byt known)
    (hk : Konst 0 w) (hrk : RKonst w) :
    Calls Tryz.prog 7 #[.slice A l.length c, .slice A2 lf.length c2, .int .i64 t, .agg (dgC known)] w fun e w' => e = .returned (.bool true) ∧ Ext w w' := by
  have HS := Lib.hid (fun (W : World) (hx : Ext w W) => sanity34 W (RowAt.ext hk hx))
  have HF := Lib.hid (fun (W : World) (hx : Ext w W) => few_any A c l 20 W hl hz (hr.on hx))
  cases hf : fewB l 20 with
  | false =>
    have Hf := Lib.hid hf
    clear hl hz hr hk hrk hf hrf
    go_enter Tryz.func7, Tryz.ntmps7
    go_wp2_with (first
      | (go_at_call 10; refine (HF.out _ (by (repeat (first | with_reducible exact Ext.refl _ | with_reducible exact Ext.refl _ | with_reducible refine Ext.drew ?_ | with_reducible refine Ext.drewN ?_ _ | with_reducible refine Ext.alloc ?_ _ | with_reducible refine Ext.onto ?_ _ | (with_reducible refine Ext.setCells ?_ ?_ _ _; rotate_left; focus (first | omega | (simp; done) | (simp; omega))) | (with_reducible refine Ext.setCell ?_ ?_ _; rotate_left; focus (first | omega | (simp; done) | (simp; omega))))))).mono ?_; rintro e w' ⟨rfl, hxk⟩; rw [Hf.out]; obtain ⟨xk, rfl⟩ := hxk.asLater; clear hxk)
      | (go_at_call 13; refine (HV2.out _ (by (repeat (first | with_reducible exact Ext.refl _ | with_reducible exact Ext.refl _ | with_reducible refine Ext.drew ?_ | with_reducible refine Ext.drewN ?_ _ | with_reducible refine Ext.alloc ?_ _ | with_reducible refine Ext.onto ?_ _ | (with_reducible refine Ext.setCells ?_ ?_ _ _; rotate_left; focus (first | omega | (simp; done) | (simp; omega))) | (with_reducible refine Ext.setCell ?_ ?_ _; rotate_left; focus (first | omega | (simp; done) | (simp; omega))))))).mono ?_; rintro e w' ⟨rfl, hxk⟩; rw [Hv.out]; obtain ⟨xk, rfl⟩ := hxk.asLater; clear hxk)
      | (go_at_call 14; refine (rinst34 _ _).mono ?_; rintro e w' ⟨rfl, hxk⟩; rw [Hi1.out]; obtain ⟨xk, rfl⟩ := hxk.asLater; clear hxk)
      | (go_at_call 33; refine (HQ1.out _ (by (repeat (first | with_reducible exact Ext.refl _ | with_reducible exact Ext.refl _ | with_reducible refine Ext.drew ?_ | with_reducible refine Ext.drewN ?_ _ | with_reducible refine Ext.alloc ?_ _ | with_reducible refine Ext.onto ?_ _ | (with_reducible refine Ext.setCells ?_ ?_ _ _; rotate_left; focus (first | omega | (simp; done) | (simp; omega))) | (with_reducible refine Ext.setCell ?_ ?_ _; rotate_left; focus (first | omega | (simp; done) | (simp; omega))))))).mono ?_; rintro e w' ⟨rfl, hxk⟩; rw [Hq.out]; obtain ⟨xk, rfl⟩ := hxk.asLater; clear hxk)
      | (go_at_call 34; refine (HQ2.out _ (by (repeat (first | with_reducible exact Ext.refl _ | with_reducible exact Ext.refl _ | with_reducible refine Ext.drew ?_ | with_reducible refine Ext.drewN ?_ _ | with_reducible refine Ext.alloc ?_ _ | with_reducible refine Ext.onto ?_ _ | (with_reducible refine Ext.setCells ?_ ?_ _ _; rotate_left; focus (first | omega | (simp; done) | (simp; omega))) | (with_reducible refine Ext.setCell ?_ ?_ _; rotate_left; focus (first | omega | (simp; done) | (simp; omega))))))).mono ?_; rintro e w' ⟨rfl, hxk⟩; rw [Hq.out]; obtain ⟨xk, rfl⟩ := hxk.asLater; clear hxk)
      | (go_at_call 11; refine (HS.out _ (by (repeat (first | with_reducible exact Ext.refl _ | with_reducible exact Ext.refl _ | with_reducible refine Ext.drew ?_ | with_reducible refine Ext.drewN ?_ _ | with_reducible refine Ext.alloc ?_ _ | with_reducible refine Ext.onto ?_ _ | (with_reducible refine Ext.setCells ?_ ?_ _ _; rotate_left; focus (first | omega | (simp; done) | (simp; omega))) | (with_reducible refine Ext.setCell ?_ ?_ _; rotate_left; focus (first | omega | (simp; done) | (simp; omega))))))).mono ?_; rintro e w' ⟨rfl, hxk⟩; obtain ⟨xk, rfl⟩ := hxk.asLater; clear hxk))
    go_ret
    exact ⟨rfl, (by (repeat (first | with_reducible exact Ext.refl _ | with_reducible exact Ext.refl _ | with_reducible refine Ext.drew ?_ | with_reducible refine Ext.drewN ?_ _ | with_reducible refine Ext.alloc ?_ _ | with_reducible refine Ext.onto ?_ _ | (with_reducible refine Ext.setCells ?_ ?_ _ _; rotate_left; focus (first | omega | (simp; done) | (simp; omega))) | (with_reducible refine Ext.setCell ?_ ?_ _; rotate_left; focus (first | omega | (simp; done) | (simp; omega))))))⟩
  | true =>
    have Hf := Lib.hid hf
    obtain ⟨hsm, hl20⟩ := few_is hf
    have hl9 : l.length ≤ 100000 := by omega
    have htz : ∀ v ∈ l, v.tags.size ≤ 900000 ∧ v.bytes.size ≤ 9223372036854775807 := fun v hv => by have := hsm v hv; omega
    have HV2 := Lib.hid (fun (W : World) (hx : Ext w W) => rvalidV_any A c l W hl9 htz (hr.on hx))
    by_cases h20 : 20 < lf.length
    · have d20 : decide ((20 : Int) < (lf.length : Int)) = true := by simp; omega
      clear hl hz hr hk hrk hf hrf HV2 hsm htz
      go_enter Tryz.func7, Tryz.ntmps7
      go_wp2_with (first
        | (go_at_call 10; refine (HF.out _ (by (repeat (first | with_reducible exact Ext.refl _ | with_reducible exact Ext.refl _ | with_reducible refine Ext.drew ?_ | with_reducible refine Ext.drewN ?_ _ | with_reducible refine Ext.alloc ?_ _ | with_reducible refine Ext.onto ?_ _ | (with_reducible refine Ext.setCells ?_ ?_ _ _; rotate_left; focus (first | omega | (simp; done) | (simp; omega))) | (with_reducible refine Ext.setCell ?_ ?_ _; rotate_left; focus (first | omega | (simp; done) | (simp; omega))))))).mono ?_; rintro e w' ⟨rfl, hxk⟩; rw [Hf.out]; obtain ⟨xk, rfl⟩ := hxk.asLater; clear hxk)
        | (go_at_call 13; refine (HV2.out _ (by (repeat (first | with_reducible exact Ext.refl _ | with_reducible exact Ext.refl _ | with_reducible refine Ext.drew ?_ | with_reducible refine Ext.drewN ?_ _ | with_reducible refine Ext.alloc ?_ _ | with_reducible refine Ext.onto ?_ _ | (with_reducible refine Ext.setCells ?_ ?_ _ _; rotate_left; focus (first | omega | (simp; done) | (simp; omega))) | (with_reducible refine Ext.setCell ?_ ?_ _; rotate_left; focus (first | omega | (simp; done) | (simp; omega))))))).mono ?_; rintro e w' ⟨rfl, hxk⟩; rw [Hv.out]; obtain ⟨xk, rfl⟩ := hxk.asLater; clear hxk)
        | (go_at_call 14; refine (rinst34 _ _).mono ?_; rintro e w' ⟨rfl, hxk⟩; rw [Hi1.out]; obtain ⟨xk, rfl⟩ := hxk.asLater; clear hxk)
        | (go_at_call 33; refine (HQ1.out _ (by (repeat (first | with_reducible exact Ext.refl _ | with_reducible exact Ext.refl _ | with_reducible refine Ext.drew ?_ | with_reducible refine Ext.drewN ?_ _ | with_reducible refine Ext.alloc ?_ _ | with_reducible refine Ext.onto ?_ _ | (with_reducible refine Ext.setCells ?_ ?_ _ _; rotate_left; focus (first | omega | (simp; done) | (simp; omega))) | (with_reducible refine Ext.setCell ?_ ?_ _; rotate_left; focus (first | omega | (simp; done) | (simp; omega))))))).mono ?_; rintro e w' ⟨rfl, hxk⟩; rw [Hq.out]; obtain ⟨xk, rfl⟩ := hxk.asLater; clear hxk)
        | (go_at_call 34; refine (HQ2.out _ (by (repeat (first | with_reducible exact Ext.refl _ | with_reducible exact Ext.refl _ | with_reducible refine Ext.drew ?_ | with_reducible refine Ext.drewN ?_ _ | with_reducible refine Ext.alloc ?_ _ | with_reducible refine Ext.onto ?_ _ | (with_reducible refine Ext.setCells ?_ ?_ _ _; rotate_left; focus (first | omega | (simp; done) | (simp; omega))) | (with_reducible refine Ext.setCell ?_ ?_ _; rotate_left; focus (first | omega | (simp; done) | (simp; omega))))))).mono ?_; rintro e w' ⟨rfl, hxk⟩; rw [Hq.out]; obtain ⟨xk, rfl⟩ := hxk.asLater; clear hxk)
        | (go_at_call 11; refine (HS.out _ (by (repeat (first | with_reducible exact Ext.refl _ | with_reducible exact Ext.refl _ | with_reducible refine Ext.drew ?_ | with_reducible refine Ext.drewN ?_ _ | with_reducible refine Ext.alloc ?_ _ | with_reducible refine Ext.onto ?_ _ | (with_reducible refine Ext.setCells ?_ ?_ _ _; rotate_left; focus (first | omega | (simp; done) | (simp; omega))) | (with_reducible refine Ext.setCell ?_ ?_ _; rotate_left; focus (first | omega | (simp; done) | (simp; omega))))))).mono ?_; rintro e w' ⟨rfl, hxk⟩; obtain ⟨xk, rfl⟩ := hxk.asLater; clear hxk))
      go_ret
      exact ⟨rfl, (by (repeat (first | with_reducible exact Ext.refl _ | with_reducible exact Ext.refl _ | with_reducible refine Ext.drew ?_ | with_reducible refine Ext.drewN ?_ _ | with_reducible refine Ext.alloc ?_ _ | with_reducible refine Ext.onto ?_ _ | (with_reducible refine Ext.setCells ?_ ?_ _ _; rotate_left; focus (first | omega | (simp; done) | (simp; omega))) | (with_reducible refine Ext.setCell ?_ ?_ _; rotate_left; focus (first | omega | (simp; done) | (simp; omega))))))⟩
    have d20 : decide ((20 : Int) < (lf.length : Int)) = false := by simp; omega
    have hlf9 : lf.length ≤ 100000 := by omega
    have HQ1 := Lib.hid (fun (W : World) (hx : Ext w W) => ofaulty_any A2 c2 lf W hlf9 (hrf.on hx))
    have HQ2 := Lib.hid (fun (W : World) (hx : Ext w W) => rfaulty_any A2 c2 lf W hlf9 (hrf.on hx))
    cases hv : validV l with
    | false =>
      have Hv := Lib.hid hv
      clear hl hz hr hk hrk hf hrf hsm htz hv HQ1 HQ2
      go_enter Tryz.func7, Tryz.ntmps7
      go_wp2_with (first
        | (go_at_call 10; refine (HF.out _ (by (repeat (first | with_reducible exact Ext.refl _ | with_reducible exact Ext.refl _ | with_reducible refine Ext.drew ?_ | with_reducible refine Ext.drewN ?_ _ | with_reducible refine Ext.alloc ?_ _ | with_reducible refine Ext.onto ?_ _ | (with_reducible refine Ext.setCells ?_ ?_ _ _; rotate_left; focus (first | omega | (simp; done) | (simp; omega))) | (with_reducible refine Ext.setCell ?_ ?_ _; rotate_left; focus (first | omega | (simp; done) | (simp; omega))))))).mono ?_; rintro e w' ⟨rfl, hxk⟩; rw [Hf.out]; obtain ⟨xk, rfl⟩ := hxk.asLater; clear hxk)
        | (go_at_call 13; refine (HV2.out _ (by (repeat (first | with_reducible exact Ext.refl _ | with_reducible exact Ext.refl _ | with_reducible refine Ext.drew ?_ | with_reducible refine Ext.drewN ?_ _ | with_reducible refine Ext.alloc ?_ _ | with_reducible refine Ext.onto ?_ _ | (with_reducible refine Ext.setCells ?_ ?_ _ _; rotate_left; focus (first | omega | (simp; done) | (simp; omega))) | (with_reducible refine Ext.setCell ?_ ?_ _; rotate_left; focus (first | omega | (simp; done) | (simp; omega))))))).mono ?_; rintro e w' ⟨rfl, hxk⟩; rw [Hv.out]; obtain ⟨xk, rfl⟩ := hxk.asLater; clear hxk)
        | (go_at_call 14; refine (rinst34 _ _).mono ?_; rintro e w' ⟨rfl, hxk⟩; rw [Hi1.out]; obtain ⟨xk, rfl⟩ := hxk.asLater; clear hxk)
        | (go_at_call 33; refine (HQ1.out _ (by (repeat (first | with_reducible exact Ext.refl _ | with_reducible exact Ext.refl _ | with_reducible refine Ext.drew ?_ | with_reducible refine Ext.drewN ?_ _ | with_reducible refine Ext.alloc ?_ _ | with_reducible refine Ext.onto ?_ _ | (with_reducible refine Ext.setCells ?_ ?_ _ _; rotate_left; focus (first | omega | (simp; done) | (simp; omega))) | (with_reducible refine Ext.setCell ?_ ?_ _; rotate_left; focus (first | omega | (simp; done) | (simp; omega))))))).mono ?_; rintro e w' ⟨rfl, hxk⟩; rw [Hq.out]; obtain ⟨xk, rfl⟩ := hxk.asLater; clear hxk)
        | (go_at_call 34; refine (HQ2.out _ (by (repeat (first | with_reducible exact Ext.refl _ | with_reducible exact Ext.refl _ | with_reducible refine Ext.drew ?_ | with_reducible refine Ext.drewN ?_ _ | with_reducible refine Ext.alloc ?_ _ | with_reducible refine Ext.onto ?_ _ | (with_reducible refine Ext.setCells ?_ ?_ _ _; rotate_left; focus (first | omega | (simp; done) | (simp; omega))) | (with_reducible refine Ext.setCell ?_ ?_ _; rotate_left; focus (first | omega | (simp; done) | (simp; omega))))))).mono ?_; rintro e w' ⟨rfl, hxk⟩; rw [Hq.out]; obtain ⟨xk, rfl⟩ := hxk.asLater; clear hxk)
        | (go_at_call 11; refine (HS.out _ (by (repeat (first | with_reducible exact Ext.refl _ | with_reducible exact Ext.refl _ | with_reducible refine Ext.drew ?_ | with_reducible refine Ext.drewN ?_ _ | with_reducible refine Ext.alloc ?_ _ | with_reducible refine Ext.onto ?_ _ | (with_reducible refine Ext.setCells ?_ ?_ _ _; rotate_left; focus (first | omega | (simp; done) | (simp; omega))) | (with_reducible refine Ext.setCell ?_ ?_ _; rotate_left; focus (first | omega | (simp; done) | (simp; omega))))))).mono ?_; rintro e w' ⟨rfl, hxk⟩; obtain ⟨xk, rfl⟩ := hxk.asLater; clear hxk))
      go_ret
      exact ⟨rfl, (by (repeat (first | with_reducible exact Ext.refl _ | with_reducible exact Ext.refl _ | with_reducible refine Ext.drew ?_ | with_reducible refine Ext.drewN ?_ _ | with_reducible refine Ext.alloc ?_ _ | with_reducible refine Ext.onto ?_ _ | (with_reducible refine Ext.setCells ?_ ?_ _ _; rotate_left; focus (first | omega | (simp; done) | (simp; omega))) | (with_reducible refine Ext.setCell ?_ ?_ _; rotate_left; focus (first | omega | (simp; done) | (simp; omega))))))⟩
    | true =>
      have Hv := Lib.hid hv
      cases hq : faultyB lf with
      | false =>
        have Hq := Lib.hid hq
        clear hl hz hr hk hrk hf hrf hsm htz hv hq
        go_enter Tryz.func7, Tryz.ntmps7
        go_wp2_with (first
          | (go_at_call 10; refine (HF.out _ (by (repeat (first | with_reducible exact Ext.refl _ | with_reducible exact Ext.refl _ | with_reducible refine Ext.drew ?_ | with_reducible refine Ext.drewN ?_ _ | with_reducible refine Ext.alloc ?_ _ | with_reducible refine Ext.onto ?_ _ | (with_reducible refine Ext.setCells ?_ ?_ _ _; rotate_left; focus (first | omega | (simp; done) | (simp; omega))) | (with_reducible refine Ext.setCell ?_ ?_ _; rotate_left; focus (first | omega | (simp; done) | (simp; omega))))))).mono ?_; rintro e w' ⟨rfl, hxk⟩; rw [Hf.out]; obtain ⟨xk, rfl⟩ := hxk.asLater; clear hxk)
          | (go_at_call 13; refine (HV2.out _ (by (repeat (first | with_reducible exact Ext.refl _ | with_reducible exact Ext.refl _ | with_reducible refine Ext.drew ?_ | with_reducible refine Ext.drewN ?_ _ | with_reducible refine Ext.alloc ?_ _ | with_reducible refine Ext.onto ?_ _ | (with_reducible refine Ext.setCells ?_ ?_ _ _; rotate_left; focus (first | omega | (simp; done) | (simp; omega))) | (with_reducible refine Ext.setCell ?_ ?_ _; rotate_left; focus (first | omega | (simp; done) | (simp; omega))))))).mono ?_; rintro e w' ⟨rfl, hxk⟩; rw [Hv.out]; obtain ⟨xk, rfl⟩ := hxk.asLater; clear hxk)
          | (go_at_call 14; refine (rinst34 _ _).mono ?_; rintro e w' ⟨rfl, hxk⟩; rw [Hi1.out]; obtain ⟨xk, rfl⟩ := hxk.asLater; clear hxk)
          | (go_at_call 33; refine (HQ1.out _ (by (repeat (first | with_reducible exact Ext.refl _ | with_reducible exact Ext.refl _ | with_reducible refine Ext.drew ?_ | with_reducible refine Ext.drewN ?_ _ | with_reducible refine Ext.alloc ?_ _ | with_reducible refine Ext.onto ?_ _ | (with_reducible refine Ext.setCells ?_ ?_ _ _; rotate_left; focus (first | omega | (simp; done) | (simp; omega))) | (with_reducible refine Ext.setCell ?_ ?_ _; rotate_left; focus (first | omega | (simp; done) | (simp; omega))))))).mono ?_; rintro e w' ⟨rfl, hxk⟩; rw [Hq.out]; obtain ⟨xk, rfl⟩ := hxk.asLater; clear hxk)
          | (go_at_call 34; refine (HQ2.out _ (by (repeat (first | with_reducible exact Ext.refl _ | with_reducible exact Ext.refl _ | with_reducible refine Ext.drew ?_ | with_reducible refine Ext.drewN ?_ _ | with_reducible refine Ext.alloc ?_ _ | with_reducible refine Ext.onto ?_ _ | (with_reducible refine Ext.setCells ?_ ?_ _ _; rotate_left; focus (first | omega | (simp; done) | (simp; omega))) | (with_reducible refine Ext.setCell ?_ ?_ _; rotate_left; focus (first | omega | (simp; done) | (simp; omega))))))).mono ?_; rintro e w' ⟨rfl, hxk⟩; rw [Hq.out]; obtain ⟨xk, rfl⟩ := hxk.asLater; clear hxk)
          | (go_at_call 11; refine (HS.out _ (by (repeat (first | with_reducible exact Ext.refl _ | with_reducible exact Ext.refl _ | with_reducible refine Ext.drew ?_ | with_reducible refine Ext.drewN ?_ _ | with_reducible refine Ext.alloc ?_ _ | with_reducible refine Ext.onto ?_ _ | (with_reducible refine Ext.setCells ?_ ?_ _ _; rotate_left; focus (first | omega | (simp; done) | (simp; omega))) | (with_reducible refine Ext.setCell ?_ ?_ _; rotate_left; focus (first | omega | (simp; done) | (simp; omega))))))).mono ?_; rintro e w' ⟨rfl, hxk⟩; obtain ⟨xk, rfl⟩ := hxk.asLater; clear hxk))
        go_ret
        exact ⟨rfl, (by (repeat (first | with_reducible exact Ext.refl _ | with_reducible exact Ext.refl _ | with_reducible refine Ext.drew ?_ | with_reducible refine Ext.drewN ?_ _ | with_reducible refine Ext.alloc ?_ _ | with_reducible refine Ext.onto ?_ _ | (with_reducible refine Ext.setCells ?_ ?_ _ _; rotate_left; focus (first | omega | (simp; done) | (simp; omega))) | (with_reducible refine Ext.setCell ?_ ?_ _; rotate_left; focus (first | omega | (simp; done) | (simp; omega))))))⟩
      | true =>
        have Hq := Lib.hid hq
        cases hi1 : instB t with
        | false =>
          have Hi1 := Lib.hid hi1
          clear hl hz hr hk hrk hf hrf hsm htz hv hq hi1
          go_enter Tryz.func7, Tryz.ntmps7
          go_wp2_with (first
            | (go_at_call 10; refine (HF.out _ (by (repeat (first | with_reducible exact Ext.refl _ | with_reducible exact Ext.refl _ | with_reducible refine Ext.drew ?_ | with_reducible refine Ext.drewN ?_ _ | with_reducible refine Ext.alloc ?_ _ | with_reducible refine Ext.onto ?_ _ | (with_reducible refine Ext.setCells ?_ ?_ _ _; rotate_left; focus (first | omega | (simp; done) | (simp; omega))) | (with_reducible refine Ext.setCell ?_ ?_ _; rotate_left; focus (first | omega | (simp; done) | (simp; omega))))))).mono ?_; rintro e w' ⟨rfl, hxk⟩; rw [Hf.out]; obtain ⟨xk, rfl⟩ := hxk.asLater; clear hxk)
            | (go_at_call 13; refine (HV2.out _ (by (repeat (first | with_reducible exact Ext.refl _ | with_reducible exact Ext.refl _ | with_reducible refine Ext.drew ?_ | with_reducible refine Ext.drewN ?_ _ | with_reducible refine Ext.alloc ?_ _ | with_reducible refine Ext.onto ?_ _ | (with_reducible refine Ext.setCells ?_ ?_ _ _; rotate_left; focus (first | omega | (simp; done) | (simp; omega))) | (with_reducible refine Ext.setCell ?_ ?_ _; rotate_left; focus (first | omega | (simp; done) | (simp; omega))))))).mono ?_; rintro e w' ⟨rfl, hxk⟩; rw [Hv.out]; obtain ⟨xk, rfl⟩ := hxk.asLater; clear hxk)
            | (go_at_call 14; refine (rinst34 _ _).mono ?_; rintro e w' ⟨rfl, hxk⟩; rw [Hi1.out]; obtain ⟨xk, rfl⟩ := hxk.asLater; clear hxk)
            | (go_at_call 33; refine (HQ1.out _ (by (repeat (first | with_reducible exact Ext.refl _ | with_reducible exact Ext.refl _ | with_reducible refine Ext.drew ?_ | with_reducible refine Ext.drewN ?_ _ | with_reducible refine Ext.alloc ?_ _ | with_reducible refine Ext.onto ?_ _ | (with_reducible refine Ext.setCells ?_ ?_ _ _; rotate_left; focus (first | omega | (simp; done) | (simp; omega))) | (with_reducible refine Ext.setCell ?_ ?_ _; rotate_left; focus (first | omega | (simp; done) | (simp; omega))))))).mono ?_; rintro e w' ⟨rfl, hxk⟩; rw [Hq.out]; obtain ⟨xk, rfl⟩ := hxk.asLater; clear hxk)
            | (go_at_call 34; refine (HQ2.out _ (by (repeat (first | with_reducible exact Ext.refl _ | with_reducible exact Ext.refl _ | with_reducible refine Ext.drew ?_ | with_reducible refine Ext.drewN ?_ _ | with_reducible refine Ext.alloc ?_ _ | with_reducible refine Ext.onto ?_ _ | (with_reducible refine Ext.setCells ?_ ?_ _ _; rotate_left; focus (first | omega | (simp; done) | (simp; omega))) | (with_reducible refine Ext.setCell ?_ ?_ _; rotate_left; focus (first | omega | (simp; done) | (simp; omega))))))).mono ?_; rintro e w' ⟨rfl, hxk⟩; rw [Hq.out]; obtain ⟨xk, rfl⟩ := hxk.asLater; clear hxk)
            | (go_at_call 11; refine (HS.out _ (by (repeat (first | with_reducible exact Ext.refl _ | with_reducible exact Ext.refl _ | with_reducible refine Ext.drew ?_ | with_reducible refine Ext.drewN ?_ _ | with_reducible refine Ext.alloc ?_ _ | with_reducible refine Ext.onto ?_ _ | (with_reducible refine Ext.setCells ?_ ?_ _ _; rotate_left; focus (first | omega | (simp; done) | (simp; omega))) | (with_reducible refine Ext.setCell ?_ ?_ _; rotate_left; focus (first | omega | (simp; done) | (simp; omega))))))).mono ?_; rintro e w' ⟨rfl, hxk⟩; obtain ⟨xk, rfl⟩ := hxk.asLater; clear hxk))
          go_ret
          exact ⟨rfl, (by (repeat (first | with_reducible exact Ext.refl _ | with_reducible exact Ext.refl _ | with_reducible refine Ext.drew ?_ | with_reducible refine Ext.drewN ?_ _ | with_reducible refine Ext.alloc ?_ _ | with_reducible refine Ext.onto ?_ _ | (with_reducible refine Ext.setCells ?_ ?_ _ _; rotate_left; focus (first | omega | (simp; done) | (simp; omega))) | (with_reducible refine Ext.setCell ?_ ?_ _; rotate_left; focus (first | omega | (simp; done) | (simp; omega))))))⟩
        | true =>
          have Hi1 := Lib.hid hi1
          have hvv := (validV_iff l).1 hv
          have hin : ∀ t, VerIn (atN l t) := fun t => by
            rcases atN_or l t with h | ⟨k, hk', h⟩
            · rw [h]; exact Nat.zero_le _
            · rw [h]
              have := hsm _ (List.getElem_mem hk')
              show _ ≤ _
              omega
          obtain ⟨f1, f2, f3, f4⟩ := fault_in (t := t) hq
          obtain ⟨t1, t2⟩ := inst_is hi1
          have hsum : i64 (t + (faultN lf t).delay) := ⟨by omega, by omega⟩
          have HO := Lib.hid (fun (W : World) (hx : Ext w W) => oserve_any A A2 c c2 l lf t known W hl9 hlf9 (hr.on hx) (hrf.on hx) h16 hby hin hsum ⟨f1, f2⟩ (RowAt.ext hk hx))
          have HR := Lib.hid (fun (W : World) (hx : Ext w W) => rserve_any A A2 c c2 l lf t known W hl9 hlf9 (hr.on hx) (hrf.on hx) h16 hby (fun u => lastAt_is hvv.1) hin hsum ⟨f1, f2⟩ (RowAt.ext hrk hx))
          have hSl : (servedN l known t (faultN lf t)).length ≤ 100000 := by
            have g : ∀ (o : List Giv) u, (giveN l known o u).length ≤ o.length + 1 := fun o u => by unfold giveN; split <;> simp
            unfold servedN
            have g1 := g [] (t + (faultN lf t).delay)
            have g2 := g [] t
            have g3 := g (giveN l known [] t) (t + (faultN lf t).delay)
            simp only [List.length_nil] at g1 g2
            split
            · simp
            · split
              · omega
              · split <;> omega
          generalize servedN l known t (faultN lf t) = S at *
          clear hl hz hr hk hrk hf hrf hsm htz hv hq hi1 hvv hin hsum f1 f2 f3 f4 h16 hby
          go_enter Tryz.func7, Tryz.ntmps7
          go_upto_region 7 with (first
            | (go_at_call 10; refine (HF.out _ (by (repeat (first | with_reducible exact Ext.refl _ | with_reducible exact Ext.refl _ | with_reducible refine Ext.drew ?_ | with_reducible refine Ext.drewN ?_ _ | with_reducible refine Ext.alloc ?_ _ | with_reducible refine Ext.onto ?_ _ | (with_reducible refine Ext.setCells ?_ ?_ _ _; rotate_left; focus (first | omega | (simp; done) | (simp; omega))) | (with_reducible refine Ext.setCell ?_ ?_ _; rotate_left; focus (first | omega | (simp; done) | (simp; omega))))))).mono ?_; rintro e w' ⟨rfl, hxk⟩; rw [Hf.out]; obtain ⟨xk, rfl⟩ := hxk.asLater; clear hxk)
            | (go_at_call 13; refine (HV2.out _ (by (repeat (first | with_reducible exact Ext.refl _ | with_reducible exact Ext.refl _ | with_reducible refine Ext.drew ?_ | with_reducible refine Ext.drewN ?_ _ | with_reducible refine Ext.alloc ?_ _ | with_reducible refine Ext.onto ?_ _ | (with_reducible refine Ext.setCells ?_ ?_ _ _; rotate_left; focus (first | omega | (simp; done) | (simp; omega))) | (with_reducible refine Ext.setCell ?_ ?_ _; rotate_left; focus (first | omega | (simp; done) | (simp; omega))))))).mono ?_; rintro e w' ⟨rfl, hxk⟩; rw [Hv.out]; obtain ⟨xk, rfl⟩ := hxk.asLater; clear hxk)
            | (go_at_call 14; refine (rinst34 _ _).mono ?_; rintro e w' ⟨rfl, hxk⟩; rw [Hi1.out]; obtain ⟨xk, rfl⟩ := hxk.asLater; clear hxk)
            | (go_at_call 33; refine (HQ1.out _ (by (repeat (first | with_reducible exact Ext.refl _ | with_reducible exact Ext.refl _ | with_reducible refine Ext.drew ?_ | with_reducible refine Ext.drewN ?_ _ | with_reducible refine Ext.alloc ?_ _ | with_reducible refine Ext.onto ?_ _ | (with_reducible refine Ext.setCells ?_ ?_ _ _; rotate_left; focus (first | omega | (simp; done) | (simp; omega))) | (with_reducible refine Ext.setCell ?_ ?_ _; rotate_left; focus (first | omega | (simp; done) | (simp; omega))))))).mono ?_; rintro e w' ⟨rfl, hxk⟩; rw [Hq.out]; obtain ⟨xk, rfl⟩ := hxk.asLater; clear hxk)
            | (go_at_call 34; refine (HQ2.out _ (by (repeat (first | with_reducible exact Ext.refl _ | with_reducible exact Ext.refl _ | with_reducible refine Ext.drew ?_ | with_reducible refine Ext.drewN ?_ _ | with_reducible refine Ext.alloc ?_ _ | with_reducible refine Ext.onto ?_ _ | (with_reducible refine Ext.setCells ?_ ?_ _ _; rotate_left; focus (first | omega | (simp; done) | (simp; omega))) | (with_reducible refine Ext.setCell ?_ ?_ _; rotate_left; focus (first | omega | (simp; done) | (simp; omega))))))).mono ?_; rintro e w' ⟨rfl, hxk⟩; rw [Hq.out]; obtain ⟨xk, rfl⟩ := hxk.asLater; clear hxk)
            | (go_at_call 11; refine (HS.out _ (by (repeat (first | with_reducible exact Ext.refl _ | with_reducible exact Ext.refl _ | with_reducible refine Ext.drew ?_ | with_reducible refine Ext.drewN ?_ _ | with_reducible refine Ext.alloc ?_ _ | with_reducible refine Ext.onto ?_ _ | (with_reducible refine Ext.setCells ?_ ?_ _ _; rotate_left; focus (first | omega | (simp; done) | (simp; omega))) | (with_reducible refine Ext.setCell ?_ ?_ _; rotate_left; focus (first | omega | (simp; done) | (simp; omega))))))).mono ?_; rintro e w' ⟨rfl, hxk⟩; obtain ⟨xk, rfl⟩ := hxk.asLater; clear hxk))
          refine wp_world (fun W => Ext w W ∧ RowAt W w.heap.size (dgC known)) ⟨(by (repeat (first | with_reducible exact Ext.refl _ | with_reducible exact Ext.refl _ | with_reducible refine Ext.drew ?_ | with_reducible refine Ext.drewN ?_ _ | with_reducible refine Ext.alloc ?_ _ | with_reducible refine Ext.onto ?_ _ | (with_reducible refine Ext.setCells ?_ ?_ _ _; rotate_left; focus (first | omega | (simp; done) | (simp; omega))) | (with_reducible refine Ext.setCell ?_ ?_ _; rotate_left; focus (first | omega | (simp; done) | (simp; omega)))))), (by (repeat (first | with_reducible exact RowAt.new _ _ _ | with_reducible refine RowAt.drew ?_ | with_reducible refine RowAt.later ?_ _ | with_reducible exact RowAt.newAt (by first | rfl | omega | (simp [later_size, setCells_size]; done) | (simp [later_size, setCells_size]; omega)) | with_reducible refine RowAt.alloc ?_ _ | with_reducible apply RowAt.store | with_reducible refine RowAt.others ?_ ?_ _ _ | with_reducible refine RowAt.other ?_ ?_ _)); all_goals first | omega | (simp; done) | (simp; omega) | (simp [go_sem]; done))⟩ ?_
          rintro W1 ⟨x1, r1⟩
          have HX1 := Lib.hid x1
          have HR1 := Lib.hid r1
          have hk1 : rowOf W1 w.heap.size 0 16 = some (dgC known) := r1.all rfl (by omega)
          have hlr := r1.lt
          clear x1 r1 HF HV2 HQ1 HQ2
          go_upto_region 8 with (go_at_call 35; refine (HO.out _ HX1.out).mono ?_; rintro e w2 ⟨A5, c5, rfl, hr5, hx5⟩; have HR5 := Lib.hid hr5; have HX5 := Lib.hid hx5; have hk2 : rowOf w2 w.heap.size 0 16 = some (dgC known) := (HR1.out.ext hx5).all rfl (by omega); have hs5 := hx5.size; clear hr5 hx5)
          go_upto_region 9 with (go_at_call 36; refine (HR.out _ (HX1.out.trans HX5.out)).mono ?_; rintro e w3 ⟨A6, c6, rfl, hr6, hx6⟩; have HR6 := Lib.hid hr6; have HX6 := Lib.hid hx6; have hs6 := hx6.size; clear hr6 hx6)
          have HX36 : Hid (Ext w w3) := Lib.hid ((HX1.out.trans HX5.out).trans HX6.out)
          have hszw := HX36.out.size
          refine wp_world (fun W => Ext w W ∧ RowAt W w3.heap.size #[.slice A6 S.length c6, .int .i64 (servE S)] ∧ ReadsGiv W W.heap.size A5 S ∧ ReadsGiv W W.heap.size A6 S) ⟨?_, ?_, ?_, ?_⟩ ?_
          · exact HX36.out.alloc _
          · exact RowAt.new _ _ _
          · exact HR5.out.on (HX6.out.alloc _)
          · exact HR6.out.on ((Ext.refl w3).alloc _)
          rintro W4 ⟨x4, r4, g5, g6⟩
          have HX4 := Lib.hid x4
          have c0 : W4.cell? ⟨w3.heap.size, 0, none⟩ = some (.slice A6 S.length c6) := r4.cell 0
          have c1 : W4.cell? ⟨w3.heap.size, 1, none⟩ = some (.int .i64 (servE S)) := r4.cell 1
          have hl4 := r4.lt
          have HSm := Lib.hid (fun (W : World) (hx : Ext W4 W) => rsame_any A5 A6 c5 c6 S W hSl (g5.on hx) (g6.on hx))
          clear x4 r4 g5 g6 HR5 HR6 HX5 HX6 HX36 HR1 HX1 HO HR hk1 hk2
          go_wp2_with (first
            | (go_at_call 11; refine (HS.out _ (by (repeat (first | with_reducible exact HX4.out | with_reducible exact Ext.refl _ | with_reducible refine Ext.drew ?_ | with_reducible refine Ext.drewN ?_ _ | with_reducible refine Ext.alloc ?_ _ | with_reducible refine Ext.onto ?_ _ | (with_reducible refine Ext.setCells ?_ ?_ _ _; rotate_left; focus (first | omega | (simp; done) | (simp; omega))) | (with_reducible refine Ext.setCell ?_ ?_ _; rotate_left; focus (first | omega | (simp; done) | (simp; omega))))))).mono ?_; rintro e w' ⟨rfl, hxk⟩; obtain ⟨xk, rfl⟩ := hxk.asLater; clear hxk)
            | (go_at_call 37; refine (HSm.out _ (ext_later _ _)).mono ?_; rintro e w' ⟨rfl, hxk⟩; obtain ⟨xk, rfl⟩ := hxk.asLater; clear hxk))
          go_ret
          exact ⟨rfl, (by (repeat (first | with_reducible exact HX4.out | with_reducible exact Ext.refl _ | with_reducible refine Ext.drew ?_ | with_reducible refine Ext.drewN ?_ _ | with_reducible refine Ext.alloc ?_ _ | with_reducible refine Ext.onto ?_ _ | (with_reducible refine Ext.setCells ?_ ?_ _ _; rotate_left; focus (first | omega | (simp; done) | (simp; omega))) | (with_reducible refine Ext.setCell ?_ ?_ _; rotate_left; focus (first | omega | (simp; done) | (simp; omega))))))⟩
end Go.Proofs.YtpjacgcaibaggaaGreatDoor


set_option linter.unusedVariables false
set_option linter.unusedSimpArgs false
namespace Go.Proofs.YtpjacgcaibaggaaGreatDoor
open Go.RowKit Go.Shelf
open Go.Proofs

theorem given_in {l : List Ver} {known : List Int} {out : List Giv} {u : Int} {g : Giv} (h : g ∈ giveN l known out u) : g ∈ out ∨ (u ≤ 1099511627776 ∧ g = (u, ansOf (atN l u) known)) := by
  unfold giveN at h
  split at h
  · rw [List.mem_append, List.mem_singleton] at h
    rcases h with h | h
    · exact .inl h
    · exact .inr ⟨by assumption, h⟩
  · exact .inl h
theorem served_in {l : List Ver} {known : List Int} {t : Int} {x : Fau} {g : Giv} (h : g ∈ servedN l known t x) (hd : 0 ≤ x.delay) : ∃ u, t ≤ u ∧ u ≤ 1099511627776 ∧ g = (u, ansOf (atN l u) known) := by
  unfold servedN at h
  split at h
  · cases h
  · split at h
    · rcases given_in h with h | ⟨h1, h2⟩
      · cases h
      · exact ⟨_, by omega, h1, h2⟩
    · split at h
      · rcases given_in h with h | ⟨h1, h2⟩
        · rcases given_in h with h | ⟨h1, h2⟩
          · cases h
          · exact ⟨_, by omega, h1, h2⟩
        · exact ⟨_, by omega, h1, h2⟩
      · rcases given_in h with h | ⟨h1, h2⟩
        · cases h
        · exact ⟨_, by omega, h1, h2⟩
theorem ans_body (v : Ver) (known : List Int) : (ansOf v known).body = dgN v.bytes := by unfold ansOf; split <;> rfl
theorem ans_size (v : Ver) (known : List Int) : (ansOf v known).size = v.bytes.size := by unfold ansOf; split <;> rfl
theorem ans_status (v : Ver) (known : List Int) : (ansOf v known).status = v.status := by unfold ansOf; split <;> rfl
theorem ans_tags (v : Ver) (known : List Int) : (ansOf v known).tags = v.tags := by unfold ansOf; split <;> rfl
theorem ans_same (v : Ver) (known : List Int) : (ansOf v known).same = decide (dgN v.bytes = known) := by unfold ansOf; split <;> simp [*]
theorem ans_bytes (v : Ver) (known : List Int) (h : (ansOf v known).same = false) : (ansOf v known).bytes = v.bytes := by
  rw [ans_same] at h
  have h' : ¬ dgN v.bytes = known := by simpa using h
  unfold ansOf; rw [if_neg h']
def acA : ByteArray := ⟨#[97, 99, 109, 101, 47, 97]⟩
def acV : ByteArray := ⟨#[118]⟩
noncomputable def stOf (k : Ky) (a : An) (lo hi : Int) : St := sealedSt k (fromAn acA acV a lo hi)
theorem stOf_says (k : Ky) (v : Ver) (known : List Int) (lo hi : Int) : saysB (stOf k (ansOf v known) lo hi) v = true := by
  show saysB ⟨acA, acV, (ansOf v known).status, (ansOf v known).size, (ansOf v known).body, (ansOf v known).tags, lo, hi, _, _, _⟩ v = true
  simp [saysB, ans_body, ans_size, ans_status, ans_tags]
theorem stOf_true {l : List Ver} (h : ValidV listedB l) (k : Ky) (known : List Int) {lo hi u : Int} (h1 : lo ≤ u) (h2 : u ≤ hi) : trueB l (stOf k (ansOf (atN l u) known) lo hi) = true := by
  refine true_wide (s := stOf k (ansOf (atN l u) known) u u) h h1 (Int.le_refl _) h2 (fun v => rfl) ?_
  unfold trueB
  rw [show (stOf k (ansOf (atN l u) known) u u).lo = u from rfl, stOf_says, Bool.true_or]
theorem lens_at (k : Ky) (a : An) (lo hi : Int) (hs : k.secret.size ≤ 64) (ht : a.tags.size ≤ 100) (hb : a.body.length = 16) :
    lens ([k.secret] ++ stParts (named k (fromAn acA acV a lo hi)) ++ [k.secret]) < 8796093022208 := by
  have h1 := encInts_len (stInts (named k (fromAn acA acV a lo hi)))
  have h2 : (stInts (named k (fromAn acA acV a lo hi))).length = 6 := rfl
  have h3 := strOfNums_size (encInts (stInts (named k (fromAn acA acV a lo hi))))
  have h4 := strOfNums_size a.body
  have h5 : acA.size = 6 := rfl
  have h6 : acV.size = 1 := rfl
  rw [lens_append, lens_append]
  have e1 : lens [k.secret] = k.secret.size + 10 := by simp [lens]
  have e2 : lens (stParts (named k (fromAn acA acV a lo hi))) = (acA.size + 10) + ((acV.size + 10) + (((strOfNums (encInts (stInts (named k (fromAn acA acV a lo hi))))).size + 10) + (((strOfNums a.body).size + 10) + ((a.tags.size + 10) + 0)))) := rfl
  rw [e1, e2]
  omega
theorem okKy_is {k : Ky} (h : okKy k = true) : 1 ≤ k.party ∧ 1 ≤ k.serial ∧ k.party ≤ 1073741824 ∧ k.serial ≤ 1073741824 ∧ 1 ≤ k.secret.size ∧ k.secret.size ≤ 64 ∧ 0 ≤ k.fr ∧ k.fr < k.upto ∧ k.upto ≤ 1099511627776 := by
  simp only [okKy, Bool.and_eq_true, decide_eq_true_eq] at h
  omega
theorem okClk_at {lo hi : Int} (h1 : 0 ≤ lo) (h2 : lo ≤ hi) (h3 : hi ≤ 1099511627776) : okClk ⟨lo, hi⟩ = true := by
  simp only [okClk, Bool.and_eq_true, decide_eq_true_eq]
  exact ⟨⟨h1, h2⟩, h3⟩
theorem listed_none : listedB ByteArray.empty = true := Tg.tags_nil
structure AnsIn (a : An) : Prop where
  len : a.body.length = 16
  byt : Byt a.body
  tags : a.tags.size ≤ 100
  list : listedB a.tags = true
  st : 100 ≤ a.status ∧ a.status ≤ 599
  size : 0 ≤ a.size ∧ a.size ≤ 100
  bytes : a.bytes.size ≤ 100
  fresh : a.same = false → a.size = a.bytes.size ∧ a.body = dgN a.bytes
theorem ansIn {l : List Ver} (h : ValidV listedB l) (hs : ∀ v ∈ l, v.bytes.size ≤ 100 ∧ v.tags.size ≤ 100) (u : Int) (known : List Int) : AnsIn (ansOf (atN l u) known) := by
  have hv : (atN l u).bytes.size ≤ 100 ∧ (atN l u).tags.size ≤ 100 ∧ listedB (atN l u).tags = true ∧ 100 ≤ (atN l u).status ∧ (atN l u).status ≤ 599 := by
    rcases atN_or l u with e | ⟨k, hk, e⟩
    · rw [e]; exact ⟨by decide, by decide, listed_none, by decide, by decide⟩
    · rw [e]
      have h1 := hs _ (List.getElem_mem hk)
      have h2 := h.1 k hk hk
      exact ⟨h1.1, h1.2, h2.2.2, h2.2.1.2.1, h2.2.1.2.2.1⟩
  generalize atN l u = v at *
  obtain ⟨h1, h2, h3, h4⟩ := hv
  refine ⟨by rw [ans_body]; exact dgN_len _, by rw [ans_body]; exact dgN_byt _, by rw [ans_tags]; exact h2, by rw [ans_tags]; exact h3, by rw [ans_status]; exact h4, by rw [ans_size]; omega, ?_, fun hf => ?_⟩
  · unfold ansOf; split
    · exact Nat.zero_le _
    · exact h1
  · rw [ans_bytes v known hf, ans_size, ans_body]; exact ⟨rfl, rfl⟩
theorem ints_at (k : Ky) (a : An) (lo hi : Int) (hk : okKy k = true) (ha : AnsIn a) (h1 : 0 ≤ lo) (h2 : lo ≤ hi) (h3 : hi ≤ 1099511627776) : ∀ x ∈ stInts (named k (fromAn acA acV a lo hi)), i64 x := by
  obtain ⟨k1, k2, k3, k4, _⟩ := okKy_is hk
  have := ha.st
  have := ha.size
  intro x hx
  have e : stInts (named k (fromAn acA acV a lo hi)) = [a.status, a.size, lo, hi, k.party, k.serial] := rfl
  rw [e] at hx
  simp only [List.mem_cons, List.not_mem_nil, or_false] at hx
  unfold i64
  rcases hx with rfl | rfl | rfl | rfl | rfl | rfl <;> constructor <;> omega
theorem stampIn_at (k : Ky) (a : An) (n v : Clk) (hl : listedB a.tags = true) (h : n.lo ≤ v.hi) : stampIn k acA acV a n v acA 0 = (stOf k a n.lo v.hi, 0) := by
  unfold stampIn
  rw [if_pos rfl, if_pos rfl, if_pos hl, if_neg (by omega)]
  rfl
/-- What origin.Stamp says. -/
theorem stamp_says (k : Ky) (a : An) (n v : Clk) (w : World) (hk : okKy k = true) (ha : AnsIn a) (hn : 0 ≤ n.lo ∧ n.lo ≤ n.hi ∧ n.hi ≤ 1099511627776) (hv : 0 ≤ v.lo ∧ v.lo ≤ v.hi ∧ v.hi ≤ 1099511627776) (hnv : n.lo ≤ v.hi) (hkk : Konst 0 w) :
    Calls Tryz.prog 39 #[.agg (kyC k), .string acA, .string acV, .agg (anC a), .agg #[.int .i64 n.lo, .int .i64 n.hi], .agg #[.int .i64 v.lo, .int .i64 v.hi]] w fun e w' => ∃ (x : St) (i : Int), e = .returned (.tuple #[.agg (stmC x), .int .i64 i]) ∧ (a.same = false → x = stOf k a n.lo v.hi ∧ i = 0) ∧ Ext w w' := by
  obtain ⟨_, _, _, _, _, q6, _⟩ := okKy_is hk
  have hab := ha.bytes
  have hat := ha.tags
  refine (ostamp_any k acA acV a n v acA 0 w ha.len ha.byt (by omega) (by omega) (fun _ => ⟨ints_at k a n.lo v.hi hk ha hn.1 hnv hv.2.2, lens_at k a _ _ q6 ha.tags ha.len, by omega⟩) hkk (fun W _ => canon_acme W)).mono ?_
  rintro e w' ⟨rfl, hx⟩
  refine ⟨_, _, rfl, fun hs => ?_, hx⟩
  have hg : goodS k a n v = true := by
    obtain ⟨f1, f2⟩ := ha.fresh hs
    have c1 : okClk n = true := okClk_at hn.1 hn.2.1 hn.2.2
    have c2 : okClk v = true := okClk_at hv.1 hv.2.1 hv.2.2
    unfold goodS
    rw [hk, c1, c2, hs, ← f2, f1]
    simp
  unfold stampOut
  rw [if_pos hg, stampIn_at k a n v ha.list hnv]
  exact ⟨rfl, rfl⟩
def oldOf (a : An) (known : List Int) : St := ⟨acA, acV, 0, a.size, known, ByteArray.empty, 0, 0, 0, 0, zeros32 16⟩
theorem renew_says (k : Ky) (a : An) (n v : Clk) (known : List Int) (w : World) (hk : okKy k = true) (ha : AnsIn a) (hn : 0 ≤ n.lo ∧ n.lo ≤ n.hi ∧ n.hi ≤ 1099511627776) (hv : 0 ≤ v.lo ∧ v.lo ≤ v.hi ∧ v.hi ≤ 1099511627776) (hnv : n.lo ≤ v.hi) (hs : a.same = true) (hb : a.body = known) (hkk : Konst 0 w) :
    Calls Tryz.prog 40 #[.agg (kyC k), .agg (stmC (oldOf a known)), .agg (anC a), .agg #[.int .i64 n.lo, .int .i64 n.hi], .agg #[.int .i64 v.lo, .int .i64 v.hi]] w fun e w' => e = .returned (.tuple #[.agg (stmC (stOf k a n.lo v.hi)), .int .i64 0]) ∧ Ext w w' := by
  obtain ⟨_, _, _, _, _, q6, _⟩ := okKy_is hk
  have hat := ha.tags
  have h := orenew_any k (oldOf a known) a n v acA 0 w ha.len ha.byt (by show known.length = 16; rw [← hb]; exact ha.len) (by show Byt known; rw [← hb]; exact ha.byt) (by omega) (fun _ _ _ => ⟨ints_at k a n.lo v.hi hk ha hn.1 hnv hv.2.2, lens_at k a _ _ q6 ha.tags ha.len, by omega⟩) hkk (fun W _ => canon_acme W)
  have hg : goodR k a n v = true := by
    have c1 : okClk n = true := okClk_at hn.1 hn.2.1 hn.2.2
    have c2 : okClk v = true := okClk_at hv.1 hv.2.1 hv.2.2
    unfold goodR
    rw [hk, c1, c2, hs]
    rfl
  have e : renewOut k (oldOf a known) a n v acA 0 = (stOf k a n.lo v.hi, 0) := by
    unfold renewOut
    rw [if_pos hg]
    show (if a.body = known then if a.size = a.size then stampIn k acA acV a n v acA 0 else (noSt, 341) else (noSt, 341)) = _
    rw [if_pos hb, if_pos rfl]
    exact stampIn_at k a n v ha.list hnv
  rw [e] at h
  exact h
theorem check_says (k : Ky) (a : An) (lo hi : Int) (b c : Nat) (w : World) (hk : okKy k = true) (ha : AnsIn a) (h1 : 0 ≤ lo) (h2 : lo ≤ hi) (h3 : hi ≤ 1099511627776) (hc : countB k lo hi = true) (hr : RowAt w b (kyC k)) (hkk : Konst 0 w) :
    Calls Tryz.prog 45 #[.slice (some ⟨b, 0, none⟩) 1 c, .agg (stmC (stOf k a lo hi))] w fun e w' => e = .returned (.int .i64 0) ∧ Ext w w' := by
  obtain ⟨q1, q2, q3, q4, _, q6, _⟩ := okKy_is hk
  have h := scheckStamp_any (some ⟨b, 0, none⟩) 1 c (stOf k a lo hi) k 0 w ha.len (makeN_len _ _ _) (makeN_byt _ _ _) (ints_at k a lo hi hk ha h1 h2 h3) (fun _ => lens_at k a lo hi q6 ha.tags ha.len) hkk (fun W hx => find_one b c k W (hr.ext hx) ⟨by omega, by omega⟩ ⟨by omega, by omega⟩)
  have e : checkOut k 0 41 (stParts (stOf k a lo hi)) (stOf k a lo hi).seal_ (stOf k a lo hi).lo (stOf k a lo hi).hi = 0 := by
    unfold checkOut
    rw [if_pos rfl]
    show (if countB k lo hi = true then if makeN k 41 (stParts (stOf k a lo hi)) = (stOf k a lo hi).seal_ then 0 else 8 else 9) = (0 : Int)
    rw [if_pos hc, if_pos (show makeN k 41 (stParts (stOf k a lo hi)) = (stOf k a lo hi).seal_ from rfl)]
  rw [e] at h
  exact h
theorem true_says {A : Option Addr} {c : Nat} {l : List Ver} {w : World} (k : Ky) (u lo hi : Int) (known : List Int) (hl : l.length ≤ 50000) (hcap : l.length ≤ c) (hc63 : c ≤ 9223372036854775807) (hz : A = none → c = 0) (hr : ReadsVer w w.heap.size A l) (hpa : ∀ a, A = some a → a.spot = none) (hsm : ∀ v ∈ l, v.bytes.size ≤ 100 ∧ v.tags.size ≤ 100) (hv : ValidV listedB l) (h1 : lo ≤ u) (h2 : u ≤ hi) (hk : Konst 0 w) :
    Calls Tryz.prog 22 #[.slice A l.length c, .agg (stmC (stOf k (ansOf (atN l u) known) lo hi))] w fun e w' => e = .returned (.bool true) ∧ Ext w w' := by
  have hle : (stOf k (ansOf (atN l u) known) lo hi).lo ≤ (stOf k (ansOf (atN l u) known) lo hi).hi := by show lo ≤ hi; omega
  have ha := ansIn hv hsm u known
  have h := otrue_any A c l (stOf k (ansOf (atN l u) known) lo hi) w hl hcap hc63 hz hr hpa (fun v hv => by have := hsm v hv; show _ ≤ _; omega) hle ha.len ha.byt hk
  rwa [mean_any hv hle, stOf_true hv k known h1 h2] at h
end Go.Proofs.YtpjacgcaibaggaaGreatDoor


set_option linter.unusedVariables false
set_option linter.unusedSimpArgs false
namespace Go.Proofs.YtpjacgcaibaggaaGreatDoor
open Go.RowKit Go.Shelf
open Go.Proofs

def stmB4 (x0 x1 x3 x4 : Value) : Sem Next := do pure (.value (← Instr.build 48 #[(0, x0), (1, x1), (3, x3), (4, x4)]))
theorem stmB4_x (ρ : Operand → Value) (dst : Option Tmp) (x0 x1 x3 x4 : Operand) (t : TypeId) (pos : String) (after : Array Edge) (guard : Option (Nat × Bool)) : execOp ρ { dst, op := .build 48 #[(0, x0), (1, x1), (3, x3), (4, x4)], type := t, pos, after, guard } = stmB4 (ρ x0) (ρ x1) (ρ x3) (ρ x4) := by kernel_rfl
theorem stmB4_run (addr var : ByteArray) (n : Int) (D : List Int) (W : World) : (stmB4 (.string addr) (.string var) (.int .i64 n) (.agg (dgC D))).run Tryz.prog W = .ok (.value (.agg (stmC ⟨addr, var, 0, n, D, ByteArray.empty, 0, 0, 0, 0, zeros32 16⟩))) W := by kernel_rfl
attribute [go_sem ↓] stmB4_x
attribute [go_sem] stmB4_run
theorem gv_all (g : Giv) : rowSub (gvC g) 0 22 = some (gvC g) := rowSub_all _ _ rfl
theorem gv_g0 (g : Giv) : (gvC g)[0]? = some (.int .i64 g.1) := rfl
theorem gv_g2 (g : Giv) : (gvC g)[2]? = some (.int .i64 g.2.size) := by kernel_rfl
theorem gv_g21 (g : Giv) : (gvC g)[21]? = some (.bool g.2.same) := by kernel_rfl
attribute [go_sem] gv_size gv_all gv_g0
theorem gv_an (g : Giv) : rowSub (gvC g) 1 21 = some (anC g.2) := by kernel_rfl
theorem servE_no {l : List Giv} (h : l = []) : servE l = 340 := if_pos h
theorem servE_ok {l : List Giv} (h : l ≠ []) : servE l = 0 := if_neg h
set_option maxRecDepth 100000 in
set_option maxHeartbeats 40000000 in
theorem stampsTrue_ok (A : Option Addr) (c : Nat) (l : List Ver) (A2 : Option Addr) (c2 : Nat) (lf : List Fau) (k : Ky) (t b af had : Int) (known : List Int) (w : World) (hl : l.length ≤ 9223372036854775807) (hz : ∀ v ∈ l, v.bytes.size ≤ 9223372036854775807 ∧ v.tags.size ≤ 9223372036854775807) (hcap : l.length ≤ c) (hc63 : c ≤ 9223372036854775807) (hz0 : A = none → c = 0) (hpa : ∀ a, A = some a → a.spot = none) (hr : ReadsVer w w.heap.size A l) (hlf : lf.length ≤ 9223372036854775807) (hrf : ReadsFau w w.heap.size A2 lf) (hks : k.secret.size < 9223372036854775808) (hb : 0 ≤ b ∧ b < 256) (ha : 0 ≤ af ∧ af < 256) (hh : 0 ≤ had ∧ had < 256) (h16 : known.length = 16) (hby : Byt known)
    (hk : Konst 0 w) :
    Calls Tryz.prog 9 #[.slice A l.length c, .slice A2 lf.length c2, .agg (kyC k), .int .i64 t, .int .u8 b, .int .u8 af, .int .u8 had, .agg (dgC known)] w fun e w' => e = .returned (.bool true) ∧ Ext w w' := by
  have HS := Lib.hid (fun (W : World) (hx : Ext w W) => sanity34 W (RowAt.ext hk hx))
  have HF := Lib.hid (fun (W : World) (hx : Ext w W) => few_any A c l 20 W hl hz (hr.on hx))
  have HKv := Lib.hid (fun (W : World) => rkvalid_any k W hks)
  have hft := ky_fits k
  have hfd : fitsRow 16 (dgC known) = true := by simp [fitsRow, dgC, Value.oneCell']
  obtain ⟨b1, b2⟩ := hb
  obtain ⟨a1, a2⟩ := ha
  obtain ⟨q1, q2⟩ := hh
  have HH := Lib.hid (And.intro hz (And.intro hr (And.intro hrf (And.intro hpa hk))))
  clear hz hr hrf hpa hk
  go_enter Tryz.func9, Tryz.ntmps9
  go_upto_region 1 with (fail)
  refine wp_world (fun W => Ext w W ∧ RowAt W w.heap.size (kyC k) ∧ RowAt W (w.heap.size + 1) (dgC known)) ⟨(by (repeat (first | with_reducible exact Ext.refl _ | with_reducible exact Ext.refl _ | with_reducible refine Ext.drew ?_ | with_reducible refine Ext.drewN ?_ _ | with_reducible refine Ext.alloc ?_ _ | with_reducible refine Ext.onto ?_ _ | (with_reducible refine Ext.setCells ?_ ?_ _ _; rotate_left; focus (first | omega | (simp; done) | (simp; omega))) | (with_reducible refine Ext.setCell ?_ ?_ _; rotate_left; focus (first | omega | (simp; done) | (simp; omega)))))), (RowAt.new _ _ _).alloc _, RowAt.newAt (by simp)⟩ ?_
  rintro W1 ⟨x1, r1, r2⟩
  have HX1 := Lib.hid x1
  have HR1 := Lib.hid r1
  have HR2 := Lib.hid r2
  have k1 : rowOf W1 w.heap.size 0 5 = some (kyC k) := r1.all rfl (by omega)
  have d1 : rowOf W1 (w.heap.size + 1) 0 16 = some (dgC known) := r2.all rfl (by omega)
  have hlr := r2.lt
  clear x1 r1 r2
  cases hf : fewB l 20 with
  | false =>
    have Hf := Lib.hid hf
    clear hf HH
    go_wp2_with (first
      | (go_at_call 10; refine (HF.out _ (by (repeat (first | with_reducible exact HX1.out | with_reducible exact Ext.refl _ | with_reducible refine Ext.drew ?_ | with_reducible refine Ext.drewN ?_ _ | with_reducible refine Ext.alloc ?_ _ | with_reducible refine Ext.onto ?_ _ | (with_reducible refine Ext.setCells ?_ ?_ _ _; rotate_left; focus (first | omega | (simp; done) | (simp; omega))) | (with_reducible refine Ext.setCell ?_ ?_ _; rotate_left; focus (first | omega | (simp; done) | (simp; omega))))))).mono ?_; rintro e w' ⟨rfl, hxk⟩; rw [Hf.out]; obtain ⟨xk, rfl⟩ := hxk.asLater; clear hxk)
      | (go_at_call 13; refine (HV2.out _ (by (repeat (first | with_reducible exact HX1.out | with_reducible exact Ext.refl _ | with_reducible refine Ext.drew ?_ | with_reducible refine Ext.drewN ?_ _ | with_reducible refine Ext.alloc ?_ _ | with_reducible refine Ext.onto ?_ _ | (with_reducible refine Ext.setCells ?_ ?_ _ _; rotate_left; focus (first | omega | (simp; done) | (simp; omega))) | (with_reducible refine Ext.setCell ?_ ?_ _; rotate_left; focus (first | omega | (simp; done) | (simp; omega))))))).mono ?_; rintro e w' ⟨rfl, hxk⟩; rw [Hv.out]; obtain ⟨xk, rfl⟩ := hxk.asLater; clear hxk)
      | (go_at_call 34; refine (HQ2.out _ (by (repeat (first | with_reducible exact HX1.out | with_reducible exact Ext.refl _ | with_reducible refine Ext.drew ?_ | with_reducible refine Ext.drewN ?_ _ | with_reducible refine Ext.alloc ?_ _ | with_reducible refine Ext.onto ?_ _ | (with_reducible refine Ext.setCells ?_ ?_ _ _; rotate_left; focus (first | omega | (simp; done) | (simp; omega))) | (with_reducible refine Ext.setCell ?_ ?_ _; rotate_left; focus (first | omega | (simp; done) | (simp; omega))))))).mono ?_; rintro e w' ⟨rfl, hxk⟩; rw [Hq.out]; obtain ⟨xk, rfl⟩ := hxk.asLater; clear hxk)
      | (go_at_call 43; refine (HKv.out _).mono ?_; rintro e w' ⟨rfl, hxk⟩; rw [Hkv.out]; obtain ⟨xk, rfl⟩ := hxk.asLater; clear hxk)
      | (go_at_call 14; refine (rinst34 _ _).mono ?_; rintro e w' ⟨rfl, hxk⟩; rw [Hi1.out]; obtain ⟨xk, rfl⟩ := hxk.asLater; clear hxk)
      | (go_at_call 11; refine (HS.out _ (by (repeat (first | with_reducible exact HX1.out | with_reducible exact Ext.refl _ | with_reducible refine Ext.drew ?_ | with_reducible refine Ext.drewN ?_ _ | with_reducible refine Ext.alloc ?_ _ | with_reducible refine Ext.onto ?_ _ | (with_reducible refine Ext.setCells ?_ ?_ _ _; rotate_left; focus (first | omega | (simp; done) | (simp; omega))) | (with_reducible refine Ext.setCell ?_ ?_ _; rotate_left; focus (first | omega | (simp; done) | (simp; omega))))))).mono ?_; rintro e w' ⟨rfl, hxk⟩; obtain ⟨xk, rfl⟩ := hxk.asLater; clear hxk))
    go_ret
    exact ⟨rfl, (by (repeat (first | with_reducible exact HX1.out | with_reducible exact Ext.refl _ | with_reducible refine Ext.drew ?_ | with_reducible refine Ext.drewN ?_ _ | with_reducible refine Ext.alloc ?_ _ | with_reducible refine Ext.onto ?_ _ | (with_reducible refine Ext.setCells ?_ ?_ _ _; rotate_left; focus (first | omega | (simp; done) | (simp; omega))) | (with_reducible refine Ext.setCell ?_ ?_ _; rotate_left; focus (first | omega | (simp; done) | (simp; omega))))))⟩
  | true =>
    have Hf := Lib.hid hf
    obtain ⟨hz, hr, hrf, hpa, hk⟩ := HH.out
    obtain ⟨hsm, hl20⟩ := few_is hf
    have hl9 : l.length ≤ 100000 := by omega
    have htz : ∀ v ∈ l, v.tags.size ≤ 900000 ∧ v.bytes.size ≤ 9223372036854775807 := fun v hv => by have := hsm v hv; omega
    have HV2 := Lib.hid (fun (W : World) (hx : Ext w W) => rvalidV_any A c l W hl9 htz (hr.on hx))
    have HSm := Lib.hid hsm
    have HR' := Lib.hid hr
    have HPA := Lib.hid hpa
    have HK := Lib.hid hk
    have HRF := Lib.hid hrf
    clear hz hr hrf hpa hk hf hsm htz HH
    cases hv : validV l with
    | false =>
      have Hv := Lib.hid hv
      clear hv
      go_wp2_with (first
        | (go_at_call 10; refine (HF.out _ (by (repeat (first | with_reducible exact HX1.out | with_reducible exact Ext.refl _ | with_reducible refine Ext.drew ?_ | with_reducible refine Ext.drewN ?_ _ | with_reducible refine Ext.alloc ?_ _ | with_reducible refine Ext.onto ?_ _ | (with_reducible refine Ext.setCells ?_ ?_ _ _; rotate_left; focus (first | omega | (simp; done) | (simp; omega))) | (with_reducible refine Ext.setCell ?_ ?_ _; rotate_left; focus (first | omega | (simp; done) | (simp; omega))))))).mono ?_; rintro e w' ⟨rfl, hxk⟩; rw [Hf.out]; obtain ⟨xk, rfl⟩ := hxk.asLater; clear hxk)
        | (go_at_call 13; refine (HV2.out _ (by (repeat (first | with_reducible exact HX1.out | with_reducible exact Ext.refl _ | with_reducible refine Ext.drew ?_ | with_reducible refine Ext.drewN ?_ _ | with_reducible refine Ext.alloc ?_ _ | with_reducible refine Ext.onto ?_ _ | (with_reducible refine Ext.setCells ?_ ?_ _ _; rotate_left; focus (first | omega | (simp; done) | (simp; omega))) | (with_reducible refine Ext.setCell ?_ ?_ _; rotate_left; focus (first | omega | (simp; done) | (simp; omega))))))).mono ?_; rintro e w' ⟨rfl, hxk⟩; rw [Hv.out]; obtain ⟨xk, rfl⟩ := hxk.asLater; clear hxk)
        | (go_at_call 34; refine (HQ2.out _ (by (repeat (first | with_reducible exact HX1.out | with_reducible exact Ext.refl _ | with_reducible refine Ext.drew ?_ | with_reducible refine Ext.drewN ?_ _ | with_reducible refine Ext.alloc ?_ _ | with_reducible refine Ext.onto ?_ _ | (with_reducible refine Ext.setCells ?_ ?_ _ _; rotate_left; focus (first | omega | (simp; done) | (simp; omega))) | (with_reducible refine Ext.setCell ?_ ?_ _; rotate_left; focus (first | omega | (simp; done) | (simp; omega))))))).mono ?_; rintro e w' ⟨rfl, hxk⟩; rw [Hq.out]; obtain ⟨xk, rfl⟩ := hxk.asLater; clear hxk)
        | (go_at_call 43; refine (HKv.out _).mono ?_; rintro e w' ⟨rfl, hxk⟩; rw [Hkv.out]; obtain ⟨xk, rfl⟩ := hxk.asLater; clear hxk)
        | (go_at_call 14; refine (rinst34 _ _).mono ?_; rintro e w' ⟨rfl, hxk⟩; rw [Hi1.out]; obtain ⟨xk, rfl⟩ := hxk.asLater; clear hxk)
        | (go_at_call 11; refine (HS.out _ (by (repeat (first | with_reducible exact HX1.out | with_reducible exact Ext.refl _ | with_reducible refine Ext.drew ?_ | with_reducible refine Ext.drewN ?_ _ | with_reducible refine Ext.alloc ?_ _ | with_reducible refine Ext.onto ?_ _ | (with_reducible refine Ext.setCells ?_ ?_ _ _; rotate_left; focus (first | omega | (simp; done) | (simp; omega))) | (with_reducible refine Ext.setCell ?_ ?_ _; rotate_left; focus (first | omega | (simp; done) | (simp; omega))))))).mono ?_; rintro e w' ⟨rfl, hxk⟩; obtain ⟨xk, rfl⟩ := hxk.asLater; clear hxk))
      go_ret
      exact ⟨rfl, (by (repeat (first | with_reducible exact HX1.out | with_reducible exact Ext.refl _ | with_reducible refine Ext.drew ?_ | with_reducible refine Ext.drewN ?_ _ | with_reducible refine Ext.alloc ?_ _ | with_reducible refine Ext.onto ?_ _ | (with_reducible refine Ext.setCells ?_ ?_ _ _; rotate_left; focus (first | omega | (simp; done) | (simp; omega))) | (with_reducible refine Ext.setCell ?_ ?_ _; rotate_left; focus (first | omega | (simp; done) | (simp; omega))))))⟩
    | true =>
      have Hv := Lib.hid hv
      clear hv
      by_cases h20 : 20 < lf.length
      · have d20 : decide ((20 : Int) < (lf.length : Int)) = true := by simp; omega
        go_wp2_with (first
          | (go_at_call 10; refine (HF.out _ (by (repeat (first | with_reducible exact HX1.out | with_reducible exact Ext.refl _ | with_reducible refine Ext.drew ?_ | with_reducible refine Ext.drewN ?_ _ | with_reducible refine Ext.alloc ?_ _ | with_reducible refine Ext.onto ?_ _ | (with_reducible refine Ext.setCells ?_ ?_ _ _; rotate_left; focus (first | omega | (simp; done) | (simp; omega))) | (with_reducible refine Ext.setCell ?_ ?_ _; rotate_left; focus (first | omega | (simp; done) | (simp; omega))))))).mono ?_; rintro e w' ⟨rfl, hxk⟩; rw [Hf.out]; obtain ⟨xk, rfl⟩ := hxk.asLater; clear hxk)
          | (go_at_call 13; refine (HV2.out _ (by (repeat (first | with_reducible exact HX1.out | with_reducible exact Ext.refl _ | with_reducible refine Ext.drew ?_ | with_reducible refine Ext.drewN ?_ _ | with_reducible refine Ext.alloc ?_ _ | with_reducible refine Ext.onto ?_ _ | (with_reducible refine Ext.setCells ?_ ?_ _ _; rotate_left; focus (first | omega | (simp; done) | (simp; omega))) | (with_reducible refine Ext.setCell ?_ ?_ _; rotate_left; focus (first | omega | (simp; done) | (simp; omega))))))).mono ?_; rintro e w' ⟨rfl, hxk⟩; rw [Hv.out]; obtain ⟨xk, rfl⟩ := hxk.asLater; clear hxk)
          | (go_at_call 34; refine (HQ2.out _ (by (repeat (first | with_reducible exact HX1.out | with_reducible exact Ext.refl _ | with_reducible refine Ext.drew ?_ | with_reducible refine Ext.drewN ?_ _ | with_reducible refine Ext.alloc ?_ _ | with_reducible refine Ext.onto ?_ _ | (with_reducible refine Ext.setCells ?_ ?_ _ _; rotate_left; focus (first | omega | (simp; done) | (simp; omega))) | (with_reducible refine Ext.setCell ?_ ?_ _; rotate_left; focus (first | omega | (simp; done) | (simp; omega))))))).mono ?_; rintro e w' ⟨rfl, hxk⟩; rw [Hq.out]; obtain ⟨xk, rfl⟩ := hxk.asLater; clear hxk)
          | (go_at_call 43; refine (HKv.out _).mono ?_; rintro e w' ⟨rfl, hxk⟩; rw [Hkv.out]; obtain ⟨xk, rfl⟩ := hxk.asLater; clear hxk)
          | (go_at_call 14; refine (rinst34 _ _).mono ?_; rintro e w' ⟨rfl, hxk⟩; rw [Hi1.out]; obtain ⟨xk, rfl⟩ := hxk.asLater; clear hxk)
          | (go_at_call 11; refine (HS.out _ (by (repeat (first | with_reducible exact HX1.out | with_reducible exact Ext.refl _ | with_reducible refine Ext.drew ?_ | with_reducible refine Ext.drewN ?_ _ | with_reducible refine Ext.alloc ?_ _ | with_reducible refine Ext.onto ?_ _ | (with_reducible refine Ext.setCells ?_ ?_ _ _; rotate_left; focus (first | omega | (simp; done) | (simp; omega))) | (with_reducible refine Ext.setCell ?_ ?_ _; rotate_left; focus (first | omega | (simp; done) | (simp; omega))))))).mono ?_; rintro e w' ⟨rfl, hxk⟩; obtain ⟨xk, rfl⟩ := hxk.asLater; clear hxk))
        go_ret
        exact ⟨rfl, (by (repeat (first | with_reducible exact HX1.out | with_reducible exact Ext.refl _ | with_reducible refine Ext.drew ?_ | with_reducible refine Ext.drewN ?_ _ | with_reducible refine Ext.alloc ?_ _ | with_reducible refine Ext.onto ?_ _ | (with_reducible refine Ext.setCells ?_ ?_ _ _; rotate_left; focus (first | omega | (simp; done) | (simp; omega))) | (with_reducible refine Ext.setCell ?_ ?_ _; rotate_left; focus (first | omega | (simp; done) | (simp; omega))))))⟩
      have d20 : decide ((20 : Int) < (lf.length : Int)) = false := by simp; omega
      have hlf9 : lf.length ≤ 100000 := by omega
      have HQ2 := Lib.hid (fun (W : World) (hx : Ext w W) => rfaulty_any A2 c2 lf W hlf9 (HRF.out.on hx))
      cases hq : faultyB lf with
      | false =>
        have Hq := Lib.hid hq
        clear hq
        go_wp2_with (first
          | (go_at_call 10; refine (HF.out _ (by (repeat (first | with_reducible exact HX1.out | with_reducible exact Ext.refl _ | with_reducible refine Ext.drew ?_ | with_reducible refine Ext.drewN ?_ _ | with_reducible refine Ext.alloc ?_ _ | with_reducible refine Ext.onto ?_ _ | (with_reducible refine Ext.setCells ?_ ?_ _ _; rotate_left; focus (first | omega | (simp; done) | (simp; omega))) | (with_reducible refine Ext.setCell ?_ ?_ _; rotate_left; focus (first | omega | (simp; done) | (simp; omega))))))).mono ?_; rintro e w' ⟨rfl, hxk⟩; rw [Hf.out]; obtain ⟨xk, rfl⟩ := hxk.asLater; clear hxk)
          | (go_at_call 13; refine (HV2.out _ (by (repeat (first | with_reducible exact HX1.out | with_reducible exact Ext.refl _ | with_reducible refine Ext.drew ?_ | with_reducible refine Ext.drewN ?_ _ | with_reducible refine Ext.alloc ?_ _ | with_reducible refine Ext.onto ?_ _ | (with_reducible refine Ext.setCells ?_ ?_ _ _; rotate_left; focus (first | omega | (simp; done) | (simp; omega))) | (with_reducible refine Ext.setCell ?_ ?_ _; rotate_left; focus (first | omega | (simp; done) | (simp; omega))))))).mono ?_; rintro e w' ⟨rfl, hxk⟩; rw [Hv.out]; obtain ⟨xk, rfl⟩ := hxk.asLater; clear hxk)
          | (go_at_call 34; refine (HQ2.out _ (by (repeat (first | with_reducible exact HX1.out | with_reducible exact Ext.refl _ | with_reducible refine Ext.drew ?_ | with_reducible refine Ext.drewN ?_ _ | with_reducible refine Ext.alloc ?_ _ | with_reducible refine Ext.onto ?_ _ | (with_reducible refine Ext.setCells ?_ ?_ _ _; rotate_left; focus (first | omega | (simp; done) | (simp; omega))) | (with_reducible refine Ext.setCell ?_ ?_ _; rotate_left; focus (first | omega | (simp; done) | (simp; omega))))))).mono ?_; rintro e w' ⟨rfl, hxk⟩; rw [Hq.out]; obtain ⟨xk, rfl⟩ := hxk.asLater; clear hxk)
          | (go_at_call 43; refine (HKv.out _).mono ?_; rintro e w' ⟨rfl, hxk⟩; rw [Hkv.out]; obtain ⟨xk, rfl⟩ := hxk.asLater; clear hxk)
          | (go_at_call 14; refine (rinst34 _ _).mono ?_; rintro e w' ⟨rfl, hxk⟩; rw [Hi1.out]; obtain ⟨xk, rfl⟩ := hxk.asLater; clear hxk)
          | (go_at_call 11; refine (HS.out _ (by (repeat (first | with_reducible exact HX1.out | with_reducible exact Ext.refl _ | with_reducible refine Ext.drew ?_ | with_reducible refine Ext.drewN ?_ _ | with_reducible refine Ext.alloc ?_ _ | with_reducible refine Ext.onto ?_ _ | (with_reducible refine Ext.setCells ?_ ?_ _ _; rotate_left; focus (first | omega | (simp; done) | (simp; omega))) | (with_reducible refine Ext.setCell ?_ ?_ _; rotate_left; focus (first | omega | (simp; done) | (simp; omega))))))).mono ?_; rintro e w' ⟨rfl, hxk⟩; obtain ⟨xk, rfl⟩ := hxk.asLater; clear hxk))
        go_ret
        exact ⟨rfl, (by (repeat (first | with_reducible exact HX1.out | with_reducible exact Ext.refl _ | with_reducible refine Ext.drew ?_ | with_reducible refine Ext.drewN ?_ _ | with_reducible refine Ext.alloc ?_ _ | with_reducible refine Ext.onto ?_ _ | (with_reducible refine Ext.setCells ?_ ?_ _ _; rotate_left; focus (first | omega | (simp; done) | (simp; omega))) | (with_reducible refine Ext.setCell ?_ ?_ _; rotate_left; focus (first | omega | (simp; done) | (simp; omega))))))⟩
      | true =>
        have Hq := Lib.hid hq
        clear hq
        cases hkv : okKy k with
        | false =>
          have Hkv := Lib.hid hkv
          clear hkv
          go_wp2_with (first
            | (go_at_call 10; refine (HF.out _ (by (repeat (first | with_reducible exact HX1.out | with_reducible exact Ext.refl _ | with_reducible refine Ext.drew ?_ | with_reducible refine Ext.drewN ?_ _ | with_reducible refine Ext.alloc ?_ _ | with_reducible refine Ext.onto ?_ _ | (with_reducible refine Ext.setCells ?_ ?_ _ _; rotate_left; focus (first | omega | (simp; done) | (simp; omega))) | (with_reducible refine Ext.setCell ?_ ?_ _; rotate_left; focus (first | omega | (simp; done) | (simp; omega))))))).mono ?_; rintro e w' ⟨rfl, hxk⟩; rw [Hf.out]; obtain ⟨xk, rfl⟩ := hxk.asLater; clear hxk)
            | (go_at_call 13; refine (HV2.out _ (by (repeat (first | with_reducible exact HX1.out | with_reducible exact Ext.refl _ | with_reducible refine Ext.drew ?_ | with_reducible refine Ext.drewN ?_ _ | with_reducible refine Ext.alloc ?_ _ | with_reducible refine Ext.onto ?_ _ | (with_reducible refine Ext.setCells ?_ ?_ _ _; rotate_left; focus (first | omega | (simp; done) | (simp; omega))) | (with_reducible refine Ext.setCell ?_ ?_ _; rotate_left; focus (first | omega | (simp; done) | (simp; omega))))))).mono ?_; rintro e w' ⟨rfl, hxk⟩; rw [Hv.out]; obtain ⟨xk, rfl⟩ := hxk.asLater; clear hxk)
            | (go_at_call 34; refine (HQ2.out _ (by (repeat (first | with_reducible exact HX1.out | with_reducible exact Ext.refl _ | with_reducible refine Ext.drew ?_ | with_reducible refine Ext.drewN ?_ _ | with_reducible refine Ext.alloc ?_ _ | with_reducible refine Ext.onto ?_ _ | (with_reducible refine Ext.setCells ?_ ?_ _ _; rotate_left; focus (first | omega | (simp; done) | (simp; omega))) | (with_reducible refine Ext.setCell ?_ ?_ _; rotate_left; focus (first | omega | (simp; done) | (simp; omega))))))).mono ?_; rintro e w' ⟨rfl, hxk⟩; rw [Hq.out]; obtain ⟨xk, rfl⟩ := hxk.asLater; clear hxk)
            | (go_at_call 43; refine (HKv.out _).mono ?_; rintro e w' ⟨rfl, hxk⟩; rw [Hkv.out]; obtain ⟨xk, rfl⟩ := hxk.asLater; clear hxk)
            | (go_at_call 14; refine (rinst34 _ _).mono ?_; rintro e w' ⟨rfl, hxk⟩; rw [Hi1.out]; obtain ⟨xk, rfl⟩ := hxk.asLater; clear hxk)
            | (go_at_call 11; refine (HS.out _ (by (repeat (first | with_reducible exact HX1.out | with_reducible exact Ext.refl _ | with_reducible refine Ext.drew ?_ | with_reducible refine Ext.drewN ?_ _ | with_reducible refine Ext.alloc ?_ _ | with_reducible refine Ext.onto ?_ _ | (with_reducible refine Ext.setCells ?_ ?_ _ _; rotate_left; focus (first | omega | (simp; done) | (simp; omega))) | (with_reducible refine Ext.setCell ?_ ?_ _; rotate_left; focus (first | omega | (simp; done) | (simp; omega))))))).mono ?_; rintro e w' ⟨rfl, hxk⟩; obtain ⟨xk, rfl⟩ := hxk.asLater; clear hxk))
          go_ret
          exact ⟨rfl, (by (repeat (first | with_reducible exact HX1.out | with_reducible exact Ext.refl _ | with_reducible refine Ext.drew ?_ | with_reducible refine Ext.drewN ?_ _ | with_reducible refine Ext.alloc ?_ _ | with_reducible refine Ext.onto ?_ _ | (with_reducible refine Ext.setCells ?_ ?_ _ _; rotate_left; focus (first | omega | (simp; done) | (simp; omega))) | (with_reducible refine Ext.setCell ?_ ?_ _; rotate_left; focus (first | omega | (simp; done) | (simp; omega))))))⟩
        | true =>
          have Hkv := Lib.hid hkv
          clear hkv
          cases hi1 : instB t with
          | false =>
            have Hi1 := Lib.hid hi1
            clear hi1
            go_wp2_with (first
              | (go_at_call 10; refine (HF.out _ (by (repeat (first | with_reducible exact HX1.out | with_reducible exact Ext.refl _ | with_reducible refine Ext.drew ?_ | with_reducible refine Ext.drewN ?_ _ | with_reducible refine Ext.alloc ?_ _ | with_reducible refine Ext.onto ?_ _ | (with_reducible refine Ext.setCells ?_ ?_ _ _; rotate_left; focus (first | omega | (simp; done) | (simp; omega))) | (with_reducible refine Ext.setCell ?_ ?_ _; rotate_left; focus (first | omega | (simp; done) | (simp; omega))))))).mono ?_; rintro e w' ⟨rfl, hxk⟩; rw [Hf.out]; obtain ⟨xk, rfl⟩ := hxk.asLater; clear hxk)
              | (go_at_call 13; refine (HV2.out _ (by (repeat (first | with_reducible exact HX1.out | with_reducible exact Ext.refl _ | with_reducible refine Ext.drew ?_ | with_reducible refine Ext.drewN ?_ _ | with_reducible refine Ext.alloc ?_ _ | with_reducible refine Ext.onto ?_ _ | (with_reducible refine Ext.setCells ?_ ?_ _ _; rotate_left; focus (first | omega | (simp; done) | (simp; omega))) | (with_reducible refine Ext.setCell ?_ ?_ _; rotate_left; focus (first | omega | (simp; done) | (simp; omega))))))).mono ?_; rintro e w' ⟨rfl, hxk⟩; rw [Hv.out]; obtain ⟨xk, rfl⟩ := hxk.asLater; clear hxk)
              | (go_at_call 34; refine (HQ2.out _ (by (repeat (first | with_reducible exact HX1.out | with_reducible exact Ext.refl _ | with_reducible refine Ext.drew ?_ | with_reducible refine Ext.drewN ?_ _ | with_reducible refine Ext.alloc ?_ _ | with_reducible refine Ext.onto ?_ _ | (with_reducible refine Ext.setCells ?_ ?_ _ _; rotate_left; focus (first | omega | (simp; done) | (simp; omega))) | (with_reducible refine Ext.setCell ?_ ?_ _; rotate_left; focus (first | omega | (simp; done) | (simp; omega))))))).mono ?_; rintro e w' ⟨rfl, hxk⟩; rw [Hq.out]; obtain ⟨xk, rfl⟩ := hxk.asLater; clear hxk)
              | (go_at_call 43; refine (HKv.out _).mono ?_; rintro e w' ⟨rfl, hxk⟩; rw [Hkv.out]; obtain ⟨xk, rfl⟩ := hxk.asLater; clear hxk)
              | (go_at_call 14; refine (rinst34 _ _).mono ?_; rintro e w' ⟨rfl, hxk⟩; rw [Hi1.out]; obtain ⟨xk, rfl⟩ := hxk.asLater; clear hxk)
              | (go_at_call 11; refine (HS.out _ (by (repeat (first | with_reducible exact HX1.out | with_reducible exact Ext.refl _ | with_reducible refine Ext.drew ?_ | with_reducible refine Ext.drewN ?_ _ | with_reducible refine Ext.alloc ?_ _ | with_reducible refine Ext.onto ?_ _ | (with_reducible refine Ext.setCells ?_ ?_ _ _; rotate_left; focus (first | omega | (simp; done) | (simp; omega))) | (with_reducible refine Ext.setCell ?_ ?_ _; rotate_left; focus (first | omega | (simp; done) | (simp; omega))))))).mono ?_; rintro e w' ⟨rfl, hxk⟩; obtain ⟨xk, rfl⟩ := hxk.asLater; clear hxk))
            go_ret
            exact ⟨rfl, (by (repeat (first | with_reducible exact HX1.out | with_reducible exact Ext.refl _ | with_reducible refine Ext.drew ?_ | with_reducible refine Ext.drewN ?_ _ | with_reducible refine Ext.alloc ?_ _ | with_reducible refine Ext.onto ?_ _ | (with_reducible refine Ext.setCells ?_ ?_ _ _; rotate_left; focus (first | omega | (simp; done) | (simp; omega))) | (with_reducible refine Ext.setCell ?_ ?_ _; rotate_left; focus (first | omega | (simp; done) | (simp; omega))))))⟩
          | true =>
            have Hi1 := Lib.hid hi1
            clear hi1
            obtain ⟨t1, t2⟩ := inst_is Hi1.out
            by_cases h39 : 549755813888 < t
            ·
              go_wp2_with (first
                | (go_at_call 10; refine (HF.out _ (by (repeat (first | with_reducible exact HX1.out | with_reducible exact Ext.refl _ | with_reducible refine Ext.drew ?_ | with_reducible refine Ext.drewN ?_ _ | with_reducible refine Ext.alloc ?_ _ | with_reducible refine Ext.onto ?_ _ | (with_reducible refine Ext.setCells ?_ ?_ _ _; rotate_left; focus (first | omega | (simp; done) | (simp; omega))) | (with_reducible refine Ext.setCell ?_ ?_ _; rotate_left; focus (first | omega | (simp; done) | (simp; omega))))))).mono ?_; rintro e w' ⟨rfl, hxk⟩; rw [Hf.out]; obtain ⟨xk, rfl⟩ := hxk.asLater; clear hxk)
                | (go_at_call 13; refine (HV2.out _ (by (repeat (first | with_reducible exact HX1.out | with_reducible exact Ext.refl _ | with_reducible refine Ext.drew ?_ | with_reducible refine Ext.drewN ?_ _ | with_reducible refine Ext.alloc ?_ _ | with_reducible refine Ext.onto ?_ _ | (with_reducible refine Ext.setCells ?_ ?_ _ _; rotate_left; focus (first | omega | (simp; done) | (simp; omega))) | (with_reducible refine Ext.setCell ?_ ?_ _; rotate_left; focus (first | omega | (simp; done) | (simp; omega))))))).mono ?_; rintro e w' ⟨rfl, hxk⟩; rw [Hv.out]; obtain ⟨xk, rfl⟩ := hxk.asLater; clear hxk)
                | (go_at_call 34; refine (HQ2.out _ (by (repeat (first | with_reducible exact HX1.out | with_reducible exact Ext.refl _ | with_reducible refine Ext.drew ?_ | with_reducible refine Ext.drewN ?_ _ | with_reducible refine Ext.alloc ?_ _ | with_reducible refine Ext.onto ?_ _ | (with_reducible refine Ext.setCells ?_ ?_ _ _; rotate_left; focus (first | omega | (simp; done) | (simp; omega))) | (with_reducible refine Ext.setCell ?_ ?_ _; rotate_left; focus (first | omega | (simp; done) | (simp; omega))))))).mono ?_; rintro e w' ⟨rfl, hxk⟩; rw [Hq.out]; obtain ⟨xk, rfl⟩ := hxk.asLater; clear hxk)
                | (go_at_call 43; refine (HKv.out _).mono ?_; rintro e w' ⟨rfl, hxk⟩; rw [Hkv.out]; obtain ⟨xk, rfl⟩ := hxk.asLater; clear hxk)
                | (go_at_call 14; refine (rinst34 _ _).mono ?_; rintro e w' ⟨rfl, hxk⟩; rw [Hi1.out]; obtain ⟨xk, rfl⟩ := hxk.asLater; clear hxk)
                | (go_at_call 11; refine (HS.out _ (by (repeat (first | with_reducible exact HX1.out | with_reducible exact Ext.refl _ | with_reducible refine Ext.drew ?_ | with_reducible refine Ext.drewN ?_ _ | with_reducible refine Ext.alloc ?_ _ | with_reducible refine Ext.onto ?_ _ | (with_reducible refine Ext.setCells ?_ ?_ _ _; rotate_left; focus (first | omega | (simp; done) | (simp; omega))) | (with_reducible refine Ext.setCell ?_ ?_ _; rotate_left; focus (first | omega | (simp; done) | (simp; omega))))))).mono ?_; rintro e w' ⟨rfl, hxk⟩; obtain ⟨xk, rfl⟩ := hxk.asLater; clear hxk))
              go_ret
              exact ⟨rfl, (by (repeat (first | with_reducible exact HX1.out | with_reducible exact Ext.refl _ | with_reducible refine Ext.drew ?_ | with_reducible refine Ext.drewN ?_ _ | with_reducible refine Ext.alloc ?_ _ | with_reducible refine Ext.onto ?_ _ | (with_reducible refine Ext.setCells ?_ ?_ _ _; rotate_left; focus (first | omega | (simp; done) | (simp; omega))) | (with_reducible refine Ext.setCell ?_ ?_ _; rotate_left; focus (first | omega | (simp; done) | (simp; omega))))))⟩
            have d39 : decide (549755813888 < t) = false := by simpa using h39
            have hvv := (validV_iff l).1 Hv.out
            have hin : ∀ t, VerIn (atN l t) := fun t => by
              rcases atN_or l t with h | ⟨k, hk', h⟩
              · rw [h]; exact Nat.zero_le _
              · rw [h]
                have := HSm.out _ (List.getElem_mem hk')
                show _ ≤ _
                omega
            obtain ⟨f1, f2, f3, f4⟩ := fault_in (t := t) Hq.out
            have hsum : i64 (t + (faultN lf t).delay) := ⟨by omega, by omega⟩
            have HO := Lib.hid (fun (W : World) (hx : Ext w W) => oserve_any A A2 c c2 l lf t known W hl9 hlf9 (HR'.out.on hx) (HRF.out.on hx) h16 hby hin hsum ⟨f1, f2⟩ (RowAt.ext HK.out hx))
            have HIn : Hid (∀ g ∈ servedN l known t (faultN lf t), ∃ u, t ≤ u ∧ u ≤ 1099511627776 ∧ g = (u, ansOf (atN l u) known)) := Lib.hid (fun g hg => served_in hg f3)
            have hSl : (servedN l known t (faultN lf t)).length ≤ 100000 := by
              have g : ∀ (o : List Giv) u, (giveN l known o u).length ≤ o.length + 1 := fun o u => by unfold giveN; split <;> simp
              unfold servedN
              have g1 := g [] (t + (faultN lf t).delay)
              have g2 := g [] t
              have g3 := g (giveN l known [] t) (t + (faultN lf t).delay)
              simp only [List.length_nil] at g1 g2
              split
              · simp
              · split
                · omega
                · split <;> omega
            generalize servedN l known t (faultN lf t) = S at *
            have HVV := Lib.hid hvv
            clear hsum f1 f2 f3 f4 hvv hin HRF
            go_upto_region 4 with (first
              | (go_at_call 35; refine (HO.out _ (by (repeat (first | with_reducible exact HX1.out | with_reducible exact Ext.refl _ | with_reducible refine Ext.drew ?_ | with_reducible refine Ext.drewN ?_ _ | with_reducible refine Ext.alloc ?_ _ | with_reducible refine Ext.onto ?_ _ | (with_reducible refine Ext.setCells ?_ ?_ _ _; rotate_left; focus (first | omega | (simp; done) | (simp; omega))) | (with_reducible refine Ext.setCell ?_ ?_ _; rotate_left; focus (first | omega | (simp; done) | (simp; omega))))))).mono ?_; rintro e w2 ⟨A5, c5, rfl, hr5, hx5⟩; have HR5 := Lib.hid hr5; have HX5 := Lib.hid hx5; have hs5 := hx5.size; clear hr5 hx5)
              | (first
                | (go_at_call 10; refine (HF.out _ (by (repeat (first | with_reducible exact HX1.out | with_reducible exact Ext.refl _ | with_reducible refine Ext.drew ?_ | with_reducible refine Ext.drewN ?_ _ | with_reducible refine Ext.alloc ?_ _ | with_reducible refine Ext.onto ?_ _ | (with_reducible refine Ext.setCells ?_ ?_ _ _; rotate_left; focus (first | omega | (simp; done) | (simp; omega))) | (with_reducible refine Ext.setCell ?_ ?_ _; rotate_left; focus (first | omega | (simp; done) | (simp; omega))))))).mono ?_; rintro e w' ⟨rfl, hxk⟩; rw [Hf.out]; obtain ⟨xk, rfl⟩ := hxk.asLater; clear hxk)
                | (go_at_call 13; refine (HV2.out _ (by (repeat (first | with_reducible exact HX1.out | with_reducible exact Ext.refl _ | with_reducible refine Ext.drew ?_ | with_reducible refine Ext.drewN ?_ _ | with_reducible refine Ext.alloc ?_ _ | with_reducible refine Ext.onto ?_ _ | (with_reducible refine Ext.setCells ?_ ?_ _ _; rotate_left; focus (first | omega | (simp; done) | (simp; omega))) | (with_reducible refine Ext.setCell ?_ ?_ _; rotate_left; focus (first | omega | (simp; done) | (simp; omega))))))).mono ?_; rintro e w' ⟨rfl, hxk⟩; rw [Hv.out]; obtain ⟨xk, rfl⟩ := hxk.asLater; clear hxk)
                | (go_at_call 34; refine (HQ2.out _ (by (repeat (first | with_reducible exact HX1.out | with_reducible exact Ext.refl _ | with_reducible refine Ext.drew ?_ | with_reducible refine Ext.drewN ?_ _ | with_reducible refine Ext.alloc ?_ _ | with_reducible refine Ext.onto ?_ _ | (with_reducible refine Ext.setCells ?_ ?_ _ _; rotate_left; focus (first | omega | (simp; done) | (simp; omega))) | (with_reducible refine Ext.setCell ?_ ?_ _; rotate_left; focus (first | omega | (simp; done) | (simp; omega))))))).mono ?_; rintro e w' ⟨rfl, hxk⟩; rw [Hq.out]; obtain ⟨xk, rfl⟩ := hxk.asLater; clear hxk)
                | (go_at_call 43; refine (HKv.out _).mono ?_; rintro e w' ⟨rfl, hxk⟩; rw [Hkv.out]; obtain ⟨xk, rfl⟩ := hxk.asLater; clear hxk)
                | (go_at_call 14; refine (rinst34 _ _).mono ?_; rintro e w' ⟨rfl, hxk⟩; rw [Hi1.out]; obtain ⟨xk, rfl⟩ := hxk.asLater; clear hxk)
                | (go_at_call 11; refine (HS.out _ (by (repeat (first | with_reducible exact HX1.out | with_reducible exact Ext.refl _ | with_reducible refine Ext.drew ?_ | with_reducible refine Ext.drewN ?_ _ | with_reducible refine Ext.alloc ?_ _ | with_reducible refine Ext.onto ?_ _ | (with_reducible refine Ext.setCells ?_ ?_ _ _; rotate_left; focus (first | omega | (simp; done) | (simp; omega))) | (with_reducible refine Ext.setCell ?_ ?_ _; rotate_left; focus (first | omega | (simp; done) | (simp; omega))))))).mono ?_; rintro e w' ⟨rfl, hxk⟩; obtain ⟨xk, rfl⟩ := hxk.asLater; clear hxk)))
            have HX2 : Hid (Ext w w2) := Lib.hid ((HX1.out.onto _).trans HX5.out)
            have HK2 := Lib.hid ((HR1.out.later _).ext HX5.out)
            have HD2 := Lib.hid ((HR2.out.later _).ext HX5.out)
            have hl2 := HD2.out.lt
            clear HX5 hs5 HO HF HV2 HQ2 HKv HX1 HR1 HR2 k1 d1 hlr Hi1 Hq
            by_cases hS0 : S = []
            · have e0 := servE_no hS0
              rw [e0]
              go_wp2_with (go_at_call 11; refine (HS.out _ HX2.out).mono ?_; rintro e w' ⟨rfl, hxk⟩; obtain ⟨xk, rfl⟩ := hxk.asLater; clear hxk)
              go_ret
              exact ⟨rfl, (by (repeat (first | with_reducible exact HX2.out | with_reducible exact Ext.refl _ | with_reducible refine Ext.drew ?_ | with_reducible refine Ext.drewN ?_ _ | with_reducible refine Ext.alloc ?_ _ | with_reducible refine Ext.onto ?_ _ | (with_reducible refine Ext.setCells ?_ ?_ _ _; rotate_left; focus (first | omega | (simp; done) | (simp; omega))) | (with_reducible refine Ext.setCell ?_ ?_ _; rotate_left; focus (first | omega | (simp; done) | (simp; omega))))))⟩
            rw [servE_ok hS0]
            go_upto_region 7 with (fail)
            refine wp_world (fun W => Ext w2 W ∧ RowAt W w2.heap.size #[.int .i64 (max 0 (t - b)), .int .i64 (t + af)]) ⟨(by (repeat (first | with_reducible exact Ext.refl _ | with_reducible exact Ext.refl _ | with_reducible refine Ext.drew ?_ | with_reducible refine Ext.drewN ?_ _ | with_reducible refine Ext.alloc ?_ _ | with_reducible refine Ext.onto ?_ _ | (with_reducible refine Ext.setCells ?_ ?_ _ _; rotate_left; focus (first | omega | (simp; done) | (simp; omega))) | (with_reducible refine Ext.setCell ?_ ?_ _; rotate_left; focus (first | omega | (simp; done) | (simp; omega)))))), ?_⟩ ?_
            · exact RowAt.newAt rfl
            rintro W3 ⟨x3, r3⟩
            have HX3 := Lib.hid x3
            have HR3 := Lib.hid r3
            clear x3 r3
            go_wp2
            go_loopw [83] (fun i wr => ∃ j : Nat, j ≤ S.length ∧ i = .int .i64 j ∧ Hid (Ext W3 wr)) (fun i _ => S.length - (intOf i).toNat)
            case atStart => exact ⟨0, Nat.zero_le _, rfl, Lib.hid (Ext.refl _)⟩
            case round =>
              obtain ⟨j, hj, rfl, HX⟩ := hrel
              have HXw : Hid (Ext w wr) := Lib.hid ((HX2.out.trans HX3.out).trans HX.out)
              have hs3 := HX.out.size
              have hs2 := HX3.out.size
              by_cases hlt : j < S.length
              · obtain ⟨bb, off, rfl, hbb, hrow⟩ := ReadsGiv.row ((HR5.out.on (HX3.out.trans HX.out))) j hlt
                obtain ⟨u, u1, u2, hg⟩ := HIn.out _ (List.getElem_mem hlt)
                rw [hg] at hrow
                have hai := ansIn HVV.out HSm.out u known
                have hsb : (ansOf (atN l u) known).same = true → (ansOf (atN l u) known).body = known := fun h => by rw [ans_same] at h; rw [ans_body]; simpa using h
                have hT1 := fun (lo hi : Int) (h1 : lo ≤ u) (h2 : u ≤ hi) (W : World) (hx : Ext w W) => true_says (A := A) (c := c) k u lo hi known (by omega) hcap hc63 hz0 (HR'.out.on hx) HPA.out HSm.out HVV.out h1 h2 (RowAt.ext HK.out hx)
                generalize ansOf (atN l u) known = a at *
                have hgs := gv_an (u, a)
                have hfg : fitsRow 22 (gvC (u, a)) = true := by kernel_rfl
                by_cases hover : 1099511627776 < u + had + af
                · clear hT1 hsb hai hg
                  go_wp2
                  go_roundw
                  case rel => exact ⟨j + 1, by omega, by go_num, Lib.hid (by (repeat (first | with_reducible exact HX.out | with_reducible exact Ext.refl _ | with_reducible refine Ext.drew ?_ | with_reducible refine Ext.drewN ?_ _ | with_reducible refine Ext.alloc ?_ _ | with_reducible refine Ext.onto ?_ _ | (with_reducible refine Ext.setCells ?_ ?_ _ _; rotate_left; focus (first | omega | (simp; done) | (simp; omega))) | (with_reducible refine Ext.setCell ?_ ?_ _; rotate_left; focus (first | omega | (simp; done) | (simp; omega))))))⟩
                  case measure => simp [intOf]; omega
                · have hnv : max 0 (t - b) ≤ u + had + af := by omega
                  obtain ⟨T, hT⟩ : ∃ T, stOf k a (max 0 (t - b)) (u + had + af) = T := ⟨_, rfl⟩
                  have HT1 := Lib.hid (hT1 (max 0 (t - b)) (u + had + af) (by omega) (by omega))
                  have HSt : Hid (∀ W, Ext w W → Calls Tryz.prog 39 #[.agg (kyC k), .string ⟨#[97, 99, 109, 101, 47, 97]⟩, .string ⟨#[118]⟩, .agg (anC a), .agg #[.int .i64 (max 0 (t - b)), .int .i64 (t + af)], .agg #[.int .i64 (max 0 (u + had - b)), .int .i64 (u + had + af)]] W fun e w' => ∃ (x : St) (i : Int), e = .returned (.tuple #[.agg (stmC x), .int .i64 i]) ∧ (a.same = false → x = T ∧ i = 0) ∧ Ext W w') := Lib.hid (fun W hx => by
                    rw [← hT]
                    exact stamp_says k a ⟨max 0 (t - b), t + af⟩ ⟨max 0 (u + had - b), u + had + af⟩ W Hkv.out hai ⟨by show 0 ≤ max 0 (t - b); omega, by show max 0 (t - b) ≤ t + af; omega, by show t + af ≤ _; omega⟩ ⟨by show 0 ≤ max 0 (u + had - b); omega, by show max 0 (u + had - b) ≤ u + had + af; omega, by show u + had + af ≤ _; omega⟩ hnv (RowAt.ext HK.out hx))
                  have HRn : Hid (∀ W, Ext w W → a.same = true → Calls Tryz.prog 40 #[.agg (kyC k), .agg (stmC ⟨⟨#[97, 99, 109, 101, 47, 97]⟩, ⟨#[118]⟩, 0, a.size, known, ByteArray.empty, 0, 0, 0, 0, zeros32 16⟩), .agg (anC a), .agg #[.int .i64 (max 0 (t - b)), .int .i64 (t + af)], .agg #[.int .i64 (max 0 (u + had - b)), .int .i64 (u + had + af)]] W fun e w' => e = .returned (.tuple #[.agg (stmC T), .int .i64 0]) ∧ Ext W w') := Lib.hid (fun W hx hs => by
                    rw [← hT]
                    exact renew_says k a ⟨max 0 (t - b), t + af⟩ ⟨max 0 (u + had - b), u + had + af⟩ known W Hkv.out hai ⟨by show 0 ≤ max 0 (t - b); omega, by show max 0 (t - b) ≤ t + af; omega, by show t + af ≤ _; omega⟩ ⟨by show 0 ≤ max 0 (u + had - b); omega, by show max 0 (u + had - b) ≤ u + had + af; omega, by show u + had + af ≤ _; omega⟩ hnv hs (hsb hs) (RowAt.ext HK.out hx))
                  have HCk : Hid (∀ W, Ext w W → ∀ bk ck, countB k (max 0 (t - b)) (u + had + af) = true → RowAt W bk (kyC k) → Calls Tryz.prog 45 #[.slice (some ⟨bk, 0, none⟩) 1 ck, .agg (stmC T)] W fun e w' => e = .returned (.int .i64 0) ∧ Ext W w') := Lib.hid (fun W hx bk ck hc hrk => by
                    rw [← hT]
                    exact check_says k a _ _ bk ck W Hkv.out hai (by omega) hnv (by omega) hc hrk (RowAt.ext HK.out hx))
                  have HCn := Lib.hid (fun W => rcounts_any k (max 0 (t - b)) (u + had + af) W)
                  have tl : T.lo = max 0 (t - b) := by rw [← hT]; rfl
                  have th : T.hi = u + had + af := by rw [← hT]; rfl
                  have tg : T.gate = k.party := by rw [← hT]; rfl
                  rw [hT] at HT1
                  have hfT := stm_fits T
                  have hf0 := stm_fits noSt
                  have HSB := Lib.hid hsb
                  clear hT1 hai hT hg hsb
                  go_upto_region 13 with (fail)
                  refine wp_world (fun W => Ext W3 W ∧ RowAt W wr.heap.size (gvC (u, a)) ∧ RowAt W (wr.heap.size + 1) #[.int .i64 (max 0 (u + had - b)), .int .i64 (u + had + af)]) ⟨(by (repeat (first | with_reducible exact HX.out | with_reducible exact Ext.refl _ | with_reducible refine Ext.drew ?_ | with_reducible refine Ext.drewN ?_ _ | with_reducible refine Ext.alloc ?_ _ | with_reducible refine Ext.onto ?_ _ | (with_reducible refine Ext.setCells ?_ ?_ _ _; rotate_left; focus (first | omega | (simp; done) | (simp; omega))) | (with_reducible refine Ext.setCell ?_ ?_ _; rotate_left; focus (first | omega | (simp; done) | (simp; omega)))))), ?_, ?_⟩ ?_
                  · exact ((RowAt.new wr (gvC noGiv) 92).store (ds := gvC (u, a)) (by rw [gv_size, gv_size])).alloc _
                  · exact RowAt.newAt (by simp [setCells_size])
                  rintro W4 ⟨x4, r4, r5⟩
                  have HX4 := Lib.hid x4
                  have HR4 := Lib.hid r4
                  have k4 : rowOf W4 w.heap.size 0 5 = some (kyC k) := (HK2.out.ext (HX3.out.trans x4)).all rfl (by omega)
                  have s0 : W4.cell? ⟨w2.heap.size, 0, none⟩ = some (.int .i64 (max 0 (t - b))) := (HR3.out.ext x4).cell 0
                  have s1 : W4.cell? ⟨w2.heap.size, 1, none⟩ = some (.int .i64 (t + af)) := (HR3.out.ext x4).cell 1
                  have v0 : W4.cell? ⟨wr.heap.size + 1, 0, none⟩ = some (.int .i64 (max 0 (u + had - b))) := r5.cell 0
                  have v1 : W4.cell? ⟨wr.heap.size + 1, 1, none⟩ = some (.int .i64 (u + had + af)) := r5.cell 1
                  have a4 : rowOf W4 wr.heap.size 1 21 = some (anC a) := by rw [r4.row, if_neg (by omega), gv_an]
                  have hl4 := r5.lt
                  have hs4 := x4.size
                  have HRow := Lib.hid r5
                  have hXw4 : Ext w W4 := (HX2.out.trans HX3.out).trans x4
                  have HXw4 := Lib.hid hXw4
                  have hPlt : w2.heap.size < W4.heap.size := (HR3.out.ext x4).lt
                  clear x4 r4 r5 hXw4
                  go_upto_region 14 with (go_at_call 39; refine (HSt.out _ HXw4.out).mono ?_; rintro e w' ⟨x, i, rfl, hxi, hxl⟩; have hfx := stm_fits x; obtain ⟨xl, rfl⟩ := hxl.asLater; clear hxl)
                  refine wp_world (fun W => Ext W4 W ∧ RowAt W (W4.heap.size + xl.n) (stmC x)) ⟨?_, ?_⟩ ?_
                  · exact (by (repeat (first | with_reducible exact Ext.refl _ | with_reducible exact Ext.refl _ | with_reducible refine Ext.drew ?_ | with_reducible refine Ext.drewN ?_ _ | with_reducible refine Ext.alloc ?_ _ | with_reducible refine Ext.onto ?_ _ | (with_reducible refine Ext.setCells ?_ ?_ _ _; rotate_left; focus (first | omega | (simp; done) | (simp; omega))) | (with_reducible refine Ext.setCell ?_ ?_ _; rotate_left; focus (first | omega | (simp; done) | (simp; omega))))))
                  · exact (RowAt.newAt (by simp [later_size])).store rfl
                  obtain ⟨g24, hg24⟩ : ∃ g, W4.heap.size + xl.n = g := ⟨_, rfl⟩
                  rw [hg24]
                  rintro W5 ⟨x5, r5⟩
                  have HX5 := Lib.hid x5
                  have HR5x := Lib.hid r5
                  have k5 : rowOf W5 w.heap.size 0 5 = some (kyC k) := (row_extW x5 (b := w.heap.size) (by omega) 0 5).trans k4
                  have d5 : rowOf W5 (w.heap.size + 1) 0 16 = some (dgC known) := (((HD2.out.ext (HX3.out.trans HX4.out)).ext x5)).all rfl (by omega)
                  have s50 := (x5.cell (p := ⟨w2.heap.size, 0, none⟩) (by exact hPlt)).trans s0
                  have s51 := (x5.cell (p := ⟨w2.heap.size, 1, none⟩) (by exact hPlt)).trans s1
                  have v50 := (x5.cell (p := ⟨wr.heap.size + 1, 0, none⟩) (by exact hl4)).trans v0
                  have v51 := (x5.cell (p := ⟨wr.heap.size + 1, 1, none⟩) (by exact hl4)).trans v1
                  have a5 : rowOf W5 wr.heap.size 1 21 = some (anC a) := (row_extW x5 (b := wr.heap.size) (by omega) 1 21).trans a4
                  have z5 : W5.cell? ⟨wr.heap.size, 2, none⟩ = some (.int .i64 a.size) := ((HR4.out.ext x5).cell 2).trans (gv_g2 _)
                  have y5 : W5.cell? ⟨wr.heap.size, 21, none⟩ = some (.bool a.same) := ((HR4.out.ext x5).cell 21).trans (gv_g21 _)
                  have hl5 := r5.lt
                  have hs5 := x5.size
                  have m5 : roomOf W5 g24 0 41 = true := by rw [r5.room]; rfl
                  have hX5w : Ext w W5 := HXw4.out.trans x5
                  have HXw5 := Lib.hid hX5w
                  clear k4 s0 s1 v0 v1 a4 x5 r5 hX5w
                  cases hsame : a.same with
                  | false =>
                    rw [hsame] at y5
                    obtain ⟨e1, e2⟩ := hxi hsame
                    subst e2
                    rw [e1] at HR5x
                    clear e1
                    clear hxi hsame k5 d5 s50 s51 v50 v51 a5 z5
                    go_upto_region 17 with (fail)
                    refine wp_world (fun W => Ext W4 W ∧ RowAt W g24 (stmC T)) ⟨HX5.out, HR5x.out⟩ ?_
                    clear y5 m5 hl5 HX5 HR5x
                    rintro W7 ⟨x7, r7⟩
                    have HX7 : Hid (Ext W3 W7) := Lib.hid (HX4.out.trans x7)
                    have HXw7 : Hid (Ext w W7) := Lib.hid (((HX2.out.trans HX3.out).trans HX4.out).trans x7)
                    have k7 : rowOf W7 w.heap.size 0 5 = some (kyC k) := (HK2.out.ext ((HX3.out.trans HX4.out).trans x7)).all rfl (by omega)
                    have p7 : W7.cell? ⟨w.heap.size, 0, none⟩ = some (.int .i64 k.party) := (HK2.out.ext ((HX3.out.trans HX4.out).trans x7)).cell 0
                    have u7 : W7.cell? ⟨wr.heap.size, 0, none⟩ = some (.int .i64 u) := ((HR4.out.ext x7).cell 0).trans (gv_g0 _)
                    have t7 : rowOf W7 g24 0 41 = some (stmC T) := r7.all rfl (by omega)
                    have c21 : W7.cell? ⟨g24, 21, none⟩ = some (.int .i64 (max 0 (t - b))) := by rw [← tl]; exact (r7.cell 21).trans (stm_g21 T)
                    have c22 : W7.cell? ⟨g24, 22, none⟩ = some (.int .i64 (u + had + af)) := by rw [← th]; exact (r7.cell 22).trans (stm_g22 T)
                    have c23 : W7.cell? ⟨g24, 23, none⟩ = some (.int .i64 k.party) := by rw [← tg]; exact (r7.cell 23).trans (stm_g23 T)
                    have hl7 := r7.lt
                    have hs7 := x7.size
                    clear x7 r7 HX4 HR4 HR5 HRow HK2 HD2 HR3 HSt HRn tl th tg
                    cases hcn : countB k (max 0 (t - b)) (u + had + af) with
                    | false =>
                      rw [hcn] at HCn
                      clear HCk hcn
                      go_wp2_with (first
                        | (go_at_call 22; refine (HT1.out _ (by (repeat (first | with_reducible exact HXw7.out | with_reducible exact Ext.refl _ | with_reducible refine Ext.drew ?_ | with_reducible refine Ext.drewN ?_ _ | with_reducible refine Ext.alloc ?_ _ | with_reducible refine Ext.onto ?_ _ | (with_reducible refine Ext.setCells ?_ ?_ _ _; rotate_left; focus (first | omega | (simp; done) | (simp; omega))) | (with_reducible refine Ext.setCell ?_ ?_ _; rotate_left; focus (first | omega | (simp; done) | (simp; omega))))))).mono ?_; rintro e w' ⟨rfl, hxk⟩; obtain ⟨xk, rfl⟩ := hxk.asLater; clear hxk)
                        | (go_at_call 44; refine (HCn.out _).mono ?_; rintro e w' ⟨rfl, hxk⟩; obtain ⟨xk, rfl⟩ := hxk.asLater; clear hxk))
                      go_roundw
                      case rel => exact ⟨j + 1, by omega, by go_num, Lib.hid (by (repeat (first | with_reducible exact HX7.out | with_reducible exact Ext.refl _ | with_reducible refine Ext.drew ?_ | with_reducible refine Ext.drewN ?_ _ | with_reducible refine Ext.alloc ?_ _ | with_reducible refine Ext.onto ?_ _ | (with_reducible refine Ext.setCells ?_ ?_ _ _; rotate_left; focus (first | omega | (simp; done) | (simp; omega))) | (with_reducible refine Ext.setCell ?_ ?_ _; rotate_left; focus (first | omega | (simp; done) | (simp; omega))))))⟩
                      case measure => simp [intOf]; omega
                    | true =>
                      rw [hcn] at HCn
                      have HCk' := Lib.hid (fun W hx bk ck => HCk.out W hx bk ck hcn)
                      clear HCk hcn
                      go_wp2_with (first
                        | (go_at_call 22; refine (HT1.out _ (by (repeat (first | with_reducible exact HXw7.out | with_reducible exact Ext.refl _ | with_reducible refine Ext.drew ?_ | with_reducible refine Ext.drewN ?_ _ | with_reducible refine Ext.alloc ?_ _ | with_reducible refine Ext.onto ?_ _ | (with_reducible refine Ext.setCells ?_ ?_ _ _; rotate_left; focus (first | omega | (simp; done) | (simp; omega))) | (with_reducible refine Ext.setCell ?_ ?_ _; rotate_left; focus (first | omega | (simp; done) | (simp; omega))))))).mono ?_; rintro e w' ⟨rfl, hxk⟩; obtain ⟨xk, rfl⟩ := hxk.asLater; clear hxk)
                        | (go_at_call 44; refine (HCn.out _).mono ?_; rintro e w' ⟨rfl, hxk⟩; obtain ⟨xk, rfl⟩ := hxk.asLater; clear hxk)
                        | (go_at_call 45; refine (HCk'.out _ (by (repeat (first | with_reducible exact HXw7.out | with_reducible exact Ext.refl _ | with_reducible refine Ext.drew ?_ | with_reducible refine Ext.drewN ?_ _ | with_reducible refine Ext.alloc ?_ _ | with_reducible refine Ext.onto ?_ _ | (with_reducible refine Ext.setCells ?_ ?_ _ _; rotate_left; focus (first | omega | (simp; done) | (simp; omega))) | (with_reducible refine Ext.setCell ?_ ?_ _; rotate_left; focus (first | omega | (simp; done) | (simp; omega)))))) _ _ (RowAt.newAt (by simp [later_size]))).mono ?_; rintro e w' ⟨rfl, hxk⟩; obtain ⟨xk, rfl⟩ := hxk.asLater; clear hxk))
                      go_roundw
                      case rel => exact ⟨j + 1, by omega, by go_num, Lib.hid (by (repeat (first | with_reducible exact HX7.out | with_reducible exact Ext.refl _ | with_reducible refine Ext.drew ?_ | with_reducible refine Ext.drewN ?_ _ | with_reducible refine Ext.alloc ?_ _ | with_reducible refine Ext.onto ?_ _ | (with_reducible refine Ext.setCells ?_ ?_ _ _; rotate_left; focus (first | omega | (simp; done) | (simp; omega))) | (with_reducible refine Ext.setCell ?_ ?_ _; rotate_left; focus (first | omega | (simp; done) | (simp; omega))))))⟩
                      case measure => simp [intOf]; omega
                  | true =>
                    rw [hsame] at y5
                    have HRn' := Lib.hid (fun W hx => HRn.out W hx hsame)
                    clear hxi hsame
                    go_upto_region 17 with (go_at_call 40; refine (HRn'.out _ (by (repeat (first | with_reducible exact HXw5.out | with_reducible exact Ext.refl _ | with_reducible refine Ext.drew ?_ | with_reducible refine Ext.drewN ?_ _ | with_reducible refine Ext.alloc ?_ _ | with_reducible refine Ext.onto ?_ _ | (with_reducible refine Ext.setCells ?_ ?_ _ _; rotate_left; focus (first | omega | (simp; done) | (simp; omega))) | (with_reducible refine Ext.setCell ?_ ?_ _; rotate_left; focus (first | omega | (simp; done) | (simp; omega))))))).mono ?_; rintro e w' ⟨rfl, hxk⟩; obtain ⟨xk, rfl⟩ := hxk.asLater; clear hxk)
                    refine wp_world (fun W => Ext W4 W ∧ RowAt W g24 (stmC T)) ⟨(by (repeat (first | with_reducible exact HX5.out | with_reducible exact Ext.refl _ | with_reducible refine Ext.drew ?_ | with_reducible refine Ext.drewN ?_ _ | with_reducible refine Ext.alloc ?_ _ | with_reducible refine Ext.onto ?_ _ | (with_reducible refine Ext.setCells ?_ ?_ _ _; rotate_left; focus (first | omega | (simp; done) | (simp; omega))) | (with_reducible refine Ext.setCell ?_ ?_ _; rotate_left; focus (first | omega | (simp; done) | (simp; omega)))))), ?_⟩ ?_
                    · exact RowAt.store (((HR5x.out.alloc _).others (by omega) _ _).later _) rfl
                    clear y5 m5 hl5 HX5 HR5x k5 d5 s50 s51 v50 v51 a5 z5
                    rintro W7 ⟨x7, r7⟩
                    have HX7 : Hid (Ext W3 W7) := Lib.hid (HX4.out.trans x7)
                    have HXw7 : Hid (Ext w W7) := Lib.hid (((HX2.out.trans HX3.out).trans HX4.out).trans x7)
                    have k7 : rowOf W7 w.heap.size 0 5 = some (kyC k) := (HK2.out.ext ((HX3.out.trans HX4.out).trans x7)).all rfl (by omega)
                    have p7 : W7.cell? ⟨w.heap.size, 0, none⟩ = some (.int .i64 k.party) := (HK2.out.ext ((HX3.out.trans HX4.out).trans x7)).cell 0
                    have u7 : W7.cell? ⟨wr.heap.size, 0, none⟩ = some (.int .i64 u) := ((HR4.out.ext x7).cell 0).trans (gv_g0 _)
                    have t7 : rowOf W7 g24 0 41 = some (stmC T) := r7.all rfl (by omega)
                    have c21 : W7.cell? ⟨g24, 21, none⟩ = some (.int .i64 (max 0 (t - b))) := by rw [← tl]; exact (r7.cell 21).trans (stm_g21 T)
                    have c22 : W7.cell? ⟨g24, 22, none⟩ = some (.int .i64 (u + had + af)) := by rw [← th]; exact (r7.cell 22).trans (stm_g22 T)
                    have c23 : W7.cell? ⟨g24, 23, none⟩ = some (.int .i64 k.party) := by rw [← tg]; exact (r7.cell 23).trans (stm_g23 T)
                    have hl7 := r7.lt
                    have hs7 := x7.size
                    clear x7 r7 HX4 HR4 HR5 HRow HK2 HD2 HR3 HSt HRn tl th tg
                    cases hcn : countB k (max 0 (t - b)) (u + had + af) with
                    | false =>
                      rw [hcn] at HCn
                      clear HCk hcn
                      go_wp2_with (first
                        | (go_at_call 22; refine (HT1.out _ (by (repeat (first | with_reducible exact HXw7.out | with_reducible exact Ext.refl _ | with_reducible refine Ext.drew ?_ | with_reducible refine Ext.drewN ?_ _ | with_reducible refine Ext.alloc ?_ _ | with_reducible refine Ext.onto ?_ _ | (with_reducible refine Ext.setCells ?_ ?_ _ _; rotate_left; focus (first | omega | (simp; done) | (simp; omega))) | (with_reducible refine Ext.setCell ?_ ?_ _; rotate_left; focus (first | omega | (simp; done) | (simp; omega))))))).mono ?_; rintro e w' ⟨rfl, hxk⟩; obtain ⟨xk, rfl⟩ := hxk.asLater; clear hxk)
                        | (go_at_call 44; refine (HCn.out _).mono ?_; rintro e w' ⟨rfl, hxk⟩; obtain ⟨xk, rfl⟩ := hxk.asLater; clear hxk))
                      go_roundw
                      case rel => exact ⟨j + 1, by omega, by go_num, Lib.hid (by (repeat (first | with_reducible exact HX7.out | with_reducible exact Ext.refl _ | with_reducible refine Ext.drew ?_ | with_reducible refine Ext.drewN ?_ _ | with_reducible refine Ext.alloc ?_ _ | with_reducible refine Ext.onto ?_ _ | (with_reducible refine Ext.setCells ?_ ?_ _ _; rotate_left; focus (first | omega | (simp; done) | (simp; omega))) | (with_reducible refine Ext.setCell ?_ ?_ _; rotate_left; focus (first | omega | (simp; done) | (simp; omega))))))⟩
                      case measure => simp [intOf]; omega
                    | true =>
                      rw [hcn] at HCn
                      have HCk' := Lib.hid (fun W hx bk ck => HCk.out W hx bk ck hcn)
                      clear HCk hcn
                      go_wp2_with (first
                        | (go_at_call 22; refine (HT1.out _ (by (repeat (first | with_reducible exact HXw7.out | with_reducible exact Ext.refl _ | with_reducible refine Ext.drew ?_ | with_reducible refine Ext.drewN ?_ _ | with_reducible refine Ext.alloc ?_ _ | with_reducible refine Ext.onto ?_ _ | (with_reducible refine Ext.setCells ?_ ?_ _ _; rotate_left; focus (first | omega | (simp; done) | (simp; omega))) | (with_reducible refine Ext.setCell ?_ ?_ _; rotate_left; focus (first | omega | (simp; done) | (simp; omega))))))).mono ?_; rintro e w' ⟨rfl, hxk⟩; obtain ⟨xk, rfl⟩ := hxk.asLater; clear hxk)
                        | (go_at_call 44; refine (HCn.out _).mono ?_; rintro e w' ⟨rfl, hxk⟩; obtain ⟨xk, rfl⟩ := hxk.asLater; clear hxk)
                        | (go_at_call 45; refine (HCk'.out _ (by (repeat (first | with_reducible exact HXw7.out | with_reducible exact Ext.refl _ | with_reducible refine Ext.drew ?_ | with_reducible refine Ext.drewN ?_ _ | with_reducible refine Ext.alloc ?_ _ | with_reducible refine Ext.onto ?_ _ | (with_reducible refine Ext.setCells ?_ ?_ _ _; rotate_left; focus (first | omega | (simp; done) | (simp; omega))) | (with_reducible refine Ext.setCell ?_ ?_ _; rotate_left; focus (first | omega | (simp; done) | (simp; omega)))))) _ _ (RowAt.newAt (by simp [later_size]))).mono ?_; rintro e w' ⟨rfl, hxk⟩; obtain ⟨xk, rfl⟩ := hxk.asLater; clear hxk))
                      go_roundw
                      case rel => exact ⟨j + 1, by omega, by go_num, Lib.hid (by (repeat (first | with_reducible exact HX7.out | with_reducible exact Ext.refl _ | with_reducible refine Ext.drew ?_ | with_reducible refine Ext.drewN ?_ _ | with_reducible refine Ext.alloc ?_ _ | with_reducible refine Ext.onto ?_ _ | (with_reducible refine Ext.setCells ?_ ?_ _ _; rotate_left; focus (first | omega | (simp; done) | (simp; omega))) | (with_reducible refine Ext.setCell ?_ ?_ _; rotate_left; focus (first | omega | (simp; done) | (simp; omega))))))⟩
                      case measure => simp [intOf]; omega
              · go_wp2_with (go_at_call 11; refine (HS.out _ HXw.out).mono ?_; rintro e w' ⟨rfl, hxk⟩; obtain ⟨xk, rfl⟩ := hxk.asLater; clear hxk)
                go_ret
                exact ⟨rfl, (by (repeat (first | with_reducible exact HXw.out | with_reducible exact Ext.refl _ | with_reducible refine Ext.drew ?_ | with_reducible refine Ext.drewN ?_ _ | with_reducible refine Ext.alloc ?_ _ | with_reducible refine Ext.onto ?_ _ | (with_reducible refine Ext.setCells ?_ ?_ _ _; rotate_left; focus (first | omega | (simp; done) | (simp; omega))) | (with_reducible refine Ext.setCell ?_ ?_ _; rotate_left; focus (first | omega | (simp; done) | (simp; omega))))))⟩
end Go.Proofs.YtpjacgcaibaggaaGreatDoor


set_option linter.unusedVariables false
set_option linter.unusedSimpArgs false
namespace Go.Proofs.YtpjacgcaibaggaaGreatDoor
open Go.ChangeShapes Go.WideShapes Go.ChangeAt Go.ChangeMaps Go.RowKit
open Go.Proofs

set_option maxRecDepth 100000 in
theorem laidV {W : World} (h : laidMetH Tryz.prog Rows.originStampsAreTrueRow.laid W) : Konst 0 W := by
  rw [MakeChecks.laidMetH_plain _ _ _ (by kernel_rfl)] at h
  obtain ⟨ps, ⟨ga, ta, csa, fa, pa, qa, hga, hta, hva, hda, ⟨g1, t1, cs1, f1, p1, q1, hg1, ht1, hv1, hd1, _, rfl⟩, rfl⟩, _, hf⟩ := h
  obtain rfl := Option.some.inj ((show Tryz.prog.globalNamed "weirgate/hash.constants" = some 0 by kernel_rfl).symm.trans hg1)
  obtain rfl := Option.some.inj ((show (Tryz.prog.globals[(0 : Nat)]?).map (·.type) = some 222 by kernel_rfl).symm.trans ht1)
  rw [laidK] at hd1
  exact table_at hg1 hv1 hd1 (fun x hx => by simp [hx]) hf

set_option maxRecDepth 100000 in
theorem originStampsAreTrue_lifted (os : Os) (started : os.Started) (H : Type) (enc : TypeId × Value → H) :
    ReturnsInHanded {} Tryz.checked os 9 .any (fun w args => (Rows.originStampsAreTrueSpec.pre enc Tryz.prog Tryz.f9 Rows.originStampsAreTrueRow.domain false w args ∧ laidMetH Tryz.prog Rows.originStampsAreTrueRow.laid w) ∧ sizedMet enc Tryz.prog Tryz.f9 (OpenSpec.ofChange Rows.originStampsAreTrueSpec) false w args)
      (Rows.originStampsAreTrueSpec.post enc Tryz.prog Tryz.f9 false true false false) := by
  refine returnsInHanded_of_change_and (C := Tryz.checked) (X := fun w _ => laidMetH Tryz.prog Rows.originStampsAreTrueRow.laid w) (fun _ _ _ hh h => h.of_heap hh) Tryz.own started (by kernel_rfl) Tryz.func9
    (ChangeSpec.witness_shaped (enc := enc) (C := Tryz.checked) (os := os) (X := fun w _ => laidMetH Tryz.prog Rows.originStampsAreTrueRow.laid w) false (World.laidAll Tryz.prog os Rows.originStampsAreTrueRow.laid) #[.slice none 0 0, .slice none 0 0, .agg (kyC noKy), .int .i64 0, .int .u8 0, .int .u8 0, .int .u8 0, .agg (dgC (zeros32 16))] 8 (World.laidAll_os _ _ _)
      (World.shaped_of_ZipB (by kernel_rfl) (by kernel_rfl)) (by kernel_rfl) (by kernel_rfl) (by kernel_rfl)
      (by rw [MakeChecks.laidMetH_plain _ _ _ (by kernel_rfl)]; exact laidMet_laidAll _ (by kernel_rfl) (by kernel_rfl))) ?_
  intro W base args ds gs before hval0 hW hcnd hSz hL _
  have hval : ∀ (j : Nat) t v, Tryz.f9.params[j]? = some t → args[j]? = some v → Value.okWide Tryz.prog W .any base t v := hval0
  have hW' := hW
  obtain ⟨p, q, hA0, hV, rfl, hfz, hnd⟩ := hW
  have hA : DataW.TrodAll enc Tryz.prog W 0 (fun _ => true) true Tryz.f9.params.toList args.toList ds p := hA0
  rw [Tryz.params9] at hA hval
  obtain ⟨rfl, rfl⟩ := trodVars_none hV
  clear hA0 hval0 hcnd
  obtain ⟨v0, vs0, d0, ds0, p0, q0, ea0, rfl, rfl, h0, hA⟩ := trodAll_cons hA
  obtain ⟨v1, vs1, d1, ds1, p1, q1, rfl, rfl, rfl, h1, hA⟩ := trodAll_cons hA
  obtain ⟨v2, vs2, d2, ds2, p2, q2, rfl, rfl, rfl, h2, hA⟩ := trodAll_cons hA
  obtain ⟨v3, vs3, d3, ds3, p3, q3, rfl, rfl, rfl, h3, hA⟩ := trodAll_cons hA
  obtain ⟨v4, vs4, d4, ds4, p4, q4, rfl, rfl, rfl, h4, hA⟩ := trodAll_cons hA
  obtain ⟨v5, vs5, d5, ds5, p5, q5, rfl, rfl, rfl, h5, hA⟩ := trodAll_cons hA
  obtain ⟨v6, vs6, d6, ds6, p6, q6, rfl, rfl, rfl, h6, hA⟩ := trodAll_cons hA
  obtain ⟨v7, vs7, d7, ds7, p7, q7, rfl, rfl, rfl, h7, hA⟩ := trodAll_cons hA
  obtain ⟨rfl, rfl, rfl⟩ := trodAll_nil hA
  obtain rfl : args = #[v0, v1, v2, v3, v4, v5, v6, v7] := by cases args; simp_all
  have hk := laidV hL
  obtain ⟨A, c, l, rfl, hlc, hcm, hrd, hin, hz0, hsp⟩ := open_versions (hval 0 22 v0 rfl rfl) h0
  obtain ⟨A2, c2, lf, rfl, hlc2, hcm2, hrd2⟩ := open_faults (hval 1 68 v1 rfl rfl) h1
  obtain ⟨k, rfl, hks⟩ := open_key (hval 2 79 v2 rfl rfl) h2
  obtain ⟨t, rfl, _, _, _⟩ := open_int Tryz.underlying3 (hval 3 3 v3 rfl rfl) h3
  obtain ⟨b, rfl, _, _, wb⟩ := open_int Tryz.underlying5 (hval 4 5 v4 rfl rfl) h4
  obtain ⟨af, rfl, _, _, wa⟩ := open_int Tryz.underlying5 (hval 5 5 v5 rfl rfl) h5
  obtain ⟨hd, rfl, _, _, wh⟩ := open_int Tryz.underlying5 (hval 6 5 v6 rfl rfl) h6
  obtain ⟨kn, rfl, h16, hby⟩ := open_digest (hval 7 24 v7 rfl rfl) h7
  have hb : 0 ≤ b ∧ b < 256 := by
    simp [Lit.wf, IntKind.min, IntKind.max, IntKind.signed, IntKind.bits] at wb
    omega
  have ha : 0 ≤ af ∧ af < 256 := by
    simp [Lit.wf, IntKind.min, IntKind.max, IntKind.signed, IntKind.bits] at wa
    omega
  have hh : 0 ≤ hd ∧ hd < 256 := by
    simp [Lit.wf, IntKind.min, IntKind.max, IntKind.signed, IntKind.bits] at wh
    omega
  have main := stampsTrue_ok A c l A2 c2 lf k t b af hd kn W (by unfold maxLen at hcm; omega) (fun v hv => by have := hin v hv; unfold Ver.In maxLen at this; omega) hlc (by unfold maxLen at hcm; omega) hz0 hsp hrd (by unfold maxLen at hcm2; omega) hrd2 (by unfold maxLen at hks; omega) hb ha hh h16 hby hk
  refine main.mono fun e' W' ⟨he, hx⟩ => ?_
  subst he
  exact ⟨_, rfl, law_post Tryz.laidOut (by kernel_rfl) rfl hW' hx 4 (by kernel_rfl) Tryz.underlying4 rfl rfl rfl⟩
end Go.Proofs.YtpjacgcaibaggaaGreatDoor
