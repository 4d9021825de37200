/- The law ClockContainsTrueTime, walked. -/
import Derived.Test.YtkcclpomhniafaaRows
import Derived.Test.YtkcclpomhniafaaExt
import Derived.WalkKit
import Derived.WalkSpells
import Derived.WalkLawsBesides
import Derived.Deep.QuietTactic
import Derived.BigQuiet
import Derived.Test.YtkcclpomhniafaaCkJ
import Derived.Test.YtkcclpomhniafaaCkN
set_option linter.unusedVariables false
set_option linter.unusedSimpArgs false
namespace Go.Proofs.Ytkcclpomhniafaa
open Go.RowKit

set_option maxRecDepth 100000 in
set_option maxHeartbeats 2000000 in
theorem law3_bad (base d lo hi s : Int) (A S Wd : Option Addr) (c cs cw : Nat) (ps : List (Int × Int)) (zs ws : List Int) (w : World)
    (hm : ps.length ≤ 9223372036854775807) (hz : zs.length ≤ 9223372036854775807) (hP : PReads w w.heap.size A ps)
    (h : honB ps d = false ∨ vld lo hi = false ∨ d < 0 ∨ 100000 < d ∨ s < lo ∨ hi < s ∨ 100 < zs.length) :
    Calls Try.prog 5 #[.int .i64 base, .slice A ps.length c, .int .i64 d, .agg #[.int .i64 lo, .int .i64 hi], .int .i64 s, .slice S zs.length cs, .slice Wd ws.length cw] w fun e w' => e = .returned (.bool true) ∧ Ext w w' := by
  have HP := Lib.hid hP
  clear hP
  cases hh : honB ps d with
  | false =>
    have HH := Lib.hid hh
    clear hh h
    cases hv : vld lo hi
    all_goals
      have HV := Lib.hid hv
      clear hv
      go_enter Try.func5, Try.ntmps5
      go_wp2_with (first
        | (go_at_call 24; refine (rhonest_any _ _ _ _ _ hm (HP.out.up (by (repeat (first | with_reducible exact Ext.refl _ | with_reducible refine Ext.drew ?_ | with_reducible refine Ext.drewN ?_ _ | with_reducible refine Ext.alloc ?_ _ | with_reducible refine Ext.onto ?_ _ | with_reducible refine Ext.setCell ?_ ?_ _)); all_goals (simp; try omega)))).mono ?_; rintro e w' ⟨rfl, rfl⟩; rw [HH.out])
        | (go_at_call 25; refine (rvalid_any _ _ _).mono ?_; rintro e w' ⟨rfl, hxl⟩; obtain ⟨xl, rfl⟩ := hxl.asLater; clear hxl; rw [HV.out])
        | (go_at_call 13; refine (sanity_any _).mono ?_; rintro e w' ⟨rfl, hxl⟩; obtain ⟨xl, rfl⟩ := hxl.asLater; clear hxl))
      go_ret
      exact ⟨rfl, (by (repeat (first | with_reducible exact Ext.refl _ | with_reducible refine Ext.drew ?_ | with_reducible refine Ext.drewN ?_ _ | with_reducible refine Ext.alloc ?_ _ | with_reducible refine Ext.onto ?_ _ | with_reducible refine Ext.setCell ?_ ?_ _)); all_goals (simp; try omega))⟩
  | true =>
    have HH := Lib.hid hh
    cases hv : vld lo hi with
    | false =>
      have HV := Lib.hid hv
      clear hh hv h
      go_enter Try.func5, Try.ntmps5
      go_wp2_with (first
        | (go_at_call 24; refine (rhonest_any _ _ _ _ _ hm (HP.out.up (by (repeat (first | with_reducible exact Ext.refl _ | with_reducible refine Ext.drew ?_ | with_reducible refine Ext.drewN ?_ _ | with_reducible refine Ext.alloc ?_ _ | with_reducible refine Ext.onto ?_ _ | with_reducible refine Ext.setCell ?_ ?_ _)); all_goals (simp; try omega)))).mono ?_; rintro e w' ⟨rfl, rfl⟩; rw [HH.out])
        | (go_at_call 25; refine (rvalid_any _ _ _).mono ?_; rintro e w' ⟨rfl, hxl⟩; obtain ⟨xl, rfl⟩ := hxl.asLater; clear hxl; rw [HV.out])
        | (go_at_call 13; refine (sanity_any _).mono ?_; rintro e w' ⟨rfl, hxl⟩; obtain ⟨xl, rfl⟩ := hxl.asLater; clear hxl))
      go_ret
      exact ⟨rfl, (by (repeat (first | with_reducible exact Ext.refl _ | with_reducible refine Ext.drew ?_ | with_reducible refine Ext.drewN ?_ _ | with_reducible refine Ext.alloc ?_ _ | with_reducible refine Ext.onto ?_ _ | with_reducible refine Ext.setCell ?_ ?_ _)); all_goals (simp; try omega))⟩
    | true =>
      have HV := Lib.hid hv
      have h' : d < 0 ∨ 100000 < d ∨ s < lo ∨ hi < s ∨ 100 < zs.length := by
        rcases h with h | h | h
        · rw [hh] at h; cases h
        · rw [hv] at h; cases h
        · exact h
      clear hh hv h
      by_cases g1 : d < 0
      · clear h'
        go_enter Try.func5, Try.ntmps5
        go_wp2_with (first
          | (go_at_call 24; refine (rhonest_any _ _ _ _ _ hm (HP.out.up (by (repeat (first | with_reducible exact Ext.refl _ | with_reducible refine Ext.drew ?_ | with_reducible refine Ext.drewN ?_ _ | with_reducible refine Ext.alloc ?_ _ | with_reducible refine Ext.onto ?_ _ | with_reducible refine Ext.setCell ?_ ?_ _)); all_goals (simp; try omega)))).mono ?_; rintro e w' ⟨rfl, rfl⟩; rw [HH.out])
          | (go_at_call 25; refine (rvalid_any _ _ _).mono ?_; rintro e w' ⟨rfl, hxl⟩; obtain ⟨xl, rfl⟩ := hxl.asLater; clear hxl; rw [HV.out])
          | (go_at_call 13; refine (sanity_any _).mono ?_; rintro e w' ⟨rfl, hxl⟩; obtain ⟨xl, rfl⟩ := hxl.asLater; clear hxl))
        go_ret
        exact ⟨rfl, (by (repeat (first | with_reducible exact Ext.refl _ | with_reducible refine Ext.drew ?_ | with_reducible refine Ext.drewN ?_ _ | with_reducible refine Ext.alloc ?_ _ | with_reducible refine Ext.onto ?_ _ | with_reducible refine Ext.setCell ?_ ?_ _)); all_goals (simp; try omega))⟩
      by_cases g2 : 100000 < d
      · clear h'
        go_enter Try.func5, Try.ntmps5
        go_wp2_with (first
          | (go_at_call 24; refine (rhonest_any _ _ _ _ _ hm (HP.out.up (by (repeat (first | with_reducible exact Ext.refl _ | with_reducible refine Ext.drew ?_ | with_reducible refine Ext.drewN ?_ _ | with_reducible refine Ext.alloc ?_ _ | with_reducible refine Ext.onto ?_ _ | with_reducible refine Ext.setCell ?_ ?_ _)); all_goals (simp; try omega)))).mono ?_; rintro e w' ⟨rfl, rfl⟩; rw [HH.out])
          | (go_at_call 25; refine (rvalid_any _ _ _).mono ?_; rintro e w' ⟨rfl, hxl⟩; obtain ⟨xl, rfl⟩ := hxl.asLater; clear hxl; rw [HV.out])
          | (go_at_call 13; refine (sanity_any _).mono ?_; rintro e w' ⟨rfl, hxl⟩; obtain ⟨xl, rfl⟩ := hxl.asLater; clear hxl))
        go_ret
        exact ⟨rfl, (by (repeat (first | with_reducible exact Ext.refl _ | with_reducible refine Ext.drew ?_ | with_reducible refine Ext.drewN ?_ _ | with_reducible refine Ext.alloc ?_ _ | with_reducible refine Ext.onto ?_ _ | with_reducible refine Ext.setCell ?_ ?_ _)); all_goals (simp; try omega))⟩
      by_cases g3 : s < lo
      · clear h'
        go_enter Try.func5, Try.ntmps5
        go_wp2_with (first
          | (go_at_call 24; refine (rhonest_any _ _ _ _ _ hm (HP.out.up (by (repeat (first | with_reducible exact Ext.refl _ | with_reducible refine Ext.drew ?_ | with_reducible refine Ext.drewN ?_ _ | with_reducible refine Ext.alloc ?_ _ | with_reducible refine Ext.onto ?_ _ | with_reducible refine Ext.setCell ?_ ?_ _)); all_goals (simp; try omega)))).mono ?_; rintro e w' ⟨rfl, rfl⟩; rw [HH.out])
          | (go_at_call 25; refine (rvalid_any _ _ _).mono ?_; rintro e w' ⟨rfl, hxl⟩; obtain ⟨xl, rfl⟩ := hxl.asLater; clear hxl; rw [HV.out])
          | (go_at_call 13; refine (sanity_any _).mono ?_; rintro e w' ⟨rfl, hxl⟩; obtain ⟨xl, rfl⟩ := hxl.asLater; clear hxl))
        go_ret
        exact ⟨rfl, (by (repeat (first | with_reducible exact Ext.refl _ | with_reducible refine Ext.drew ?_ | with_reducible refine Ext.drewN ?_ _ | with_reducible refine Ext.alloc ?_ _ | with_reducible refine Ext.onto ?_ _ | with_reducible refine Ext.setCell ?_ ?_ _)); all_goals (simp; try omega))⟩
      by_cases g4 : hi < s
      · clear h'
        go_enter Try.func5, Try.ntmps5
        go_wp2_with (first
          | (go_at_call 24; refine (rhonest_any _ _ _ _ _ hm (HP.out.up (by (repeat (first | with_reducible exact Ext.refl _ | with_reducible refine Ext.drew ?_ | with_reducible refine Ext.drewN ?_ _ | with_reducible refine Ext.alloc ?_ _ | with_reducible refine Ext.onto ?_ _ | with_reducible refine Ext.setCell ?_ ?_ _)); all_goals (simp; try omega)))).mono ?_; rintro e w' ⟨rfl, rfl⟩; rw [HH.out])
          | (go_at_call 25; refine (rvalid_any _ _ _).mono ?_; rintro e w' ⟨rfl, hxl⟩; obtain ⟨xl, rfl⟩ := hxl.asLater; clear hxl; rw [HV.out])
          | (go_at_call 13; refine (sanity_any _).mono ?_; rintro e w' ⟨rfl, hxl⟩; obtain ⟨xl, rfl⟩ := hxl.asLater; clear hxl))
        go_ret
        exact ⟨rfl, (by (repeat (first | with_reducible exact Ext.refl _ | with_reducible refine Ext.drew ?_ | with_reducible refine Ext.drewN ?_ _ | with_reducible refine Ext.alloc ?_ _ | with_reducible refine Ext.onto ?_ _ | with_reducible refine Ext.setCell ?_ ?_ _)); all_goals (simp; try omega))⟩
      have g5 : 100 < zs.length := by omega
      clear h'
      go_enter Try.func5, Try.ntmps5
      go_wp2_with (first
        | (go_at_call 24; refine (rhonest_any _ _ _ _ _ hm (HP.out.up (by (repeat (first | with_reducible exact Ext.refl _ | with_reducible refine Ext.drew ?_ | with_reducible refine Ext.drewN ?_ _ | with_reducible refine Ext.alloc ?_ _ | with_reducible refine Ext.onto ?_ _ | with_reducible refine Ext.setCell ?_ ?_ _)); all_goals (simp; try omega)))).mono ?_; rintro e w' ⟨rfl, rfl⟩; rw [HH.out])
        | (go_at_call 25; refine (rvalid_any _ _ _).mono ?_; rintro e w' ⟨rfl, hxl⟩; obtain ⟨xl, rfl⟩ := hxl.asLater; clear hxl; rw [HV.out])
        | (go_at_call 13; refine (sanity_any _).mono ?_; rintro e w' ⟨rfl, hxl⟩; obtain ⟨xl, rfl⟩ := hxl.asLater; clear hxl))
      go_ret
      exact ⟨rfl, (by (repeat (first | with_reducible exact Ext.refl _ | with_reducible refine Ext.drew ?_ | with_reducible refine Ext.drewN ?_ _ | with_reducible refine Ext.alloc ?_ _ | with_reducible refine Ext.onto ?_ _ | with_reducible refine Ext.setCell ?_ ?_ _)); all_goals (simp; try omega))⟩

set_option maxRecDepth 100000 in
set_option maxHeartbeats 2000000 in
theorem law3_good (base d lo hi s : Int) (A S Wd : Option Addr) (c cs cw : Nat) (ps : List (Int × Int)) (zs ws : List Int) (w : World)
    (hm : ps.length ≤ 9223372036854775807) (hP : PReads w w.heap.size A ps) (hS : IReads w w.heap.size S .u32 zs) (hW : IReads w w.heap.size Wd .u16 ws)
    (hws : ws.length ≤ 9223372036854775807) (hzb : ∀ i, i < zs.length → 0 ≤ zs.getD i 0 ∧ zs.getD i 0 ≤ 4294967295) (hwb : ∀ i, i < ws.length → 0 ≤ ws.getD i 0 ∧ ws.getD i 0 ≤ 65535)
    (h1 : honB ps d = true) (h2 : vld lo hi = true) (h3 : 0 ≤ d) (h4 : d ≤ 100000) (h5 : lo ≤ s) (h6 : s ≤ hi) (h7 : zs.length ≤ 100) :
    Calls Try.prog 5 #[.int .i64 base, .slice A ps.length c, .int .i64 d, .agg #[.int .i64 lo, .int .i64 hi], .int .i64 s, .slice S zs.length cs, .slice Wd ws.length cw] w fun e w' => e = .returned (.bool true) ∧ Ext w w' := by
  have HP := Lib.hid hP
  have HS := Lib.hid hS
  have HW := Lib.hid hW
  have HZB := Lib.hid hzb
  have HWB := Lib.hid hwb
  have HH := Lib.hid h1
  have HV := Lib.hid h2
  obtain ⟨hok, hR⟩ := hon_ok h1 h3 h4
  have hv := vld_iff.1 h2
  have HOK := Lib.hid hok
  have HRT := Lib.hid hR
  obtain ⟨v1, v2, v3⟩ := hv
  clear hP hS hW hzb hwb h1 h2 hok hR
  by_cases hb : base < 0 ∨ 1099511627776 < base
  · have HB : Hid (base < 0 ∨ 1099511627776 < base ∨ s < 0 ∨ 1099511627776 < s ∨ rightB ps 100000 = false) := Lib.hid (by rcases hb with h | h; exact .inl h; exact .inr (.inl h))
    clear hb
    go_enter Try.func5, Try.ntmps5
    go_wp2_with (first
      | (go_at_call 26; refine (show_bad _ _ _ _ _ _ hm (HP.out.up (by (repeat (first | with_reducible exact Ext.refl _ | with_reducible refine Ext.drew ?_ | with_reducible refine Ext.drewN ?_ _ | with_reducible refine Ext.alloc ?_ _ | with_reducible refine Ext.onto ?_ _ | with_reducible refine Ext.setCell ?_ ?_ _)); all_goals (simp; try omega))) HB.out).mono ?_; rintro e w' ⟨rfl, hxl⟩; obtain ⟨xl, rfl⟩ := hxl.asLater; clear hxl)
      | (go_at_call 24; refine (rhonest_any _ _ _ _ _ hm (HP.out.up (by (repeat (first | with_reducible exact Ext.refl _ | with_reducible refine Ext.drew ?_ | with_reducible refine Ext.drewN ?_ _ | with_reducible refine Ext.alloc ?_ _ | with_reducible refine Ext.onto ?_ _ | with_reducible refine Ext.setCell ?_ ?_ _)); all_goals (simp; try omega)))).mono ?_; rintro e w' ⟨rfl, rfl⟩; rw [HH.out])
      | (go_at_call 25; refine (rvalid_any _ _ _).mono ?_; rintro e w' ⟨rfl, hxl⟩; obtain ⟨xl, rfl⟩ := hxl.asLater; clear hxl; rw [HV.out])
      | (go_at_call 13; refine (sanity_any _).mono ?_; rintro e w' ⟨rfl, hxl⟩; obtain ⟨xl, rfl⟩ := hxl.asLater; clear hxl))
    go_ret
    exact ⟨rfl, (by (repeat (first | with_reducible exact Ext.refl _ | with_reducible refine Ext.drew ?_ | with_reducible refine Ext.drewN ?_ _ | with_reducible refine Ext.alloc ?_ _ | with_reducible refine Ext.onto ?_ _ | with_reducible refine Ext.setCell ?_ ?_ _)); all_goals (simp; try omega))⟩
  have hb0 : 0 ≤ base := by omega
  have hb1 : base ≤ 1099511627776 := by omega
  clear hb
  obtain ⟨q, hq⟩ : ∃ q, shG ps s = q := ⟨_, rfl⟩
  have HQ : Hid (((shFold ps s).1 + (shFold ps s).2 * 1000000) = q) := Lib.hid (by rw [shFold_shG]; exact hq)
  have HQ2 := Lib.hid hq
  by_cases hmost : 2199023255552 < base + q / 1000000
  · have HM := Lib.hid hmost
    clear hmost hq
    go_enter Try.func5, Try.ntmps5
    go_wp2_with (first
      | (go_at_call 26; refine (show_ok _ _ _ _ _ _ (HP.out.up (by (repeat (first | with_reducible exact Ext.refl _ | with_reducible refine Ext.drew ?_ | with_reducible refine Ext.drewN ?_ _ | with_reducible refine Ext.alloc ?_ _ | with_reducible refine Ext.onto ?_ _ | with_reducible refine Ext.setCell ?_ ?_ _)); all_goals (simp; try omega))) hb0 hb1 (by omega) (by omega) HRT.out q HQ _ (.inr ⟨HM.out, rfl⟩)).mono ?_; rintro e w' ⟨rfl, hxl⟩; obtain ⟨xl, rfl⟩ := hxl.asLater; clear hxl)
      | (go_at_call 24; refine (rhonest_any _ _ _ _ _ hm (HP.out.up (by (repeat (first | with_reducible exact Ext.refl _ | with_reducible refine Ext.drew ?_ | with_reducible refine Ext.drewN ?_ _ | with_reducible refine Ext.alloc ?_ _ | with_reducible refine Ext.onto ?_ _ | with_reducible refine Ext.setCell ?_ ?_ _)); all_goals (simp; try omega)))).mono ?_; rintro e w' ⟨rfl, rfl⟩; rw [HH.out])
      | (go_at_call 25; refine (rvalid_any _ _ _).mono ?_; rintro e w' ⟨rfl, hxl⟩; obtain ⟨xl, rfl⟩ := hxl.asLater; clear hxl; rw [HV.out])
      | (go_at_call 13; refine (sanity_any _).mono ?_; rintro e w' ⟨rfl, hxl⟩; obtain ⟨xl, rfl⟩ := hxl.asLater; clear hxl))
    go_ret
    exact ⟨rfl, (by (repeat (first | with_reducible exact Ext.refl _ | with_reducible refine Ext.drew ?_ | with_reducible refine Ext.drewN ?_ _ | with_reducible refine Ext.alloc ?_ _ | with_reducible refine Ext.onto ?_ _ | with_reducible refine Ext.setCell ?_ ?_ _)); all_goals (simp; try omega))⟩
  · have HM : Hid (base + q / 1000000 ≤ 2199023255552) := Lib.hid (by omega)
    have hg := shFold_bd ps s (by omega) ps.length (by have := HRT.out; simp only [rightB, Bool.and_eq_true] at this; exact this.1)
    rw [List.take_length] at hg
    have hq0 : 0 ≤ q := by have := HQ.out; omega
    have HR : Hid (CkR (base + q / 1000000) lo hi d) := Lib.hid ⟨by omega, by omega, v1, v2, v3, h3, h4⟩
    clear hmost hq hg
    go_enter Try.func5, Try.ntmps5
    go_wp2_with (first
      | (go_at_call 26; refine (show_ok _ _ _ _ _ _ (HP.out.up (by (repeat (first | with_reducible exact Ext.refl _ | with_reducible refine Ext.drew ?_ | with_reducible refine Ext.drewN ?_ _ | with_reducible refine Ext.alloc ?_ _ | with_reducible refine Ext.onto ?_ _ | with_reducible refine Ext.setCell ?_ ?_ _)); all_goals (simp; try omega))) hb0 hb1 (by omega) (by omega) HRT.out q HQ _ (.inl ⟨HM.out, rfl⟩)).mono ?_; rintro e w' ⟨rfl, hxl⟩; obtain ⟨xl, rfl⟩ := hxl.asLater; clear hxl)
      | (go_at_call 10; refine (new_ok _ _ _ _ _ HR.out).mono ?_; rintro e w' ⟨rfl, hxl⟩; obtain ⟨xl, rfl⟩ := hxl.asLater; clear hxl)
      | (go_at_call 27; refine (follow_any _ _ _ _ _ _ _ _ _ _ _ _ _ _ _ _ HR.out hb0 hb1 HRT.out HOK.out (by omega) (by omega) h5 h6 (by rw [HQ2.out]) (HP.out.up (by (repeat (first | with_reducible exact Ext.refl _ | with_reducible refine Ext.drew ?_ | with_reducible refine Ext.drewN ?_ _ | with_reducible refine Ext.alloc ?_ _ | with_reducible refine Ext.onto ?_ _ | with_reducible refine Ext.setCell ?_ ?_ _)); all_goals (simp; try omega))) (HS.out.up (by (repeat (first | with_reducible exact Ext.refl _ | with_reducible refine Ext.drew ?_ | with_reducible refine Ext.drewN ?_ _ | with_reducible refine Ext.alloc ?_ _ | with_reducible refine Ext.onto ?_ _ | with_reducible refine Ext.setCell ?_ ?_ _)); all_goals (simp; try omega))) (HW.out.up (by (repeat (first | with_reducible exact Ext.refl _ | with_reducible refine Ext.drew ?_ | with_reducible refine Ext.drewN ?_ _ | with_reducible refine Ext.alloc ?_ _ | with_reducible refine Ext.onto ?_ _ | with_reducible refine Ext.setCell ?_ ?_ _)); all_goals (simp; try omega))) h7 hws HZB.out HWB.out).mono ?_; rintro e w' ⟨rfl, hxl⟩; obtain ⟨xl, rfl⟩ := hxl.asLater; clear hxl)
      | (go_at_call 24; refine (rhonest_any _ _ _ _ _ hm (HP.out.up (by (repeat (first | with_reducible exact Ext.refl _ | with_reducible refine Ext.drew ?_ | with_reducible refine Ext.drewN ?_ _ | with_reducible refine Ext.alloc ?_ _ | with_reducible refine Ext.onto ?_ _ | with_reducible refine Ext.setCell ?_ ?_ _)); all_goals (simp; try omega)))).mono ?_; rintro e w' ⟨rfl, rfl⟩; rw [HH.out])
      | (go_at_call 25; refine (rvalid_any _ _ _).mono ?_; rintro e w' ⟨rfl, hxl⟩; obtain ⟨xl, rfl⟩ := hxl.asLater; clear hxl; rw [HV.out])
      | (go_at_call 13; refine (sanity_any _).mono ?_; rintro e w' ⟨rfl, hxl⟩; obtain ⟨xl, rfl⟩ := hxl.asLater; clear hxl))
    go_ret
    exact ⟨rfl, (by (repeat (first | with_reducible exact Ext.refl _ | with_reducible refine Ext.drew ?_ | with_reducible refine Ext.drewN ?_ _ | with_reducible refine Ext.alloc ?_ _ | with_reducible refine Ext.onto ?_ _ | with_reducible refine Ext.setCell ?_ ?_ _)); all_goals (simp; try omega))⟩
end Go.Proofs.Ytkcclpomhniafaa
