/- follow, walked: the clock is followed through the instants. -/
import Derived.Test.YtkcclpomhniafaaRows
import Derived.Test.YtkcclpomhniafaaExt
import Derived.WalkKit
import Derived.WalkSpells
import Derived.WalkLawsBesides
import Derived.Deep.QuietTactic
import Derived.BigQuiet
import Derived.Test.YtkcclpomhniafaaCkD
import Derived.Test.YtkcclpomhniafaaCkG
import Derived.Test.YtkcclpomhniafaaCkM
import Derived.LoopTactic
set_option linter.unusedVariables false
set_option linter.unusedSimpArgs false
namespace Go.Proofs.Ytkcclpomhniafaa
open Go.RowKit

/-- A slice of integers that reads as a list, and lies below block B. -/
def IReads (w : World) (B : Nat) (A : Option Addr) (k : IntKind) (zs : List Int) : Prop :=
  0 < zs.length → ∃ b off, A = some ⟨b, off, none⟩ ∧ b < B ∧ ∀ i, i < zs.length → w.cell? ⟨b, off + i, none⟩ = some (.int k (zs.getD i 0))
theorem IReads.ext {w w' : World} {A : Option Addr} {k : IntKind} {zs : List Int} (h : IReads w w.heap.size A k zs) (hx : Ext w w') : IReads w' w.heap.size A k zs := by
  intro h0
  obtain ⟨b, off, e, hb, hc⟩ := h h0
  exact ⟨b, off, e, hb, fun i hi => (hx.cell (p := ⟨b, off + i, none⟩) hb).trans (hc i hi)⟩
theorem IReads.up {w w' : World} {A : Option Addr} {k : IntKind} {zs : List Int} (h : IReads w w.heap.size A k zs) (hx : Ext w w') : IReads w' w'.heap.size A k zs := by
  intro h0
  obtain ⟨b, off, e, hb, hc⟩ := h.ext hx h0
  exact ⟨b, off, e, by have := hx.size; omega, hc⟩

theorem set4 {w : World} {b : Nat} {t : TypeId} {a0 a1 a2 a3 : Value} (h : w.heap[b]? = some (.cells #[a0, a1, a2, a3] t (0, 0))) (b0 b1 b2 b3 : Value) :
    ((((w.setCell ⟨b, 0, none⟩ b0).setCell ⟨b, 1, none⟩ b1).setCell ⟨b, 2, none⟩ b2).setCell ⟨b, 3, none⟩ b3).heap[b]? = some (.cells #[b0, b1, b2, b3] t (0, 0)) := by
  simp [World.setCell, Array.getElem?_modify, h]
theorem block_ext {w w' : World} {b : Nat} {o : Obj} (h : w.heap[b]? = some o) (hx : Ext w w') : w'.heap[b]? = some o :=
  (hx.below.block b (Array.getElem?_eq_some_iff.1 h).1).trans h
theorem cells_of_block {w : World} {b : Nat} {cs : Array Value} {t : TypeId} (h : w.heap[b]? = some (.cells cs t (0, 0))) (i : Nat) : w.cell? ⟨b, i, none⟩ = cs[i]? := by simp [World.cell?, h]
theorem free_of_block {w : World} {b : Nat} {cs : Array Value} {t : TypeId} (h : w.heap[b]? = some (.cells cs t (0, 0))) (i : Nat) : w.frozen? ⟨b, i, none⟩ = false := by simp [World.frozen?, h]

/-- The relation of follow's loop. -/
def FolRel (ps : List (Int × Int)) (zs : List Int) (D base : Int) (w : World) (i tv : Value) (wr : World) : Prop :=
  ∃ (k : Nat) (t L lo hi s : Int), k ≤ zs.length ∧ i = .int .i64 k ∧ tv = .int .i64 t ∧ 0 ≤ s ∧ s ≤ t ∧ t ≤ 1099511627776 ∧ CkR L lo hi D ∧ lo ≤ s ∧ s ≤ hi ∧ L = base + shG ps s / 1000000 ∧ Ext w wr ∧
    wr.heap[w.heap.size]? = some (.cells #[.int .i64 L, .int .i64 lo, .int .i64 hi, .int .i64 D] 25 (0, 0))

/-- What Sync gives where both periods contain the instant. -/
theorem sync_contains {L lo hi D x a b t : Int} (hr : CkR L lo hi D) (hLx : L ≤ x) (hxm : x ≤ 2199023255552) (h1 : rdLo L lo D x ≤ t) (h2 : t ≤ rdHi L hi D x) (h3 : 0 ≤ a) (h4 : a ≤ t) (h5 : t ≤ b) (h6 : b ≤ 1099511627776) :
    vld a b = true ∧ meetIs (rdLo L lo D x) (rdHi L hi D x) a b = true ∧ CkR x (meetLo (rdLo L lo D x) (rdHi L hi D x) a b) (meetHi (rdLo L lo D x) (rdHi L hi D x) a b) D ∧
      meetLo (rdLo L lo D x) (rdHi L hi D x) a b ≤ t ∧ t ≤ meetHi (rdLo L lo D x) (rdHi L hi D x) a b := by
  obtain ⟨k1, k2, k3⟩ := rd_in hr hLx
  have hm : max (rdLo L lo D x) a ≤ min (rdHi L hi D x) b := by omega
  have hlo : meetLo (rdLo L lo D x) (rdHi L hi D x) a b = max (rdLo L lo D x) a := by unfold meetLo; rw [if_pos hm]
  have hhi : meetHi (rdLo L lo D x) (rdHi L hi D x) a b = min (rdHi L hi D x) b := by unfold meetHi; rw [if_pos hm]
  refine ⟨vld_iff.2 ⟨h3, by omega, h6⟩, by simp [meetIs]; omega, ?_, by omega, by omega⟩
  have h0 := hr.l0
  rw [hlo, hhi]
  exact ⟨by omega, hxm, by omega, by omega, by omega, hr.d0, hr.d1⟩

set_option maxRecDepth 100000 in
set_option maxHeartbeats 4000000 in
theorem follow_any (L0 lo0 hi0 D base t0 : Int) (A S Wd : Option Addr) (c cs cw : Nat) (ps : List (Int × Int)) (zs ws : List Int) (w : World)
    (hr : CkR L0 lo0 hi0 D) (hb0 : 0 ≤ base) (hb1 : base ≤ 1099511627776) (hR : rightB ps 100000 = true) (hok : ps.all (okPace D) = true) (h0 : 0 ≤ t0) (h1 : t0 ≤ 1099511627776) (hl : lo0 ≤ t0) (hh : t0 ≤ hi0)
    (hL : L0 = base + shG ps t0 / 1000000) (hP : PReads w w.heap.size A ps) (hS : IReads w w.heap.size S .u32 zs) (hW : IReads w w.heap.size Wd .u16 ws)
    (hzs : zs.length ≤ 100) (hws : ws.length ≤ 9223372036854775807) (hzb : ∀ i, i < zs.length → 0 ≤ zs.getD i 0 ∧ zs.getD i 0 ≤ 4294967295) (hwb : ∀ i, i < ws.length → 0 ≤ ws.getD i 0 ∧ ws.getD i 0 ≤ 65535) :
    Calls Try.prog 27 #[.agg #[.int .i64 L0, .int .i64 lo0, .int .i64 hi0, .int .i64 D], .int .i64 base, .slice A ps.length c, .int .i64 t0, .slice S zs.length cs, .slice Wd ws.length cw] w fun e w' => e = .returned (.bool true) ∧ Ext w w' := by
  have HP := Lib.hid hP
  have HS := Lib.hid hS
  have HW := Lib.hid hW
  have HRT := Lib.hid hR
  have HOK := Lib.hid hok
  have HZB := Lib.hid hzb
  have HWB := Lib.hid hwb
  have HRel : Hid (FolRel ps zs D base w (.int .i64 0) (.int .i64 t0) (w.alloc (.cells #[.int .i64 L0, .int .i64 lo0, .int .i64 hi0, .int .i64 D] 25))) :=
    Lib.hid ⟨0, t0, L0, lo0, hi0, t0, Nat.zero_le _, rfl, rfl, h0, Int.le_refl _, h1, hr, hl, hh, hL, (Ext.refl _).alloc _, by simpa using heap_alloc_new w _⟩
  have hlen : ps.length ≤ 100 := by simp [rightB] at hR; omega
  clear hP hS hW hR hok hzb hwb hL hl hh hr h0 h1
  go_enter Try.func27, Try.ntmps27
  go_wp2
  go_loopw [13, 3] (fun i tv wr => FolRel ps zs D base w i tv wr) (fun i _ _ => zs.length - (intOf i).toNat)
  case atStart => exact HRel.out
  case round =>
    obtain ⟨k, t, L, lo, hi, s, hk, rfl, rfl, hs0, hst, htm, hcr, hls, hsh, hLs, hx, hbl⟩ := hrel
    have HR := Lib.hid hcr
    have HX := Lib.hid hx
    have HBL := Lib.hid hbl
    have HLS := Lib.hid hLs
    have c0 := cells_of_block hbl 0
    have c1 := cells_of_block hbl 1
    have c2 := cells_of_block hbl 2
    have c3 := cells_of_block hbl 3
    have f0 := free_of_block hbl 0
    have f1 := free_of_block hbl 1
    have f2 := free_of_block hbl 2
    have f3 := free_of_block hbl 3
    have hlt : w.heap.size < wr.heap.size := (Array.getElem?_eq_some_iff.1 hbl).1
    simp only [List.getElem?_toArray, List.getElem?_cons_zero, List.getElem?_cons_succ] at c0 c1 c2 c3
    clear hcr hx hbl hLs HRel
    by_cases hkz : k < zs.length
    · obtain ⟨b, off, rfl, hb, hc⟩ := (HS.out.ext HX.out) (by omega)
      have hz := hc k hkz
      clear hc
      obtain ⟨z0, z1⟩ := HZB.out k hkz
      generalize zs.getD k 0 = z at hz z0 z1
      by_cases hbig : 1099511627776 < t + z
      · have HB : Hid (base < 0 ∨ 1099511627776 < base ∨ t + z < 0 ∨ 1099511627776 < t + z ∨ rightB ps 100000 = false) := Lib.hid (.inr (.inr (.inr (.inl hbig))))
        go_wp2_with (first
          | (go_at_call 26; refine (show_bad _ _ _ _ _ _ (by omega) (HP.out.up (HX.out.trans (by (repeat (first | with_reducible exact Ext.refl _ | with_reducible refine Ext.drew ?_ | with_reducible refine Ext.drewN ?_ _ | with_reducible refine Ext.alloc ?_ _ | with_reducible refine Ext.onto ?_ _ | with_reducible refine Ext.setCell ?_ ?_ _)); all_goals (simp; try omega)))) HB.out).mono ?_; rintro e w' ⟨rfl, hxl⟩; obtain ⟨xl, rfl⟩ := hxl.asLater; clear hxl)
          )
        go_ret
        exact ⟨rfl, HX.out.trans (by (repeat (first | with_reducible exact Ext.refl _ | with_reducible refine Ext.drew ?_ | with_reducible refine Ext.drewN ?_ _ | with_reducible refine Ext.alloc ?_ _ | with_reducible refine Ext.onto ?_ _ | with_reducible refine Ext.setCell ?_ ?_ _)); all_goals (simp; try omega))⟩
      · by_cases hmost : 2199023255552 < base + shG ps (t + z) / 1000000
        · have HV : Hid (2199023255552 < base + ((shFold ps (t + z)).1 + (shFold ps (t + z)).2 * 1000000) / 1000000) := Lib.hid (by rw [shFold_shG]; exact hmost)
          clear hmost
          go_wp2_with (first
            | (go_at_call 26; refine (show_ok _ _ _ _ _ _ (HP.out.up (HX.out.trans (by (repeat (first | with_reducible exact Ext.refl _ | with_reducible refine Ext.drew ?_ | with_reducible refine Ext.drewN ?_ _ | with_reducible refine Ext.alloc ?_ _ | with_reducible refine Ext.onto ?_ _ | with_reducible refine Ext.setCell ?_ ?_ _)); all_goals (simp; try omega)))) hb0 hb1 (by omega) (by omega) HRT.out _ (Lib.hid rfl) _ (.inr ⟨HV.out, rfl⟩)).mono ?_; rintro e w' ⟨rfl, hxl⟩; obtain ⟨xl, rfl⟩ := hxl.asLater; clear hxl)
            )
          go_ret
          exact ⟨rfl, HX.out.trans (by (repeat (first | with_reducible exact Ext.refl _ | with_reducible refine Ext.drew ?_ | with_reducible refine Ext.drewN ?_ _ | with_reducible refine Ext.alloc ?_ _ | with_reducible refine Ext.onto ?_ _ | with_reducible refine Ext.setCell ?_ ?_ _)); all_goals (simp; try omega))⟩
        · obtain ⟨q, hq⟩ : ∃ q, shG ps (t + z) = q := ⟨_, rfl⟩
          have HQ : Hid (((shFold ps (t + z)).1 + (shFold ps (t + z)).2 * 1000000) = q) := Lib.hid (by rw [shFold_shG]; exact hq)
          rw [hq] at hmost
          have HV : Hid (base + q / 1000000 ≤ 2199023255552) := Lib.hid (by omega)
          obtain ⟨hLx, hlo, hhi⟩ := contains ps L lo hi D base s (t + z) (base + q / 1000000) HR.out HOK.out hs0 (by omega) (by omega) HLS.out (by rw [hq]) hls hsh
          have hxm : base + q / 1000000 ≤ 2199023255552 := by omega
          have hl0 := HR.out.l0
          have HQ2 := Lib.hid hq
          clear hq
          by_cases hkw : k < ws.length
          · obtain ⟨b2, off2, rfl, hb2, hc2⟩ := (HW.out.ext HX.out) (by omega)
            have hwz := hc2 k hkw
            clear hc2
            obtain ⟨y0, y1⟩ := HWB.out k hkw
            generalize ws.getD k 0 = y at hwz y0 y1
            by_cases hodd : y % 2 = 1
            · have ho : (y % 2 == 1) = true := by simp [hodd]
              clear hodd
              have HSC : Hid (∀ a b, 0 ≤ a → a ≤ t + z → t + z ≤ b → b ≤ 1099511627776 → _) := Lib.hid (fun a b => sync_contains (a := a) (b := b) HR.out hLx hxm hlo hhi)
              have hg : (t + z - y % 100 < 0 ∧ ¬ 1099511627776 < t + z + y % 300) ∨ (¬ t + z - y % 100 < 0 ∧ 1099511627776 < t + z + y % 300) ∨ (¬ t + z - y % 100 < 0 ∧ ¬ 1099511627776 < t + z + y % 300) := by omega
              rcases hg with ⟨g1, g2⟩ | ⟨g1, g2⟩ | ⟨g1, g2⟩
              all_goals
                go_wp2_with (first
                  | (go_at_call 26; refine (show_ok _ _ _ _ _ _ (HP.out.up (HX.out.trans (by (repeat (first | with_reducible exact Ext.refl _ | with_reducible refine Ext.drew ?_ | with_reducible refine Ext.drewN ?_ _ | with_reducible refine Ext.alloc ?_ _ | with_reducible refine Ext.onto ?_ _ | with_reducible refine Ext.setCell ?_ ?_ _)); all_goals (simp; try omega)))) hb0 hb1 (by omega) (by omega) HRT.out q HQ _ (.inl ⟨HV.out, rfl⟩)).mono ?_; rintro e w' ⟨rfl, hxl⟩; obtain ⟨xl, rfl⟩ := hxl.asLater; clear hxl)
                  | (go_at_call 14; refine (read_ok _ _ _ _ _ _ HR.out.l0 HR.out.a HR.out.b HR.out.c HR.out.d0 HR.out.d1 hLx hxm).mono ?_; rintro e w' ⟨rfl, hxl⟩; obtain ⟨xl, rfl⟩ := hxl.asLater; clear hxl)
                  | (go_at_call 16; refine (sync_ok _ _ _ _ _ _ _ _ (HSC.out _ _ (by omega) (by omega) (by omega) (by omega)).1 HR.out hLx hxm (HSC.out _ _ (by omega) (by omega) (by omega) (by omega)).2.1).mono ?_; rintro e w' ⟨rfl, hxl⟩; obtain ⟨xl, rfl⟩ := hxl.asLater; clear hxl))
                go_roundw
                case rel =>
                  refine ⟨k + 1, t + z, _, _, _, t + z, by omega, by go_num, rfl, by omega, by omega, by omega, (HSC.out _ _ (by omega) (by omega) (by omega) (by omega)).2.2.1, (HSC.out _ _ (by omega) (by omega) (by omega) (by omega)).2.2.2.1, (HSC.out _ _ (by omega) (by omega) (by omega) (by omega)).2.2.2.2, by rw [HQ2.out], (by (repeat (first | with_reducible exact HX.out | with_reducible refine Ext.drew ?_ | with_reducible refine Ext.drewN ?_ _ | with_reducible refine Ext.alloc ?_ _ | with_reducible refine Ext.onto ?_ _ | with_reducible refine Ext.setCell ?_ ?_ _)); all_goals (simp; try omega)), set4 (block_ext HBL.out (by (repeat (first | with_reducible exact Ext.refl _ | with_reducible refine Ext.drew ?_ | with_reducible refine Ext.drewN ?_ _ | with_reducible refine Ext.alloc ?_ _ | with_reducible refine Ext.onto ?_ _ | with_reducible refine Ext.setCell ?_ ?_ _)); all_goals (simp; try omega))) _ _ _ _⟩
                case measure => simp [intOf]; omega
            · have ho : (y % 2 == 1) = false := by simp [hodd]
              clear hodd
              go_wp2_with (first
                | (go_at_call 26; refine (show_ok _ _ _ _ _ _ (HP.out.up (HX.out.trans (by (repeat (first | with_reducible exact Ext.refl _ | with_reducible refine Ext.drew ?_ | with_reducible refine Ext.drewN ?_ _ | with_reducible refine Ext.alloc ?_ _ | with_reducible refine Ext.onto ?_ _ | with_reducible refine Ext.setCell ?_ ?_ _)); all_goals (simp; try omega)))) hb0 hb1 (by omega) (by omega) HRT.out q HQ _ (.inl ⟨HV.out, rfl⟩)).mono ?_; rintro e w' ⟨rfl, hxl⟩; obtain ⟨xl, rfl⟩ := hxl.asLater; clear hxl)
                | (go_at_call 14; refine (read_ok _ _ _ _ _ _ HR.out.l0 HR.out.a HR.out.b HR.out.c HR.out.d0 HR.out.d1 hLx hxm).mono ?_; rintro e w' ⟨rfl, hxl⟩; obtain ⟨xl, rfl⟩ := hxl.asLater; clear hxl))
              go_roundw
              case rel => exact ⟨k + 1, t + z, L, lo, hi, s, by omega, by go_num, rfl, hs0, by omega, by omega, HR.out, hls, hsh, HLS.out, HX.out.trans (by (repeat (first | with_reducible exact Ext.refl _ | with_reducible refine Ext.drew ?_ | with_reducible refine Ext.drewN ?_ _ | with_reducible refine Ext.alloc ?_ _ | with_reducible refine Ext.onto ?_ _ | with_reducible refine Ext.setCell ?_ ?_ _)); all_goals (simp; try omega)), block_ext HBL.out (by (repeat (first | with_reducible exact Ext.refl _ | with_reducible refine Ext.drew ?_ | with_reducible refine Ext.drewN ?_ _ | with_reducible refine Ext.alloc ?_ _ | with_reducible refine Ext.onto ?_ _ | with_reducible refine Ext.setCell ?_ ?_ _)); all_goals (simp; try omega))⟩
              case measure => simp [intOf]; omega
          · go_wp2_with (first
              | (go_at_call 26; refine (show_ok _ _ _ _ _ _ (HP.out.up (HX.out.trans (by (repeat (first | with_reducible exact Ext.refl _ | with_reducible refine Ext.drew ?_ | with_reducible refine Ext.drewN ?_ _ | with_reducible refine Ext.alloc ?_ _ | with_reducible refine Ext.onto ?_ _ | with_reducible refine Ext.setCell ?_ ?_ _)); all_goals (simp; try omega)))) hb0 hb1 (by omega) (by omega) HRT.out q HQ _ (.inl ⟨HV.out, rfl⟩)).mono ?_; rintro e w' ⟨rfl, hxl⟩; obtain ⟨xl, rfl⟩ := hxl.asLater; clear hxl)
              | (go_at_call 14; refine (read_ok _ _ _ _ _ _ HR.out.l0 HR.out.a HR.out.b HR.out.c HR.out.d0 HR.out.d1 hLx hxm).mono ?_; rintro e w' ⟨rfl, hxl⟩; obtain ⟨xl, rfl⟩ := hxl.asLater; clear hxl))
            go_roundw
            case rel => exact ⟨k + 1, t + z, L, lo, hi, s, by omega, by go_num, rfl, hs0, by omega, by omega, HR.out, hls, hsh, HLS.out, HX.out.trans (by (repeat (first | with_reducible exact Ext.refl _ | with_reducible refine Ext.drew ?_ | with_reducible refine Ext.drewN ?_ _ | with_reducible refine Ext.alloc ?_ _ | with_reducible refine Ext.onto ?_ _ | with_reducible refine Ext.setCell ?_ ?_ _)); all_goals (simp; try omega)), block_ext HBL.out (by (repeat (first | with_reducible exact Ext.refl _ | with_reducible refine Ext.drew ?_ | with_reducible refine Ext.drewN ?_ _ | with_reducible refine Ext.alloc ?_ _ | with_reducible refine Ext.onto ?_ _ | with_reducible refine Ext.setCell ?_ ?_ _)); all_goals (simp; try omega))⟩
            case measure => simp [intOf]; omega
    · go_wp2
      go_ret
      exact ⟨rfl, HX.out⟩
end Go.Proofs.Ytkcclpomhniafaa
