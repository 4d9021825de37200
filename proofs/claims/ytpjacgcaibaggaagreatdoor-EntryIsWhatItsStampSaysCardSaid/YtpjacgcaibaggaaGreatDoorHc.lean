/- Walks of the hash: one block. -/
import Derived.Test.YtpjacgcaibaggaaGreatDoorProg
import Derived.Test.YtpjacgcaibaggaaGreatDoorExt
import Derived.WalkKit
import Derived.WalkSpells
import Derived.WalkLawsBesides
import Derived.Deep.QuietTactic
import Derived.BigQuiet
import Derived.Test.YtpjacgcaibaggaaGreatDoorHb
import Derived.Test.YtpjacgcaibaggaaGreatDoorShb
import Derived.Deep.CutRange
import Derived.BigRegion
set_option linter.unusedVariables false
set_option linter.unusedSimpArgs false
namespace Go.Proofs.YtpjacgcaibaggaaGreatDoor
open Go.RowKit
open Go.Proofs

/-- The table of the round constants, in memory. -/
def Konst (g : Nat) (w : World) : Prop := RowAt w g (cells32 Sha.K)
theorem K_length : Sha.K.length = 64 := rfl

set_option maxRecDepth 100000 in
set_option maxHeartbeats 4000000 in
theorem compress_ok (s : Sha.S8) (bs : List Int) (b off c : Nat) (w : World) (hs : s.ok) (hk : Konst 0 w) (hcap : 64 ≤ c) (hb : b < w.heap.size) (hby : ∀ i, i < 64 → 0 ≤ bs.getD i 0 ∧ bs.getD i 0 < 256) (hc : ∀ i, i < 64 → w.cell? ⟨b, off + i, none⟩ = some (.int .u8 (bs.getD i 0))) :
    Calls Tryz.prog 125 #[.agg (cells32 (s8l s)), .slice (some ⟨b, off, none⟩) 64 c] w fun e w' => e = .returned (.agg (cells32 (s8l (Sha.comp s bs)))) ∧ Ext w w' := by
  have HC := Lib.hid hc
  have HB := Lib.hid hby
  have HK := Lib.hid hk
  have HS := Lib.hid hs
  have hgl := hk.lt
  have hgr : rowOf w 0 0 64 = some (cells32 Sha.K) := by rw [hk.row, if_neg (by omega), cells32_sub _ _ K_length.symm]
  clear hc hby hk hs
  go_enter Tryz.func125, Tryz.ntmps125
  go_upto_region 2 with (go_at_call 163; refine (schedule_ok bs b off c _ hcap (by simp; omega) HB.out (fun i hi => by simp only [go_sem]; rw [if_neg (by simp; omega), if_neg (by omega)]; exact HC.out i hi)).mono ?_; rintro e w' ⟨rfl, hxl⟩; obtain ⟨xl, rfl⟩ := hxl.asLater; clear hxl)
  refine wp_world (fun W => W.heap.size = w.heap.size + 3 + xl.n ∧ Ext w W ∧ RowAt W w.heap.size (cells32 (s8l s)) ∧ RowAt W (w.heap.size + 1) (cells32 (zeros32 8)) ∧ RowAt W (w.heap.size + 1 + 1 + xl.n) (cells32 (Sha.sched bs)))
    ⟨by simp [setCells_size, later_size]; omega, (by (repeat (first | with_reducible exact Ext.refl _ | with_reducible exact Ext.refl _ | with_reducible refine Ext.drew ?_ | with_reducible refine Ext.drewN ?_ _ | with_reducible refine Ext.alloc ?_ _ | with_reducible refine Ext.onto ?_ _ | (with_reducible refine Ext.setCells ?_ ?_ _ _; rotate_left; focus (first | omega | (simp; done) | (simp; omega))) | (with_reducible refine Ext.setCell ?_ ?_ _; rotate_left; focus (first | omega | (simp; done) | (simp; omega)))))), (by (repeat (first | with_reducible exact rfl | with_reducible refine RowAt.drew ?_ | with_reducible refine RowAt.later ?_ _ | with_reducible exact RowAt.newAt (by first | rfl | omega | (simp [later_size, setCells_size]; done) | (simp [later_size, setCells_size]; omega)) | with_reducible refine RowAt.alloc ?_ _ | with_reducible apply RowAt.store | with_reducible refine RowAt.others ?_ ?_ _ _ | with_reducible refine RowAt.other ?_ ?_ _)); all_goals first | omega | (simp; done) | (simp; omega) | (simp [go_sem]; done)), (by (repeat (first | with_reducible exact rfl | with_reducible refine RowAt.drew ?_ | with_reducible refine RowAt.later ?_ _ | with_reducible exact RowAt.newAt (by first | rfl | omega | (simp [later_size, setCells_size]; done) | (simp [later_size, setCells_size]; omega)) | with_reducible refine RowAt.alloc ?_ _ | with_reducible apply RowAt.store | with_reducible refine RowAt.others ?_ ?_ _ _ | with_reducible refine RowAt.other ?_ ?_ _)); all_goals first | omega | (simp; done) | (simp; omega) | (simp [go_sem]; done)), (by (repeat (first | with_reducible exact rfl | with_reducible refine RowAt.drew ?_ | with_reducible refine RowAt.later ?_ _ | with_reducible exact RowAt.newAt (by first | rfl | omega | (simp [later_size, setCells_size]; done) | (simp [later_size, setCells_size]; omega)) | with_reducible refine RowAt.alloc ?_ _ | with_reducible apply RowAt.store | with_reducible refine RowAt.others ?_ ?_ _ _ | with_reducible refine RowAt.other ?_ ?_ _)); all_goals first | omega | (simp; done) | (simp; omega) | (simp [go_sem]; done))⟩ ?_
  rintro W ⟨hsz, hx, h1, h2, h3⟩
  have HX := Lib.hid hx
  have H1 := Lib.hid h1
  have H2 := Lib.hid h2
  have H3 := Lib.hid h3
  have r1 := h1.row
  have hgr' : rowOf W 0 0 64 = some (cells32 Sha.K) := (HK.out.ext hx).all (by rw [cells32_size, K_length]) (by omega)
  clear hx h1 h2 h3 hgr
  go_region
  ·
    go_wp2
    go_loopw [22] (fun i wr => ∃ t : Nat, t ≤ 64 ∧ i = .int .i64 t ∧ Ext w wr ∧ RowAt wr w.heap.size (cells32 (s8l s)) ∧ RowAt wr (w.heap.size + 1) (cells32 (zeros32 8)) ∧ RowAt wr (w.heap.size + 1 + 1 + xl.n) (cells32 (Sha.sched bs)) ∧
      RowAt wr (w.heap.size + 3 + xl.n) (cells32 (v4l (Sha.rounds (Sha.sched bs) s t))) ∧ RowAt wr (w.heap.size + 3 + xl.n + 1) (cells32 (e4l (Sha.rounds (Sha.sched bs) s t)))) (fun i _ => 64 - (intOf i).toNat)
    case atStart => exact ⟨0, by omega, rfl, (by (repeat (first | with_reducible exact HX.out | with_reducible exact Ext.refl _ | with_reducible refine Ext.drew ?_ | with_reducible refine Ext.drewN ?_ _ | with_reducible refine Ext.alloc ?_ _ | with_reducible refine Ext.onto ?_ _ | (with_reducible refine Ext.setCells ?_ ?_ _ _; rotate_left; focus (first | omega | (simp; done) | (simp; omega))) | (with_reducible refine Ext.setCell ?_ ?_ _; rotate_left; focus (first | omega | (simp; done) | (simp; omega)))))), (by (repeat (first | with_reducible exact H1.out | with_reducible refine RowAt.drew ?_ | with_reducible refine RowAt.later ?_ _ | with_reducible exact RowAt.newAt (by first | rfl | omega | (simp [later_size, setCells_size]; done) | (simp [later_size, setCells_size]; omega)) | with_reducible refine RowAt.alloc ?_ _ | with_reducible apply RowAt.store | with_reducible refine RowAt.others ?_ ?_ _ _ | with_reducible refine RowAt.other ?_ ?_ _)); all_goals first | omega | (simp; done) | (simp; omega) | (simp [go_sem]; done)), (by (repeat (first | with_reducible exact H2.out | with_reducible refine RowAt.drew ?_ | with_reducible refine RowAt.later ?_ _ | with_reducible exact RowAt.newAt (by first | rfl | omega | (simp [later_size, setCells_size]; done) | (simp [later_size, setCells_size]; omega)) | with_reducible refine RowAt.alloc ?_ _ | with_reducible apply RowAt.store | with_reducible refine RowAt.others ?_ ?_ _ _ | with_reducible refine RowAt.other ?_ ?_ _)); all_goals first | omega | (simp; done) | (simp; omega) | (simp [go_sem]; done)), (by (repeat (first | with_reducible exact H3.out | with_reducible refine RowAt.drew ?_ | with_reducible refine RowAt.later ?_ _ | with_reducible exact RowAt.newAt (by first | rfl | omega | (simp [later_size, setCells_size]; done) | (simp [later_size, setCells_size]; omega)) | with_reducible refine RowAt.alloc ?_ _ | with_reducible apply RowAt.store | with_reducible refine RowAt.others ?_ ?_ _ _ | with_reducible refine RowAt.other ?_ ?_ _)); all_goals first | omega | (simp; done) | (simp; omega) | (simp [go_sem]; done)), (show RowAt _ _ (cells32 (v4l s)) from (by (repeat (first | with_reducible exact rfl | with_reducible refine RowAt.drew ?_ | with_reducible refine RowAt.later ?_ _ | with_reducible exact RowAt.newAt (by first | rfl | omega | (simp [later_size, setCells_size]; done) | (simp [later_size, setCells_size]; omega)) | with_reducible refine RowAt.alloc ?_ _ | with_reducible refine RowAt.store (cs := cells32 (zeros32 4)) ?_ ?_ | with_reducible refine RowAt.others ?_ ?_ _ _ | with_reducible refine RowAt.other ?_ ?_ _)); all_goals first | omega | (simp; done) | (simp; omega) | (simp [go_sem]; done))), (show RowAt _ _ (cells32 (e4l s)) from (by (repeat (first | with_reducible exact rfl | with_reducible refine RowAt.drew ?_ | with_reducible refine RowAt.later ?_ _ | with_reducible exact RowAt.newAt (by first | rfl | omega | (simp [later_size, setCells_size]; done) | (simp [later_size, setCells_size]; omega)) | with_reducible refine RowAt.alloc ?_ _ | with_reducible refine RowAt.store (cs := cells32 (zeros32 4)) ?_ ?_ | with_reducible refine RowAt.others ?_ ?_ _ _ | with_reducible refine RowAt.other ?_ ?_ _)); all_goals first | omega | (simp; done) | (simp; omega) | (simp [go_sem]; done)))⟩
    case round =>
      obtain ⟨t, ht, rfl, hx, h1, h2, h3, h4, h5⟩ := hrel
      have HX' := Lib.hid hx
      have H1' := Lib.hid h1
      have H2' := Lib.hid h2
      have H3' := Lib.hid h3
      have H4' := Lib.hid h4
      have H5' := Lib.hid h5
      by_cases h64 : t < 64
      · have hR := Lib.hid (show Sha.rounds (Sha.sched bs) s (t + 1) = Sha.rnd (Sha.K.getD t 0) ((Sha.sched bs).getD t 0) (Sha.rounds (Sha.sched bs) s t) from rfl)
        have hO := Lib.hid (Sha.rounds_ok HS.out (Sha.sched bs) t)
        have hcw : wr.cell? ⟨w.heap.size + 1 + 1 + xl.n, t, none⟩ = some (.int .u32 ((Sha.sched bs).getD t 0)) := by rw [h3.cell, cells32_get, Sha.sched_length, if_pos h64]
        have hck : (cells32 Sha.K)[t]? = some (.int .u32 (Sha.K.getD t 0)) := by rw [cells32_get, K_length, if_pos h64]
        have hix : ∀ W', (Instr.index 222 (.agg (cells32 Sha.K)) (.int .i64 (t : Int))).run Tryz.prog W' = .ok (.int .u32 (Sha.K.getD t 0)) W' := run_index_arr (e := 144) (k := .u32) (by kernel_rfl) (by kernel_rfl) (by kernel_rfl) _ t _ h64 hck
        clear hck
        generalize Sha.rounds (Sha.sched bs) s t = r at *
        generalize (Sha.sched bs).getD t 0 = wt at *
        generalize Sha.K.getD t 0 = kt at *
        have v0 : wr.cell? ⟨w.heap.size + 3 + xl.n, 0, none⟩ = some (.int .u32 r.a) := h4.cell 0
        have v1 : wr.cell? ⟨w.heap.size + 3 + xl.n, 1, none⟩ = some (.int .u32 r.b) := h4.cell 1
        have v2 : wr.cell? ⟨w.heap.size + 3 + xl.n, 2, none⟩ = some (.int .u32 r.c) := h4.cell 2
        have v3 : wr.cell? ⟨w.heap.size + 3 + xl.n, 3, none⟩ = some (.int .u32 r.d) := h4.cell 3
        have e0 : wr.cell? ⟨w.heap.size + 3 + xl.n + 1, 0, none⟩ = some (.int .u32 r.e) := h5.cell 0
        have e1 : wr.cell? ⟨w.heap.size + 3 + xl.n + 1, 1, none⟩ = some (.int .u32 r.f) := h5.cell 1
        have e2 : wr.cell? ⟨w.heap.size + 3 + xl.n + 1, 2, none⟩ = some (.int .u32 r.g) := h5.cell 2
        have e3 : wr.cell? ⟨w.heap.size + 3 + xl.n + 1, 3, none⟩ = some (.int .u32 r.h) := h5.cell 3
        have mv : roomOf wr (w.heap.size + 3 + xl.n) 0 4 = true := by rw [h4.room]; rfl
        have me : roomOf wr (w.heap.size + 3 + xl.n + 1) 0 4 = true := by rw [h5.room]; rfl
        have lv := h4.lt
        have le := h5.lt
        have lw := h3.lt
        clear hx h1 h2 h3 h4 h5
        go_wp2
        refine wp_region_later (by kernel_rfl) (by kernel_rfl) ?_
        repeat (first | go_big_quiet_step ((go_at_call 164; exact quietS (mix_ok _ 6 11 25 (by omega) (by omega) (by omega) _))) | quiet_step ((go_at_call 164; exact quietS (mix_ok _ 6 11 25 (by omega) (by omega) (by omega) _))))
        refine wpQuiet_nil ?_
        rintro _ ⟨xq, rfl⟩
        go_wp2
        refine wp_region_later (by kernel_rfl) (by kernel_rfl) ?_
        repeat (first | go_big_quiet_step ((go_at_call 164; exact quietS (mix_ok _ 2 13 22 (by omega) (by omega) (by omega) _))) | quiet_step ((go_at_call 164; exact quietS (mix_ok _ 2 13 22 (by omega) (by omega) (by omega) _))))
        refine wpQuiet_nil ?_
        rintro _ ⟨xq, rfl⟩
        go_wp2
        go_roundw
        case rel =>
          refine ⟨t + 1, by omega, by go_num, (by (repeat (first | with_reducible exact HX'.out | with_reducible exact Ext.refl _ | with_reducible refine Ext.drew ?_ | with_reducible refine Ext.drewN ?_ _ | with_reducible refine Ext.alloc ?_ _ | with_reducible refine Ext.onto ?_ _ | (with_reducible refine Ext.setCells ?_ ?_ _ _; rotate_left; focus (first | omega | (simp; done) | (simp; omega))) | (with_reducible refine Ext.setCell ?_ ?_ _; rotate_left; focus (first | omega | (simp; done) | (simp; omega)))))), (by (repeat (first | with_reducible exact H1'.out | with_reducible refine RowAt.drew ?_ | with_reducible refine RowAt.later ?_ _ | with_reducible exact RowAt.newAt (by first | rfl | omega | (simp [later_size, setCells_size]; done) | (simp [later_size, setCells_size]; omega)) | with_reducible refine RowAt.alloc ?_ _ | with_reducible apply RowAt.store | with_reducible refine RowAt.others ?_ ?_ _ _ | with_reducible refine RowAt.other ?_ ?_ _)); all_goals first | omega | (simp; done) | (simp; omega) | (simp [go_sem]; done)), (by (repeat (first | with_reducible exact H2'.out | with_reducible refine RowAt.drew ?_ | with_reducible refine RowAt.later ?_ _ | with_reducible exact RowAt.newAt (by first | rfl | omega | (simp [later_size, setCells_size]; done) | (simp [later_size, setCells_size]; omega)) | with_reducible refine RowAt.alloc ?_ _ | with_reducible apply RowAt.store | with_reducible refine RowAt.others ?_ ?_ _ _ | with_reducible refine RowAt.other ?_ ?_ _)); all_goals first | omega | (simp; done) | (simp; omega) | (simp [go_sem]; done)), (by (repeat (first | with_reducible exact H3'.out | with_reducible refine RowAt.drew ?_ | with_reducible refine RowAt.later ?_ _ | with_reducible exact RowAt.newAt (by first | rfl | omega | (simp [later_size, setCells_size]; done) | (simp [later_size, setCells_size]; omega)) | with_reducible refine RowAt.alloc ?_ _ | with_reducible apply RowAt.store | with_reducible refine RowAt.others ?_ ?_ _ _ | with_reducible refine RowAt.other ?_ ?_ _)); all_goals first | omega | (simp; done) | (simp; omega) | (simp [go_sem]; done)), ?_, ?_⟩
          · rw [hR.out]
            with_reducible refine RowAt.lay (cs := cells32 (v4l r)) ?_ ?_ ?_
            · exact (by (repeat (first | with_reducible exact H4'.out | with_reducible refine RowAt.drew ?_ | with_reducible refine RowAt.later ?_ _ | with_reducible exact RowAt.newAt (by first | rfl | omega | (simp [later_size, setCells_size]; done) | (simp [later_size, setCells_size]; omega)) | with_reducible refine RowAt.alloc ?_ _ | with_reducible apply RowAt.store | with_reducible refine RowAt.others ?_ ?_ _ _ | with_reducible refine RowAt.other ?_ ?_ _)); all_goals first | omega | (simp; done) | (simp; omega) | (simp [go_sem]; done))
            · rfl
            · refine congrArg (fun x => #[Value.int .u32 x, .int .u32 r.a, .int .u32 r.b, .int .u32 r.c]) ?_
              simp only [max_xor, Sha.rnd, Sha.add, Sha.rx, Sha.ry, Sha.ch, Sha.maj, Sha.xor, Sha.and]
              omega
          · rw [hR.out]
            with_reducible refine RowAt.others ?_ ?_ _ _
            · with_reducible refine RowAt.lay (cs := cells32 (e4l r)) ?_ ?_ ?_
              · exact (by (repeat (first | with_reducible exact H5'.out | with_reducible refine RowAt.drew ?_ | with_reducible refine RowAt.later ?_ _ | with_reducible exact RowAt.newAt (by first | rfl | omega | (simp [later_size, setCells_size]; done) | (simp [later_size, setCells_size]; omega)) | with_reducible refine RowAt.alloc ?_ _ | with_reducible apply RowAt.store | with_reducible refine RowAt.others ?_ ?_ _ _ | with_reducible refine RowAt.other ?_ ?_ _)); all_goals first | omega | (simp; done) | (simp; omega) | (simp [go_sem]; done))
              · rfl
              · refine congrArg (fun x => #[Value.int .u32 x, .int .u32 r.e, .int .u32 r.f, .int .u32 r.g]) ?_
                simp only [max_xor, Sha.rnd, Sha.add, Sha.rx, Sha.ry, Sha.ch, Sha.maj, Sha.xor, Sha.and]
                omega
            · omega
        case measure => simp [intOf]; omega
      · have e64 : t = 64 := by omega
        subst e64
        have HQ := Lib.hid (show Sha.comp s bs = Sha.addS s (Sha.rounds (Sha.sched bs) s 64) from rfl)
        clear hx h1 h2 h3 h4 h5
        generalize Sha.rounds (Sha.sched bs) s 64 = q at HQ H4' H5'
        go_wp2
        go_loopw [94] (fun i wr => ∃ k : Nat, k ≤ 4 ∧ i = .int .i64 k ∧ Ext w wr ∧ RowAt wr w.heap.size (cells32 (s8l (upd s q k))) ∧ RowAt wr (w.heap.size + 1) (cells32 (zeros32 8)) ∧ RowAt wr (w.heap.size + 3 + xl.n) (cells32 (v4l q)) ∧ RowAt wr (w.heap.size + 3 + xl.n + 1) (cells32 (e4l q))) (fun i _ => 4 - (intOf i).toNat)
        case atStart => exact ⟨0, by omega, rfl, HX'.out, H1'.out, H2'.out, H4'.out, H5'.out⟩
        case round =>
          obtain ⟨k, hk, rfl, hx, h1, h2, h4, h5⟩ := hrel
          have HX2 := Lib.hid hx
          have HA := Lib.hid h1
          have HB2 := Lib.hid h2
          have HV := Lib.hid h4
          have HE := Lib.hid h5
          by_cases hk4 : k < 4
          · have c1 : wr.cell? ⟨w.heap.size, k, none⟩ = some (.int .u32 ((s8l (upd s q k)).getD k 0)) := by rw [h1.cell, cells32_get, s8l_length, if_pos (by omega)]
            have c2 : wr.cell? ⟨w.heap.size, k + 4, none⟩ = some (.int .u32 ((s8l (upd s q k)).getD (k + 4) 0)) := by rw [h1.cell, cells32_get, s8l_length, if_pos (by omega)]
            have c3 : wr.cell? ⟨w.heap.size + 3 + xl.n, k, none⟩ = some (.int .u32 ((v4l q).getD k 0)) := by rw [h4.cell, cells32_get, v4l_length, if_pos (by omega)]
            have c4 : wr.cell? ⟨w.heap.size + 3 + xl.n + 1, k, none⟩ = some (.int .u32 ((e4l q).getD k 0)) := by rw [h5.cell, cells32_get, e4l_length, if_pos (by omega)]
            have f1 : ∀ i, wr.frozen? ⟨w.heap.size, i, none⟩ = false := h1.free
            have l1 := h1.lt
            have l4 := h4.lt
            have l5 := h5.lt
            have HU := Lib.hid (upd_step s q k hk4)
            generalize (s8l (upd s q k)).getD k 0 = a1 at c1 HU
            generalize (s8l (upd s q k)).getD (k + 4) 0 = a2 at c2 HU
            generalize (v4l q).getD k 0 = a3 at c3 HU
            generalize (e4l q).getD k 0 = a4 at c4 HU
            clear hx h1 h2 h4 h5
            go_wp2
            refine wp_region_later_tail 8 (by kernel_rfl) (by kernel_rfl) ?_
            simp only [List.take_succ_cons, List.take_zero, List.drop_succ_cons, List.drop_zero]
            repeat (first | go_big_quiet_step (fail) | quiet_step (fail))
            refine wpQuiet_nil ?_
            rintro _ ⟨xq, rfl⟩
            go_wp2
            refine wp_region_later_tail 9 (by kernel_rfl) (by kernel_rfl) ?_
            simp only [List.take_succ_cons, List.take_zero, List.drop_succ_cons, List.drop_zero]
            repeat (first | go_big_quiet_step (fail) | quiet_step (fail))
            refine wpQuiet_nil ?_
            rintro _ ⟨xq, rfl⟩
            go_wp2
            go_roundw
            case rel => exact ⟨k + 1, by omega, by go_num, (by (repeat (first | with_reducible exact HX2.out | with_reducible exact Ext.refl _ | with_reducible refine Ext.drew ?_ | with_reducible refine Ext.drewN ?_ _ | with_reducible refine Ext.alloc ?_ _ | with_reducible refine Ext.onto ?_ _ | (with_reducible refine Ext.setCells ?_ ?_ _ _; rotate_left; focus (first | omega | (simp; done) | (simp; omega))) | (with_reducible refine Ext.setCell ?_ ?_ _; rotate_left; focus (first | omega | (simp; done) | (simp; omega)))))), (((HA.out.later _).set32 rfl).later _).set32 HU.out, (by (repeat (first | with_reducible exact HB2.out | with_reducible refine RowAt.drew ?_ | with_reducible refine RowAt.later ?_ _ | with_reducible exact RowAt.newAt (by first | rfl | omega | (simp [later_size, setCells_size]; done) | (simp [later_size, setCells_size]; omega)) | with_reducible refine RowAt.alloc ?_ _ | with_reducible apply RowAt.store | with_reducible refine RowAt.others ?_ ?_ _ _ | with_reducible refine RowAt.other ?_ ?_ _)); all_goals first | omega | (simp; done) | (simp; omega) | (simp [go_sem]; done)), (by (repeat (first | with_reducible exact HV.out | with_reducible refine RowAt.drew ?_ | with_reducible refine RowAt.later ?_ _ | with_reducible exact RowAt.newAt (by first | rfl | omega | (simp [later_size, setCells_size]; done) | (simp [later_size, setCells_size]; omega)) | with_reducible refine RowAt.alloc ?_ _ | with_reducible apply RowAt.store | with_reducible refine RowAt.others ?_ ?_ _ _ | with_reducible refine RowAt.other ?_ ?_ _)); all_goals first | omega | (simp; done) | (simp; omega) | (simp [go_sem]; done)), (by (repeat (first | with_reducible exact HE.out | with_reducible refine RowAt.drew ?_ | with_reducible refine RowAt.later ?_ _ | with_reducible exact RowAt.newAt (by first | rfl | omega | (simp [later_size, setCells_size]; done) | (simp [later_size, setCells_size]; omega)) | with_reducible refine RowAt.alloc ?_ _ | with_reducible apply RowAt.store | with_reducible refine RowAt.others ?_ ?_ _ _ | with_reducible refine RowAt.other ?_ ?_ _)); all_goals first | omega | (simp; done) | (simp; omega) | (simp [go_sem]; done))⟩
            case measure => simp [intOf]; omega
          · have e4 : k = 4 := by omega
            subst e4
            have e5 : Sha.comp s bs = upd s q 4 := HQ.out
            have HE5 := Lib.hid e5
            have r8 : rowOf wr w.heap.size 0 8 = some (cells32 (s8l (upd s q 4))) := h1.all (by rw [cells32_size, s8l_length]) (by omega)
            have m8 : roomOf wr (w.heap.size + 1) 0 8 = true := by rw [h2.room]; rfl
            have l1 := h1.lt
            have l2 := h2.lt
            have rr := Lib.hid (h2.stored (n := 8) (ds := cells32 (s8l (upd s q 4))) (by rw [cells32_size, cells32_size, s8l_length, zeros32_length]) (by rw [cells32_size, s8l_length]) (by omega))
            clear hx h1 h2 h4 h5 e5
            go_wp2
            refine post_row w8_ty Tryz.results125 rfl rfl rr.out ⟨by rw [HE5.out], (by (repeat (first | with_reducible exact HX2.out | with_reducible exact Ext.refl _ | with_reducible refine Ext.drew ?_ | with_reducible refine Ext.drewN ?_ _ | with_reducible refine Ext.alloc ?_ _ | with_reducible refine Ext.onto ?_ _ | (with_reducible refine Ext.setCells ?_ ?_ _ _; rotate_left; focus (first | omega | (simp; done) | (simp; omega))) | (with_reducible refine Ext.setCell ?_ ?_ _; rotate_left; focus (first | omega | (simp; done) | (simp; omega))))))⟩
  ·
    go_wp2
    go_loopw [22] (fun i wr => ∃ t : Nat, t ≤ 64 ∧ i = .int .i64 t ∧ Ext w wr ∧ RowAt wr w.heap.size (cells32 (s8l s)) ∧ RowAt wr (w.heap.size + 1) (cells32 (zeros32 8)) ∧ RowAt wr (w.heap.size + 1 + 1 + xl.n) (cells32 (Sha.sched bs)) ∧
      RowAt wr (w.heap.size + 3 + xl.n + 1) (cells32 (v4l (Sha.rounds (Sha.sched bs) s t))) ∧ RowAt wr (w.heap.size + 3 + xl.n) (cells32 (e4l (Sha.rounds (Sha.sched bs) s t)))) (fun i _ => 64 - (intOf i).toNat)
    case atStart => exact ⟨0, by omega, rfl, (by (repeat (first | with_reducible exact HX.out | with_reducible exact Ext.refl _ | with_reducible refine Ext.drew ?_ | with_reducible refine Ext.drewN ?_ _ | with_reducible refine Ext.alloc ?_ _ | with_reducible refine Ext.onto ?_ _ | (with_reducible refine Ext.setCells ?_ ?_ _ _; rotate_left; focus (first | omega | (simp; done) | (simp; omega))) | (with_reducible refine Ext.setCell ?_ ?_ _; rotate_left; focus (first | omega | (simp; done) | (simp; omega)))))), (by (repeat (first | with_reducible exact H1.out | with_reducible refine RowAt.drew ?_ | with_reducible refine RowAt.later ?_ _ | with_reducible exact RowAt.newAt (by first | rfl | omega | (simp [later_size, setCells_size]; done) | (simp [later_size, setCells_size]; omega)) | with_reducible refine RowAt.alloc ?_ _ | with_reducible apply RowAt.store | with_reducible refine RowAt.others ?_ ?_ _ _ | with_reducible refine RowAt.other ?_ ?_ _)); all_goals first | omega | (simp; done) | (simp; omega) | (simp [go_sem]; done)), (by (repeat (first | with_reducible exact H2.out | with_reducible refine RowAt.drew ?_ | with_reducible refine RowAt.later ?_ _ | with_reducible exact RowAt.newAt (by first | rfl | omega | (simp [later_size, setCells_size]; done) | (simp [later_size, setCells_size]; omega)) | with_reducible refine RowAt.alloc ?_ _ | with_reducible apply RowAt.store | with_reducible refine RowAt.others ?_ ?_ _ _ | with_reducible refine RowAt.other ?_ ?_ _)); all_goals first | omega | (simp; done) | (simp; omega) | (simp [go_sem]; done)), (by (repeat (first | with_reducible exact H3.out | with_reducible refine RowAt.drew ?_ | with_reducible refine RowAt.later ?_ _ | with_reducible exact RowAt.newAt (by first | rfl | omega | (simp [later_size, setCells_size]; done) | (simp [later_size, setCells_size]; omega)) | with_reducible refine RowAt.alloc ?_ _ | with_reducible apply RowAt.store | with_reducible refine RowAt.others ?_ ?_ _ _ | with_reducible refine RowAt.other ?_ ?_ _)); all_goals first | omega | (simp; done) | (simp; omega) | (simp [go_sem]; done)), (show RowAt _ _ (cells32 (v4l s)) from (by (repeat (first | with_reducible exact rfl | with_reducible refine RowAt.drew ?_ | with_reducible refine RowAt.later ?_ _ | with_reducible exact RowAt.newAt (by first | rfl | omega | (simp [later_size, setCells_size]; done) | (simp [later_size, setCells_size]; omega)) | with_reducible refine RowAt.alloc ?_ _ | with_reducible refine RowAt.store (cs := cells32 (zeros32 4)) ?_ ?_ | with_reducible refine RowAt.others ?_ ?_ _ _ | with_reducible refine RowAt.other ?_ ?_ _)); all_goals first | omega | (simp; done) | (simp; omega) | (simp [go_sem]; done))), (show RowAt _ _ (cells32 (e4l s)) from (by (repeat (first | with_reducible exact rfl | with_reducible refine RowAt.drew ?_ | with_reducible refine RowAt.later ?_ _ | with_reducible exact RowAt.newAt (by first | rfl | omega | (simp [later_size, setCells_size]; done) | (simp [later_size, setCells_size]; omega)) | with_reducible refine RowAt.alloc ?_ _ | with_reducible refine RowAt.store (cs := cells32 (zeros32 4)) ?_ ?_ | with_reducible refine RowAt.others ?_ ?_ _ _ | with_reducible refine RowAt.other ?_ ?_ _)); all_goals first | omega | (simp; done) | (simp; omega) | (simp [go_sem]; done)))⟩
    case round =>
      obtain ⟨t, ht, rfl, hx, h1, h2, h3, h4, h5⟩ := hrel
      have HX' := Lib.hid hx
      have H1' := Lib.hid h1
      have H2' := Lib.hid h2
      have H3' := Lib.hid h3
      have H4' := Lib.hid h4
      have H5' := Lib.hid h5
      by_cases h64 : t < 64
      · have hR := Lib.hid (show Sha.rounds (Sha.sched bs) s (t + 1) = Sha.rnd (Sha.K.getD t 0) ((Sha.sched bs).getD t 0) (Sha.rounds (Sha.sched bs) s t) from rfl)
        have hO := Lib.hid (Sha.rounds_ok HS.out (Sha.sched bs) t)
        have hcw : wr.cell? ⟨w.heap.size + 1 + 1 + xl.n, t, none⟩ = some (.int .u32 ((Sha.sched bs).getD t 0)) := by rw [h3.cell, cells32_get, Sha.sched_length, if_pos h64]
        have hck : (cells32 Sha.K)[t]? = some (.int .u32 (Sha.K.getD t 0)) := by rw [cells32_get, K_length, if_pos h64]
        have hix : ∀ W', (Instr.index 222 (.agg (cells32 Sha.K)) (.int .i64 (t : Int))).run Tryz.prog W' = .ok (.int .u32 (Sha.K.getD t 0)) W' := run_index_arr (e := 144) (k := .u32) (by kernel_rfl) (by kernel_rfl) (by kernel_rfl) _ t _ h64 hck
        clear hck
        generalize Sha.rounds (Sha.sched bs) s t = r at *
        generalize (Sha.sched bs).getD t 0 = wt at *
        generalize Sha.K.getD t 0 = kt at *
        have v0 : wr.cell? ⟨w.heap.size + 3 + xl.n + 1, 0, none⟩ = some (.int .u32 r.a) := h4.cell 0
        have v1 : wr.cell? ⟨w.heap.size + 3 + xl.n + 1, 1, none⟩ = some (.int .u32 r.b) := h4.cell 1
        have v2 : wr.cell? ⟨w.heap.size + 3 + xl.n + 1, 2, none⟩ = some (.int .u32 r.c) := h4.cell 2
        have v3 : wr.cell? ⟨w.heap.size + 3 + xl.n + 1, 3, none⟩ = some (.int .u32 r.d) := h4.cell 3
        have e0 : wr.cell? ⟨w.heap.size + 3 + xl.n, 0, none⟩ = some (.int .u32 r.e) := h5.cell 0
        have e1 : wr.cell? ⟨w.heap.size + 3 + xl.n, 1, none⟩ = some (.int .u32 r.f) := h5.cell 1
        have e2 : wr.cell? ⟨w.heap.size + 3 + xl.n, 2, none⟩ = some (.int .u32 r.g) := h5.cell 2
        have e3 : wr.cell? ⟨w.heap.size + 3 + xl.n, 3, none⟩ = some (.int .u32 r.h) := h5.cell 3
        have mv : roomOf wr (w.heap.size + 3 + xl.n + 1) 0 4 = true := by rw [h4.room]; rfl
        have me : roomOf wr (w.heap.size + 3 + xl.n) 0 4 = true := by rw [h5.room]; rfl
        have lv := h4.lt
        have le := h5.lt
        have lw := h3.lt
        clear hx h1 h2 h3 h4 h5
        go_wp2
        refine wp_region_later (by kernel_rfl) (by kernel_rfl) ?_
        repeat (first | go_big_quiet_step ((go_at_call 164; exact quietS (mix_ok _ 6 11 25 (by omega) (by omega) (by omega) _))) | quiet_step ((go_at_call 164; exact quietS (mix_ok _ 6 11 25 (by omega) (by omega) (by omega) _))))
        refine wpQuiet_nil ?_
        rintro _ ⟨xq, rfl⟩
        go_wp2
        refine wp_region_later (by kernel_rfl) (by kernel_rfl) ?_
        repeat (first | go_big_quiet_step ((go_at_call 164; exact quietS (mix_ok _ 2 13 22 (by omega) (by omega) (by omega) _))) | quiet_step ((go_at_call 164; exact quietS (mix_ok _ 2 13 22 (by omega) (by omega) (by omega) _))))
        refine wpQuiet_nil ?_
        rintro _ ⟨xq, rfl⟩
        go_wp2
        go_roundw
        case rel =>
          refine ⟨t + 1, by omega, by go_num, (by (repeat (first | with_reducible exact HX'.out | with_reducible exact Ext.refl _ | with_reducible refine Ext.drew ?_ | with_reducible refine Ext.drewN ?_ _ | with_reducible refine Ext.alloc ?_ _ | with_reducible refine Ext.onto ?_ _ | (with_reducible refine Ext.setCells ?_ ?_ _ _; rotate_left; focus (first | omega | (simp; done) | (simp; omega))) | (with_reducible refine Ext.setCell ?_ ?_ _; rotate_left; focus (first | omega | (simp; done) | (simp; omega)))))), (by (repeat (first | with_reducible exact H1'.out | with_reducible refine RowAt.drew ?_ | with_reducible refine RowAt.later ?_ _ | with_reducible exact RowAt.newAt (by first | rfl | omega | (simp [later_size, setCells_size]; done) | (simp [later_size, setCells_size]; omega)) | with_reducible refine RowAt.alloc ?_ _ | with_reducible apply RowAt.store | with_reducible refine RowAt.others ?_ ?_ _ _ | with_reducible refine RowAt.other ?_ ?_ _)); all_goals first | omega | (simp; done) | (simp; omega) | (simp [go_sem]; done)), (by (repeat (first | with_reducible exact H2'.out | with_reducible refine RowAt.drew ?_ | with_reducible refine RowAt.later ?_ _ | with_reducible exact RowAt.newAt (by first | rfl | omega | (simp [later_size, setCells_size]; done) | (simp [later_size, setCells_size]; omega)) | with_reducible refine RowAt.alloc ?_ _ | with_reducible apply RowAt.store | with_reducible refine RowAt.others ?_ ?_ _ _ | with_reducible refine RowAt.other ?_ ?_ _)); all_goals first | omega | (simp; done) | (simp; omega) | (simp [go_sem]; done)), (by (repeat (first | with_reducible exact H3'.out | with_reducible refine RowAt.drew ?_ | with_reducible refine RowAt.later ?_ _ | with_reducible exact RowAt.newAt (by first | rfl | omega | (simp [later_size, setCells_size]; done) | (simp [later_size, setCells_size]; omega)) | with_reducible refine RowAt.alloc ?_ _ | with_reducible apply RowAt.store | with_reducible refine RowAt.others ?_ ?_ _ _ | with_reducible refine RowAt.other ?_ ?_ _)); all_goals first | omega | (simp; done) | (simp; omega) | (simp [go_sem]; done)), ?_, ?_⟩
          · rw [hR.out]
            with_reducible refine RowAt.lay (cs := cells32 (v4l r)) ?_ ?_ ?_
            · exact (by (repeat (first | with_reducible exact H4'.out | with_reducible refine RowAt.drew ?_ | with_reducible refine RowAt.later ?_ _ | with_reducible exact RowAt.newAt (by first | rfl | omega | (simp [later_size, setCells_size]; done) | (simp [later_size, setCells_size]; omega)) | with_reducible refine RowAt.alloc ?_ _ | with_reducible apply RowAt.store | with_reducible refine RowAt.others ?_ ?_ _ _ | with_reducible refine RowAt.other ?_ ?_ _)); all_goals first | omega | (simp; done) | (simp; omega) | (simp [go_sem]; done))
            · rfl
            · refine congrArg (fun x => #[Value.int .u32 x, .int .u32 r.a, .int .u32 r.b, .int .u32 r.c]) ?_
              simp only [max_xor, Sha.rnd, Sha.add, Sha.rx, Sha.ry, Sha.ch, Sha.maj, Sha.xor, Sha.and]
              omega
          · rw [hR.out]
            with_reducible refine RowAt.others ?_ ?_ _ _
            · with_reducible refine RowAt.lay (cs := cells32 (e4l r)) ?_ ?_ ?_
              · exact (by (repeat (first | with_reducible exact H5'.out | with_reducible refine RowAt.drew ?_ | with_reducible refine RowAt.later ?_ _ | with_reducible exact RowAt.newAt (by first | rfl | omega | (simp [later_size, setCells_size]; done) | (simp [later_size, setCells_size]; omega)) | with_reducible refine RowAt.alloc ?_ _ | with_reducible apply RowAt.store | with_reducible refine RowAt.others ?_ ?_ _ _ | with_reducible refine RowAt.other ?_ ?_ _)); all_goals first | omega | (simp; done) | (simp; omega) | (simp [go_sem]; done))
              · rfl
              · refine congrArg (fun x => #[Value.int .u32 x, .int .u32 r.e, .int .u32 r.f, .int .u32 r.g]) ?_
                simp only [max_xor, Sha.rnd, Sha.add, Sha.rx, Sha.ry, Sha.ch, Sha.maj, Sha.xor, Sha.and]
                omega
            · omega
        case measure => simp [intOf]; omega
      · have e64 : t = 64 := by omega
        subst e64
        have HQ := Lib.hid (show Sha.comp s bs = Sha.addS s (Sha.rounds (Sha.sched bs) s 64) from rfl)
        clear hx h1 h2 h3 h4 h5
        generalize Sha.rounds (Sha.sched bs) s 64 = q at HQ H4' H5'
        go_wp2
        go_loopw [94] (fun i wr => ∃ k : Nat, k ≤ 4 ∧ i = .int .i64 k ∧ Ext w wr ∧ RowAt wr w.heap.size (cells32 (s8l (upd s q k))) ∧ RowAt wr (w.heap.size + 1) (cells32 (zeros32 8)) ∧ RowAt wr (w.heap.size + 3 + xl.n + 1) (cells32 (v4l q)) ∧ RowAt wr (w.heap.size + 3 + xl.n) (cells32 (e4l q))) (fun i _ => 4 - (intOf i).toNat)
        case atStart => exact ⟨0, by omega, rfl, HX'.out, H1'.out, H2'.out, H4'.out, H5'.out⟩
        case round =>
          obtain ⟨k, hk, rfl, hx, h1, h2, h4, h5⟩ := hrel
          have HX2 := Lib.hid hx
          have HA := Lib.hid h1
          have HB2 := Lib.hid h2
          have HV := Lib.hid h4
          have HE := Lib.hid h5
          by_cases hk4 : k < 4
          · have c1 : wr.cell? ⟨w.heap.size, k, none⟩ = some (.int .u32 ((s8l (upd s q k)).getD k 0)) := by rw [h1.cell, cells32_get, s8l_length, if_pos (by omega)]
            have c2 : wr.cell? ⟨w.heap.size, k + 4, none⟩ = some (.int .u32 ((s8l (upd s q k)).getD (k + 4) 0)) := by rw [h1.cell, cells32_get, s8l_length, if_pos (by omega)]
            have c3 : wr.cell? ⟨w.heap.size + 3 + xl.n + 1, k, none⟩ = some (.int .u32 ((v4l q).getD k 0)) := by rw [h4.cell, cells32_get, v4l_length, if_pos (by omega)]
            have c4 : wr.cell? ⟨w.heap.size + 3 + xl.n, k, none⟩ = some (.int .u32 ((e4l q).getD k 0)) := by rw [h5.cell, cells32_get, e4l_length, if_pos (by omega)]
            have f1 : ∀ i, wr.frozen? ⟨w.heap.size, i, none⟩ = false := h1.free
            have l1 := h1.lt
            have l4 := h4.lt
            have l5 := h5.lt
            have HU := Lib.hid (upd_step s q k hk4)
            generalize (s8l (upd s q k)).getD k 0 = a1 at c1 HU
            generalize (s8l (upd s q k)).getD (k + 4) 0 = a2 at c2 HU
            generalize (v4l q).getD k 0 = a3 at c3 HU
            generalize (e4l q).getD k 0 = a4 at c4 HU
            clear hx h1 h2 h4 h5
            go_wp2
            refine wp_region_later_tail 8 (by kernel_rfl) (by kernel_rfl) ?_
            simp only [List.take_succ_cons, List.take_zero, List.drop_succ_cons, List.drop_zero]
            repeat (first | go_big_quiet_step (fail) | quiet_step (fail))
            refine wpQuiet_nil ?_
            rintro _ ⟨xq, rfl⟩
            go_wp2
            refine wp_region_later_tail 9 (by kernel_rfl) (by kernel_rfl) ?_
            simp only [List.take_succ_cons, List.take_zero, List.drop_succ_cons, List.drop_zero]
            repeat (first | go_big_quiet_step (fail) | quiet_step (fail))
            refine wpQuiet_nil ?_
            rintro _ ⟨xq, rfl⟩
            go_wp2
            go_roundw
            case rel => exact ⟨k + 1, by omega, by go_num, (by (repeat (first | with_reducible exact HX2.out | with_reducible exact Ext.refl _ | with_reducible refine Ext.drew ?_ | with_reducible refine Ext.drewN ?_ _ | with_reducible refine Ext.alloc ?_ _ | with_reducible refine Ext.onto ?_ _ | (with_reducible refine Ext.setCells ?_ ?_ _ _; rotate_left; focus (first | omega | (simp; done) | (simp; omega))) | (with_reducible refine Ext.setCell ?_ ?_ _; rotate_left; focus (first | omega | (simp; done) | (simp; omega)))))), (((HA.out.later _).set32 rfl).later _).set32 HU.out, (by (repeat (first | with_reducible exact HB2.out | with_reducible refine RowAt.drew ?_ | with_reducible refine RowAt.later ?_ _ | with_reducible exact RowAt.newAt (by first | rfl | omega | (simp [later_size, setCells_size]; done) | (simp [later_size, setCells_size]; omega)) | with_reducible refine RowAt.alloc ?_ _ | with_reducible apply RowAt.store | with_reducible refine RowAt.others ?_ ?_ _ _ | with_reducible refine RowAt.other ?_ ?_ _)); all_goals first | omega | (simp; done) | (simp; omega) | (simp [go_sem]; done)), (by (repeat (first | with_reducible exact HV.out | with_reducible refine RowAt.drew ?_ | with_reducible refine RowAt.later ?_ _ | with_reducible exact RowAt.newAt (by first | rfl | omega | (simp [later_size, setCells_size]; done) | (simp [later_size, setCells_size]; omega)) | with_reducible refine RowAt.alloc ?_ _ | with_reducible apply RowAt.store | with_reducible refine RowAt.others ?_ ?_ _ _ | with_reducible refine RowAt.other ?_ ?_ _)); all_goals first | omega | (simp; done) | (simp; omega) | (simp [go_sem]; done)), (by (repeat (first | with_reducible exact HE.out | with_reducible refine RowAt.drew ?_ | with_reducible refine RowAt.later ?_ _ | with_reducible exact RowAt.newAt (by first | rfl | omega | (simp [later_size, setCells_size]; done) | (simp [later_size, setCells_size]; omega)) | with_reducible refine RowAt.alloc ?_ _ | with_reducible apply RowAt.store | with_reducible refine RowAt.others ?_ ?_ _ _ | with_reducible refine RowAt.other ?_ ?_ _)); all_goals first | omega | (simp; done) | (simp; omega) | (simp [go_sem]; done))⟩
            case measure => simp [intOf]; omega
          · have e4 : k = 4 := by omega
            subst e4
            have e5 : Sha.comp s bs = upd s q 4 := HQ.out
            have HE5 := Lib.hid e5
            have r8 : rowOf wr w.heap.size 0 8 = some (cells32 (s8l (upd s q 4))) := h1.all (by rw [cells32_size, s8l_length]) (by omega)
            have m8 : roomOf wr (w.heap.size + 1) 0 8 = true := by rw [h2.room]; rfl
            have l1 := h1.lt
            have l2 := h2.lt
            have rr := Lib.hid (h2.stored (n := 8) (ds := cells32 (s8l (upd s q 4))) (by rw [cells32_size, cells32_size, s8l_length, zeros32_length]) (by rw [cells32_size, s8l_length]) (by omega))
            clear hx h1 h2 h4 h5 e5
            go_wp2
            refine post_row w8_ty Tryz.results125 rfl rfl rr.out ⟨by rw [HE5.out], (by (repeat (first | with_reducible exact HX2.out | with_reducible exact Ext.refl _ | with_reducible refine Ext.drew ?_ | with_reducible refine Ext.drewN ?_ _ | with_reducible refine Ext.alloc ?_ _ | with_reducible refine Ext.onto ?_ _ | (with_reducible refine Ext.setCells ?_ ?_ _ _; rotate_left; focus (first | omega | (simp; done) | (simp; omega))) | (with_reducible refine Ext.setCell ?_ ?_ _; rotate_left; focus (first | omega | (simp; done) | (simp; omega))))))⟩
end Go.Proofs.YtpjacgcaibaggaaGreatDoor
