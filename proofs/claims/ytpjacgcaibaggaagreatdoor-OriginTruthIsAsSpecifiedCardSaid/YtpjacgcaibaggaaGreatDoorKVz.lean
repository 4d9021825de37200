/- True of the specification. -/
import Derived.Test.YtpjacgcaibaggaaGreatDoorProg
import Derived.Test.YtpjacgcaibaggaaGreatDoorKSpv
import Derived.WalkKit
import Derived.WalkSpells
import Derived.WalkLawsBesides
import Derived.Deep.QuietTactic
import Derived.BigQuiet
import Derived.Test.YtpjacgcaibaggaaGreatDoorKVy
set_option linter.unusedVariables false
set_option linter.unusedSimpArgs false
namespace Go.Proofs.YtpjacgcaibaggaaGreatDoor
open Go.RowKit Go.Shelf
open Go.Proofs

def inMean (s : St) (v : Ver) : Bool := decide (s.lo < v.fr) && decide (v.fr ≤ s.hi) && saysB s v
theorem inMean_no1 {s : St} {v : Ver} (h : ¬ s.lo < v.fr) : inMean s v = false := by simp [inMean, h]
theorem inMean_no2 {s : St} {v : Ver} (h : ¬ v.fr ≤ s.hi) : inMean s v = false := by simp [inMean, h]
theorem inMean_is {s : St} {v : Ver} (h1 : s.lo < v.fr) (h2 : v.fr ≤ s.hi) : inMean s v = saysB s v := by simp [inMean, h1, h2]
set_option maxRecDepth 100000 in
set_option maxHeartbeats 4000000 in
theorem rtrue_any (A : Option Addr) (c : Nat) (l : List Ver) (s : St) (w : World) (hl : l.length ≤ 50000) (hr : ReadsVer w w.heap.size A l) (hv : ∀ v ∈ l, VerIn v) (hva : VerIn (lastAt l s.lo l.length)) (h16 : s.body.length = 16) (hby : Byt s.body) (hk : RKonst w) :
    Calls Tryz.prog 23 #[.slice A l.length c, .agg (stmC s)] w fun e w' => e = .returned (.bool (saysB s (lastAt l s.lo l.length) || l.any (inMean s))) ∧ Ext w w' := by
  have HR := Lib.hid hr
  have HV := Lib.hid hv
  have HA := Lib.hid (fun (W : World) (hx : Ext w W) => rat_any A c l s.lo W (by omega) (hr.on hx))
  have HSy := Lib.hid (fun (v : Ver) (hv0 : VerIn v) (W : World) (hx : Ext w W) => rsays_any v s W hv0 h16 hby (RowAt.ext hk hx))
  clear hr hv h16 hby hk
  generalize lastAt l s.lo l.length = v0 at *
  have HS0 := Lib.hid (HSy.out v0 hva)
  obtain ⟨res, hres⟩ : ∃ r, (saysB s v0 || l.any (inMean s)) = r := ⟨_, rfl⟩
  rw [hres]
  have HRes := Lib.hid hres
  clear hres
  cases h0 : saysB s v0 with
  | true =>
    rw [h0] at HS0
    have HF : Hid (res = true) := Lib.hid (by rw [← HRes.out, h0]; rfl)
    clear h0 HRes
    go_enter Tryz.func23, Tryz.ntmps23
    go_wp2
    refine wp_world (fun W => Ext w W ∧ RowAt W w.heap.size (stmC s)) ⟨(by (repeat (first | with_reducible exact Ext.refl _ | with_reducible exact Ext.refl _ | with_reducible refine Ext.drew ?_ | with_reducible refine Ext.drewN ?_ _ | with_reducible refine Ext.alloc ?_ _ | with_reducible refine Ext.onto ?_ _ | (with_reducible refine Ext.setCells ?_ ?_ _ _; rotate_left; focus (first | omega | (simp; done) | (simp; omega))) | (with_reducible refine Ext.setCell ?_ ?_ _; rotate_left; focus (first | omega | (simp; done) | (simp; omega)))))), RowAt.new _ _ _⟩ ?_
    rintro W1 ⟨x1, u1⟩
    have HX1 := Lib.hid x1
    have q21 : W1.cell? ⟨w.heap.size, 21, none⟩ = some (.int .i64 s.lo) := (u1.cell 21).trans (stm_g21 s)
    have hrow : rowOf W1 w.heap.size 0 41 = some (stmC s) := u1.all (stm_size _).symm (by omega)
    have hlu := u1.lt
    clear x1 u1
    refine wp_region_later (by kernel_rfl) (by kernel_rfl) ?_
    repeat (first | go_big_quiet_step ((first | (go_at_call 18; exact quietE (HA.out _ (HX1.out.onto _))) | (go_at_call 55; exact quietE (HS0.out _ (HX1.out.onto _))))) | quiet_step ((first | (go_at_call 18; exact quietE (HA.out _ (HX1.out.onto _))) | (go_at_call 55; exact quietE (HS0.out _ (HX1.out.onto _))))))
    refine wpQuiet_nil ?_
    rintro _ ⟨xq, rfl⟩
    go_wp2
    go_ret
    exact ⟨ret_bool HF.out.symm, (by (repeat (first | with_reducible exact HX1.out | with_reducible exact Ext.refl _ | with_reducible refine Ext.drew ?_ | with_reducible refine Ext.drewN ?_ _ | with_reducible refine Ext.alloc ?_ _ | with_reducible refine Ext.onto ?_ _ | (with_reducible refine Ext.setCells ?_ ?_ _ _; rotate_left; focus (first | omega | (simp; done) | (simp; omega))) | (with_reducible refine Ext.setCell ?_ ?_ _; rotate_left; focus (first | omega | (simp; done) | (simp; omega))))))⟩
  | false =>
    rw [h0] at HS0
    have HF : Hid (res = l.any (inMean s)) := Lib.hid (by rw [← HRes.out, h0]; rfl)
    clear h0 HRes
    go_enter Tryz.func23, Tryz.ntmps23
    go_wp2
    refine wp_world (fun W => Ext w W ∧ RowAt W w.heap.size (stmC s)) ⟨(by (repeat (first | with_reducible exact Ext.refl _ | with_reducible exact Ext.refl _ | with_reducible refine Ext.drew ?_ | with_reducible refine Ext.drewN ?_ _ | with_reducible refine Ext.alloc ?_ _ | with_reducible refine Ext.onto ?_ _ | (with_reducible refine Ext.setCells ?_ ?_ _ _; rotate_left; focus (first | omega | (simp; done) | (simp; omega))) | (with_reducible refine Ext.setCell ?_ ?_ _; rotate_left; focus (first | omega | (simp; done) | (simp; omega)))))), RowAt.new _ _ _⟩ ?_
    rintro W1 ⟨x1, u1⟩
    have HX1 := Lib.hid x1
    have HU1 := Lib.hid u1
    have q21 : W1.cell? ⟨w.heap.size, 21, none⟩ = some (.int .i64 s.lo) := (u1.cell 21).trans (stm_g21 s)
    have hrow : rowOf W1 w.heap.size 0 41 = some (stmC s) := u1.all (stm_size _).symm (by omega)
    have hlu := u1.lt
    clear x1 u1
    refine wp_region_later (by kernel_rfl) (by kernel_rfl) ?_
    repeat (first | go_big_quiet_step ((first | (go_at_call 18; exact quietE (HA.out _ (HX1.out.onto _))) | (go_at_call 55; exact quietE (HS0.out _ (HX1.out.onto _))))) | quiet_step ((first | (go_at_call 18; exact quietE (HA.out _ (HX1.out.onto _))) | (go_at_call 55; exact quietE (HS0.out _ (HX1.out.onto _))))))
    refine wpQuiet_nil ?_
    rintro _ ⟨xq, rfl⟩
    go_wp2
    go_loopw [5] (fun i wr => ∃ k : Nat, k ≤ l.length ∧ i = .int .i64 k ∧ Hid (Ext w wr) ∧ Hid (RowAt wr w.heap.size (stmC s)) ∧ Hid ((l.take k).any (inMean s) = false)) (fun i _ => l.length - (intOf i).toNat)
    case atStart => exact ⟨0, Nat.zero_le _, rfl, Lib.hid (HX1.out.onto _), Lib.hid (HU1.out.later _), Lib.hid rfl⟩
    case round =>
      obtain ⟨k, hk, rfl, HX, HU, HJ⟩ := hrel
      clear HX1 HU1 q21 hrow hlu HS0 HA
      have q21 : wr.cell? ⟨w.heap.size, 21, none⟩ = some (.int .i64 s.lo) := (HU.out.cell 21).trans (stm_g21 s)
      have q22 : wr.cell? ⟨w.heap.size, 22, none⟩ = some (.int .i64 s.hi) := (HU.out.cell 22).trans (stm_g22 s)
      have hrowS : rowOf wr w.heap.size 0 41 = some (stmC s) := HU.out.all (stm_size _).symm (by omega)
      have hlu := HU.out.lt
      by_cases hlt : k < l.length
      · obtain ⟨b, off, rfl, hb, hrow, hcl⟩ := ReadsVer.cell (HR.out.ext HX.out (Nat.le_refl _)) k hlt
        have hb2 : b < wr.heap.size := by omega
        have HSv := Lib.hid (HSy.out l[k] (HV.out _ (List.getElem_mem hlt)))
        have HN := Lib.hid (any_snoc (inMean s) l k hlt HJ.out)
        have HH := Lib.hid (any_hit (inMean s) l k hlt)
        generalize l[k] = v at *
        by_cases h1 : s.lo < v.fr
        · have d1 : decide (s.lo < v.fr) = true := by simpa using h1
          by_cases h2 : v.fr ≤ s.hi
          · have d2 : decide (v.fr ≤ s.hi) = true := by simpa using h2
            have hm := inMean_is h1 h2
            cases h3 : saysB s v with
            | true =>
              rw [h3] at HSv
              have HT := Lib.hid (HH.out (hm.trans h3))
              clear h1 h2 hm h3 HN HH
              go_wp2
              refine wp_region_later (by kernel_rfl) (by kernel_rfl) ?_
              repeat (first | go_big_quiet_step ((go_at_call 55; exact quietE (HSv.out _ (HX.out.onto _)))) | quiet_step ((go_at_call 55; exact quietE (HSv.out _ (HX.out.onto _)))))
              refine wpQuiet_nil ?_
              rintro _ ⟨xq, rfl⟩
              go_wp2
              go_ret
              exact ⟨ret_bool (by rw [HF.out, HT.out]), (by (repeat (first | with_reducible exact HX.out | with_reducible exact Ext.refl _ | with_reducible refine Ext.drew ?_ | with_reducible refine Ext.drewN ?_ _ | with_reducible refine Ext.alloc ?_ _ | with_reducible refine Ext.onto ?_ _ | (with_reducible refine Ext.setCells ?_ ?_ _ _; rotate_left; focus (first | omega | (simp; done) | (simp; omega))) | (with_reducible refine Ext.setCell ?_ ?_ _; rotate_left; focus (first | omega | (simp; done) | (simp; omega))))))⟩
            | false =>
              rw [h3] at HSv
              have HT := Lib.hid (HN.out (hm.trans h3))
              clear h1 h2 hm h3 HN HH
              go_wp2
              refine wp_region_later (by kernel_rfl) (by kernel_rfl) ?_
              repeat (first | go_big_quiet_step ((go_at_call 55; exact quietE (HSv.out _ (HX.out.onto _)))) | quiet_step ((go_at_call 55; exact quietE (HSv.out _ (HX.out.onto _)))))
              refine wpQuiet_nil ?_
              rintro _ ⟨xq, rfl⟩
              go_wp2
              go_roundw
              case rel => exact ⟨k + 1, by omega, by go_num, Lib.hid (HX.out.onto _), Lib.hid (HU.out.later _), HT⟩
              case measure => simp [intOf]; omega
          · have d2 : decide (v.fr ≤ s.hi) = false := by simpa using h2
            have HT := Lib.hid (HN.out (inMean_no2 h2))
            clear h1 h2 HN HH
            go_wp2
            refine wp_region_later (by kernel_rfl) (by kernel_rfl) ?_
            repeat (first | go_big_quiet_step (fail) | quiet_step (fail))
            refine wpQuiet_nil ?_
            rintro _ ⟨xq, rfl⟩
            go_wp2
            go_roundw
            case rel => exact ⟨k + 1, by omega, by go_num, Lib.hid (HX.out.onto _), Lib.hid (HU.out.later _), HT⟩
            case measure => simp [intOf]; omega
        · have d1 : decide (s.lo < v.fr) = false := by simpa using h1
          have HT := Lib.hid (HN.out (inMean_no1 h1))
          clear h1 HN HH
          go_wp2
          refine wp_region_later (by kernel_rfl) (by kernel_rfl) ?_
          repeat (first | go_big_quiet_step (fail) | quiet_step (fail))
          refine wpQuiet_nil ?_
          rintro _ ⟨xq, rfl⟩
          go_wp2
          go_roundw
          case rel => exact ⟨k + 1, by omega, by go_num, Lib.hid (HX.out.onto _), Lib.hid (HU.out.later _), HT⟩
          case measure => simp [intOf]; omega
      · have HT : Hid (l.any (inMean s) = false) := Lib.hid (by have h := HJ.out; rwa [List.take_of_length_le (by omega)] at h)
        go_wp2
        go_ret
        exact ⟨ret_bool (by rw [HF.out, HT.out]), HX.out⟩
end Go.Proofs.YtpjacgcaibaggaaGreatDoor
