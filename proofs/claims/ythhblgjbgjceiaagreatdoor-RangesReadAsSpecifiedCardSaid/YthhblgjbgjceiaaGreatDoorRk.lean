/- Walks of the specification's ranges: number, part. -/
import Derived.Test.YthhblgjbgjceiaaGreatDoorProg
import Derived.Test.YthhblgjbgjceiaaGreatDoorExt
import Derived.WalkKit
import Derived.WalkSpells
import Derived.WalkLawsBesides
import Derived.Deep.QuietTactic
import Derived.BigQuiet
import Derived.Test.YthhblgjbgjceiaaGreatDoorRp
import Derived.Test.YthhblgjbgjceiaaGreatDoorRn
import Derived.Lib.IndexBytes
set_option linter.unusedVariables false
set_option linter.unusedSimpArgs false
namespace Go.Proofs.YthhblgjbgjceiaaGreatDoor
open Go.RowKit Go.Shelf
open Go.Proofs
open Go.Proofs.Sp (Sp)

theorem byte_at (s : ByteArray) (k : Nat) (h : k < s.size) : s.data.toList[k]'(by simpa using h) = s[k] := by
  have := Lib.data_getElem? s k h
  rw [List.getElem?_eq_getElem (by simpa using h)] at this
  exact Option.some.inj this
set_option maxHeartbeats 400000 in
theorem rnumber_any (s : ByteArray) (w : World) (hs : s.size ≤ 9223372036854775807) :
    Calls Tryz.prog 97 #[.string s] w fun e w' => e = .returned (.agg #[.int .i64 (Rp.numR s.data.toList).1, .int .i64 (Rp.numR s.data.toList).2]) ∧ Ext w w' := by
  have hl : s.data.toList.length = s.size := by simp
  have HL := Lib.hid hl
  obtain ⟨⟨r1, r2⟩, hr⟩ : ∃ p, Rp.numR s.data.toList = p := ⟨_, rfl⟩
  rw [hr]
  have HRR := Lib.hid hr
  clear hl hr
  go_enter Tryz.func97, Tryz.ntmps97
  go_wp2
  go_loopw [3, 4] (fun n i wr => ∃ (k : Nat) (v : Int), k ≤ s.size ∧ k ≤ 16 ∧ n = .int .i64 v ∧ i = .int .i64 k ∧ w.alloc (.cells #[.int .i64 0, .int .i64 0] 127) = wr ∧ Hid (v = Rp.valF 0 (s.data.toList.take k)) ∧ Hid ((s.data.toList.take k).all Rp.isDig = true)) (fun _ i _ => 16 - (intOf i).toNat)
  case atStart => exact ⟨0, 0, Nat.zero_le _, Nat.zero_le _, rfl, rfl, rfl, Lib.hid rfl, Lib.hid rfl⟩
  case round =>
    obtain ⟨k, v, hk, h16, rfl, rfl, rfl, HV, HD⟩ := hrel
    have hvb : 0 ≤ v ∧ v < 10000000000000000 := by
      have := Rp.valF_le (k := 16) HD.out (by rw [List.length_take]; omega)
      rw [← HV.out] at this
      exact this
    obtain ⟨v0, v1⟩ := hvb
    by_cases hc : ∃ h : k < s.size, k < 16 ∧ Rp.isDig s[k] = true
    · obtain ⟨hlt, hk16, hdg⟩ := hc
      have hv15 : v < 1000000000000000 := by
        have := Rp.valF_le (k := 15) HD.out (by rw [List.length_take]; omega)
        rw [← HV.out] at this
        exact this.2
      have HV2 := Lib.hid (Rp.valF_snoc s.data.toList k (by rw [HL.out]; exact hlt))
      have HD2 := Lib.hid (Rp.dig_snoc s.data.toList k (by rw [HL.out]; exact hlt))
      rw [← HV.out, byte_at s k hlt] at HV2
      rw [HD.out, byte_at s k hlt, hdg] at HD2
      simp only [Rp.isDig, Bool.and_eq_true, decide_eq_true_eq] at hdg
      obtain ⟨d1, d2⟩ := hdg
      go_wp2
      go_roundw
      case rel => exact ⟨k + 1, 10 * v + ((s[k].toNat : Int) - 48), by omega, by omega, rfl, by go_num, trivial, Lib.hid HV2.out.symm, Lib.hid (HD2.out.trans rfl)⟩
      case measure => simp [intOf]; omega
    · obtain ⟨z, hz⟩ : ∃ z : Int, ∀ h : 0 < s.size, (s[0].toNat : Int) = z := by
        by_cases h : 0 < s.size
        · exact ⟨(s[0].toNat : Int), fun _ => rfl⟩
        · exact ⟨0, fun k => absurd k h⟩
      have HR : Hid ((r1, r2) = if k = 0 ∨ 15 < k ∨ (1 < k ∧ z = 48) then (0, 0) else (v, k)) := Lib.hid (by
        have hst : k = s.data.toList.length ∨ k = 16 ∨ ∃ h : k < s.data.toList.length, Rp.isDig s.data.toList[k] = false := by
          have hl := HL.out
          by_cases h1 : k = s.size
          · exact .inl (h1.trans hl.symm)
          · by_cases h2 : k = 16
            · exact .inr (.inl h2)
            · refine .inr (.inr ⟨by omega, ?_⟩)
              rw [byte_at s k (by omega)]
              cases hd : Rp.isDig s[k] with
              | false => rfl
              | true => exact absurd ⟨by omega, by omega, hd⟩ hc
        rw [← HRR.out, Rp.numR_at (by rw [HL.out]; exact hk) h16 HD.out HV.out hst]
        by_cases h0 : 0 < s.size
        · have e : s.data.toList.head? = some 48 ↔ z = 48 := by
            rw [head_at s h0, ← hz h0]
            constructor
            · intro e; rw [Option.some.inj e]; rfl
            · intro e; congr 1; exact UInt8.toNat_inj.1 (by show s[0].toNat = 48; omega)
          simp only [e]
        · rw [if_pos (.inl (by omega)), if_pos (.inl (by omega))])
      clear HV HD HRR
      by_cases hk0 : k = 0
      · have hr0 : (r1, r2) = (0, 0) := HR.out.trans (if_pos (.inl hk0))
        subst hk0
        clear HR hz
        by_cases h1 : 0 < s.size
        · have hd : ¬ Rp.isDig s[0] = true := fun h => hc ⟨h1, by omega, h⟩
          simp only [Rp.isDig, Bool.and_eq_true, decide_eq_true_eq] at hd
          clear hc
          by_cases h3 : 48 ≤ s[0].toNat
          · have h4 : 57 < s[0].toNat := by omega
            clear hd
            go_wp2
            all_goals first
              | (obtain ⟨e1, e2⟩ := Prod.mk.inj hr0; refine bodyPost_ret (v := .agg #[.int .i64 r1, .int .i64 r2]) ?_ rfl ⟨rfl, (by (repeat (first | with_reducible exact Ext.refl _ | with_reducible exact Ext.refl _ | with_reducible refine Ext.drew ?_ | with_reducible refine Ext.drewN ?_ _ | with_reducible refine Ext.alloc ?_ _ | with_reducible refine Ext.onto ?_ _ | (with_reducible refine Ext.setCells ?_ ?_ _ _; rotate_left; focus (first | omega | (simp; done) | (simp; omega))) | (with_reducible refine Ext.setCell ?_ ?_ _; rotate_left; focus (first | omega | (simp; done) | (simp; omega))))))⟩; rw [e1, e2]; simp [results, Tryz.results97, go_sem, ↓IntWalk.iteOmega]; done)
              | (exfalso; omega)
          · clear hd
            go_wp2
            all_goals first
              | (obtain ⟨e1, e2⟩ := Prod.mk.inj hr0; refine bodyPost_ret (v := .agg #[.int .i64 r1, .int .i64 r2]) ?_ rfl ⟨rfl, (by (repeat (first | with_reducible exact Ext.refl _ | with_reducible exact Ext.refl _ | with_reducible refine Ext.drew ?_ | with_reducible refine Ext.drewN ?_ _ | with_reducible refine Ext.alloc ?_ _ | with_reducible refine Ext.onto ?_ _ | (with_reducible refine Ext.setCells ?_ ?_ _ _; rotate_left; focus (first | omega | (simp; done) | (simp; omega))) | (with_reducible refine Ext.setCell ?_ ?_ _; rotate_left; focus (first | omega | (simp; done) | (simp; omega))))))⟩; rw [e1, e2]; simp [results, Tryz.results97, go_sem, ↓IntWalk.iteOmega]; done)
              | (exfalso; omega)
        · clear hc
          go_wp2
          all_goals first
            | (obtain ⟨e1, e2⟩ := Prod.mk.inj hr0; refine bodyPost_ret (v := .agg #[.int .i64 r1, .int .i64 r2]) ?_ rfl ⟨rfl, (by (repeat (first | with_reducible exact Ext.refl _ | with_reducible exact Ext.refl _ | with_reducible refine Ext.drew ?_ | with_reducible refine Ext.drewN ?_ _ | with_reducible refine Ext.alloc ?_ _ | with_reducible refine Ext.onto ?_ _ | (with_reducible refine Ext.setCells ?_ ?_ _ _; rotate_left; focus (first | omega | (simp; done) | (simp; omega))) | (with_reducible refine Ext.setCell ?_ ?_ _; rotate_left; focus (first | omega | (simp; done) | (simp; omega))))))⟩; rw [e1, e2]; simp [results, Tryz.results97, go_sem, ↓IntWalk.iteOmega]; done)
            | (exfalso; omega)
      have h0 : 0 < s.size := by omega
      have hz0 := hz h0
      clear hz
      by_cases h1 : k = s.size
      · clear hc
        subst h1
        go_wp2
        all_goals first
          | (have hz := HR.out.trans (if_pos (by simp_all <;> omega)); obtain ⟨e1, e2⟩ := Prod.mk.inj hz; refine bodyPost_ret (v := .agg #[.int .i64 r1, .int .i64 r2]) ?_ rfl ⟨rfl, (by (repeat (first | with_reducible exact Ext.refl _ | with_reducible exact Ext.refl _ | with_reducible refine Ext.drew ?_ | with_reducible refine Ext.drewN ?_ _ | with_reducible refine Ext.alloc ?_ _ | with_reducible refine Ext.onto ?_ _ | (with_reducible refine Ext.setCells ?_ ?_ _ _; rotate_left; focus (first | omega | (simp; done) | (simp; omega))) | (with_reducible refine Ext.setCell ?_ ?_ _; rotate_left; focus (first | omega | (simp; done) | (simp; omega))))))⟩; rw [e1, e2]; simp [results, Tryz.results97, go_sem, ↓IntWalk.iteOmega]; done)
          | (have hz := HR.out.trans (if_neg (by simp_all <;> omega)); obtain ⟨e1, e2⟩ := Prod.mk.inj hz; refine bodyPost_ret (v := .agg #[.int .i64 r1, .int .i64 r2]) ?_ rfl ⟨rfl, (by (repeat (first | with_reducible exact Ext.refl _ | with_reducible exact Ext.refl _ | with_reducible refine Ext.drew ?_ | with_reducible refine Ext.drewN ?_ _ | with_reducible refine Ext.alloc ?_ _ | with_reducible refine Ext.onto ?_ _ | (with_reducible refine Ext.setCells ?_ ?_ _ _; rotate_left; focus (first | omega | (simp; done) | (simp; omega))) | (with_reducible refine Ext.setCell ?_ ?_ _; rotate_left; focus (first | omega | (simp; done) | (simp; omega))))))⟩; rw [e1, e2]; simp [results, Tryz.results97, go_sem, ↓IntWalk.iteOmega]; done)
      · by_cases h2 : k = 16
        · clear hc
          subst h2
          have hlt : 16 < s.size := by omega
          go_wp2
          all_goals first
            | (have hz := HR.out.trans (if_pos (by simp_all <;> omega)); obtain ⟨e1, e2⟩ := Prod.mk.inj hz; refine bodyPost_ret (v := .agg #[.int .i64 r1, .int .i64 r2]) ?_ rfl ⟨rfl, (by (repeat (first | with_reducible exact Ext.refl _ | with_reducible exact Ext.refl _ | with_reducible refine Ext.drew ?_ | with_reducible refine Ext.drewN ?_ _ | with_reducible refine Ext.alloc ?_ _ | with_reducible refine Ext.onto ?_ _ | (with_reducible refine Ext.setCells ?_ ?_ _ _; rotate_left; focus (first | omega | (simp; done) | (simp; omega))) | (with_reducible refine Ext.setCell ?_ ?_ _; rotate_left; focus (first | omega | (simp; done) | (simp; omega))))))⟩; rw [e1, e2]; simp [results, Tryz.results97, go_sem, ↓IntWalk.iteOmega]; done)
            | (have hz := HR.out.trans (if_neg (by simp_all <;> omega)); obtain ⟨e1, e2⟩ := Prod.mk.inj hz; refine bodyPost_ret (v := .agg #[.int .i64 r1, .int .i64 r2]) ?_ rfl ⟨rfl, (by (repeat (first | with_reducible exact Ext.refl _ | with_reducible exact Ext.refl _ | with_reducible refine Ext.drew ?_ | with_reducible refine Ext.drewN ?_ _ | with_reducible refine Ext.alloc ?_ _ | with_reducible refine Ext.onto ?_ _ | (with_reducible refine Ext.setCells ?_ ?_ _ _; rotate_left; focus (first | omega | (simp; done) | (simp; omega))) | (with_reducible refine Ext.setCell ?_ ?_ _; rotate_left; focus (first | omega | (simp; done) | (simp; omega))))))⟩; rw [e1, e2]; simp [results, Tryz.results97, go_sem, ↓IntWalk.iteOmega]; done)
        · have hlt : k < s.size := by omega
          have hk16 : k < 16 := by omega
          have hd : ¬ Rp.isDig s[k] = true := fun h => hc ⟨hlt, hk16, h⟩
          simp only [Rp.isDig, Bool.and_eq_true, decide_eq_true_eq] at hd
          clear hc
          by_cases h3 : 48 ≤ s[k].toNat
          · have h4 : 57 < s[k].toNat := by omega
            clear hd
            go_wp2
            all_goals first
              | (have hz := HR.out.trans (if_pos (by simp_all <;> omega)); obtain ⟨e1, e2⟩ := Prod.mk.inj hz; refine bodyPost_ret (v := .agg #[.int .i64 r1, .int .i64 r2]) ?_ rfl ⟨rfl, (by (repeat (first | with_reducible exact Ext.refl _ | with_reducible exact Ext.refl _ | with_reducible refine Ext.drew ?_ | with_reducible refine Ext.drewN ?_ _ | with_reducible refine Ext.alloc ?_ _ | with_reducible refine Ext.onto ?_ _ | (with_reducible refine Ext.setCells ?_ ?_ _ _; rotate_left; focus (first | omega | (simp; done) | (simp; omega))) | (with_reducible refine Ext.setCell ?_ ?_ _; rotate_left; focus (first | omega | (simp; done) | (simp; omega))))))⟩; rw [e1, e2]; simp [results, Tryz.results97, go_sem, ↓IntWalk.iteOmega]; done)
              | (have hz := HR.out.trans (if_neg (by simp_all <;> omega)); obtain ⟨e1, e2⟩ := Prod.mk.inj hz; refine bodyPost_ret (v := .agg #[.int .i64 r1, .int .i64 r2]) ?_ rfl ⟨rfl, (by (repeat (first | with_reducible exact Ext.refl _ | with_reducible exact Ext.refl _ | with_reducible refine Ext.drew ?_ | with_reducible refine Ext.drewN ?_ _ | with_reducible refine Ext.alloc ?_ _ | with_reducible refine Ext.onto ?_ _ | (with_reducible refine Ext.setCells ?_ ?_ _ _; rotate_left; focus (first | omega | (simp; done) | (simp; omega))) | (with_reducible refine Ext.setCell ?_ ?_ _; rotate_left; focus (first | omega | (simp; done) | (simp; omega))))))⟩; rw [e1, e2]; simp [results, Tryz.results97, go_sem, ↓IntWalk.iteOmega]; done)
          · clear hd
            go_wp2
            all_goals first
              | (have hz := HR.out.trans (if_pos (by simp_all <;> omega)); obtain ⟨e1, e2⟩ := Prod.mk.inj hz; refine bodyPost_ret (v := .agg #[.int .i64 r1, .int .i64 r2]) ?_ rfl ⟨rfl, (by (repeat (first | with_reducible exact Ext.refl _ | with_reducible exact Ext.refl _ | with_reducible refine Ext.drew ?_ | with_reducible refine Ext.drewN ?_ _ | with_reducible refine Ext.alloc ?_ _ | with_reducible refine Ext.onto ?_ _ | (with_reducible refine Ext.setCells ?_ ?_ _ _; rotate_left; focus (first | omega | (simp; done) | (simp; omega))) | (with_reducible refine Ext.setCell ?_ ?_ _; rotate_left; focus (first | omega | (simp; done) | (simp; omega))))))⟩; rw [e1, e2]; simp [results, Tryz.results97, go_sem, ↓IntWalk.iteOmega]; done)
              | (have hz := HR.out.trans (if_neg (by simp_all <;> omega)); obtain ⟨e1, e2⟩ := Prod.mk.inj hz; refine bodyPost_ret (v := .agg #[.int .i64 r1, .int .i64 r2]) ?_ rfl ⟨rfl, (by (repeat (first | with_reducible exact Ext.refl _ | with_reducible exact Ext.refl _ | with_reducible refine Ext.drew ?_ | with_reducible refine Ext.drewN ?_ _ | with_reducible refine Ext.alloc ?_ _ | with_reducible refine Ext.onto ?_ _ | (with_reducible refine Ext.setCells ?_ ?_ _ _; rotate_left; focus (first | omega | (simp; done) | (simp; omega))) | (with_reducible refine Ext.setCell ?_ ?_ _; rotate_left; focus (first | omega | (simp; done) | (simp; omega))))))⟩; rw [e1, e2]; simp [results, Tryz.results97, go_sem, ↓IntWalk.iteOmega]; done)
end Go.Proofs.YthhblgjbgjceiaaGreatDoor
