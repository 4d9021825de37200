/- Walks of the specification's ranges: part. -/
import Derived.Test.YthhblgjbgjceiaaGreatDoorProg
import Derived.Test.YthhblgjbgjceiaaGreatDoorExt
import Derived.WalkKit
import Derived.WalkSpells
import Derived.WalkLawsBesides
import Derived.Deep.QuietTactic
import Derived.BigQuiet
import Derived.Test.YthhblgjbgjceiaaGreatDoorRk
set_option linter.unusedVariables false
set_option linter.unusedSimpArgs false
namespace Go.Proofs.YthhblgjbgjceiaaGreatDoor
open Go.RowKit Go.Shelf
open Go.Proofs
open Go.Proofs.Sp (Sp)

theorem tw_len : ∀ (l : List UInt8), (l.takeWhile Rp.isDig).length ≤ l.length
  | [] => Nat.le_refl _
  | c :: l => by
    rw [List.takeWhile_cons]
    have := tw_len l
    split <;> simp <;> omega
theorem tw_dig : ∀ (l : List UInt8) (x : UInt8), x ∈ l.takeWhile Rp.isDig → Rp.isDig x = true
  | [], x, h => by cases h
  | c :: l, x, h => by
    rw [List.takeWhile_cons] at h
    split at h
    · rename_i hc
      rcases List.mem_cons.1 h with h | h
      · rw [h]; exact hc
      · exact tw_dig l x h
    · cases h
theorem numR_bd (l : List UInt8) : 0 ≤ (Rp.numR l).1 ∧ (Rp.numR l).1 < 1000000000000000 ∧ (Rp.numR l).2 ≤ l.length ∧ (Rp.numR l).2 ≤ 15 := by
  unfold Rp.numR
  split
  · rename_i h
    simp only [Rp.numOk, Bool.and_eq_true, decide_eq_true_eq] at h
    have hd : (Rp.digs l).all Rp.isDig = true := by
      unfold Rp.digs
      rw [List.all_eq_true]
      intro x hx
      exact tw_dig _ x (List.mem_of_mem_take hx)
    have := Rp.valF_le hd h.1.2
    refine ⟨this.1, this.2, ?_, h.1.2⟩
    show (Rp.digs l).length ≤ _
    unfold Rp.digs
    rw [List.length_take]
    exact Nat.le_trans (Nat.min_le_right _ _) (tw_len _)
  · exact ⟨Int.le_refl _, by decide, Nat.zero_le _, by decide⟩
theorem rnumber_at (s : ByteArray) (i : Nat) (n : Int) (k : Nat) (h : Rp.numR (s.data.toList.drop i) = (n, k)) (hs : s.size ≤ 10000) (w : World) :
    Calls Tryz.prog 97 #[.string (s.extract i s.size)] w fun e w' => e = .returned (.agg #[.int .i64 n, .int .i64 k]) ∧ Ext w w' := by
  have e := Lib.extract_to_end s i
  have := rnumber_any (s.extract i s.size) w (by rw [ByteArray.size_extract]; omega)
  rw [e, h] at this
  exact this
set_option maxHeartbeats 1000000 in
set_option maxRecDepth 100000 in
theorem rpart7_any (s : ByteArray) (size : Int) (w : World) (hs : s.size ≤ 10000) (h0 : 0 ≤ size) (h1 : size ≤ 1099511627776) :
    Calls Tryz.prog 68 #[.string s, .int .i64 size] w fun e w' => e = .returned (.agg #[.int .i64 (Rp.partR size s.data.toList).1.1, .int .i64 (Rp.partR size s.data.toList).1.2, .int .i64 (Rp.partR size s.data.toList).2]) ∧ Ext w w' := by
  have hl : s.data.toList.length = s.size := by simp
  obtain ⟨⟨⟨r1, r2⟩, r3⟩, hr⟩ : ∃ p, Rp.partR size s.data.toList = p := ⟨_, rfl⟩
  rw [hr]
  have hr2 := hr
  unfold Rp.partR at hr2
  clear hr
  by_cases hA : ∃ h : 0 < s.size, s[0].toNat = 45
  · obtain ⟨hp, h45⟩ := hA
    rw [if_pos (by rw [head_at s hp]; congr 1; exact UInt8.toNat_inj.1 h45)] at hr2
    obtain ⟨⟨n, k⟩, hn⟩ : ∃ p, Rp.numR s.data.toList.tail = p := ⟨_, rfl⟩
    have hbd := numR_bd s.data.toList.tail
    rw [hn] at hbd hr2
    have HN1 := Lib.hid (rnumber_at s 1 n k (by rw [List.drop_one]; exact hn) hs)
    have HN2 := HN1
    simp only [] at hbd hr2
    obtain ⟨b0, b1, _, b2⟩ := hbd
    clear hn hl
    by_cases hk : k = 0
    · subst hk
      rw [if_pos rfl] at hr2
      have HR := Lib.hid hr2.symm
      clear hr2
      go_enter Tryz.func68, Tryz.ntmps68
      go_wp2_with (go_at_call 97; first | (with_reducible refine (HN1.out _).mono ?_; rintro e w' ⟨rfl, hxl⟩; obtain ⟨xl, rfl⟩ := hxl.asLater; clear hxl) | (with_reducible refine (HN2.out _).mono ?_; rintro e w' ⟨rfl, hxl⟩; obtain ⟨xl, rfl⟩ := hxl.asLater; clear hxl) | refine (show Hid _ from ?_).out)
      all_goals first | (exfalso; omega) | skip
      all_goals
        refine bodyPost_ret (v := .agg #[.int .i64 r1, .int .i64 r2, .int .i64 r3]) ?_ rfl ⟨rfl, (by (repeat (first | with_reducible exact Ext.refl _ | with_reducible exact Ext.refl _ | with_reducible refine Ext.drew ?_ | with_reducible refine Ext.drewN ?_ _ | with_reducible refine Ext.alloc ?_ _ | with_reducible refine Ext.onto ?_ _ | (with_reducible refine Ext.setCells ?_ ?_ _ _; rotate_left; focus (first | omega | (simp; done) | (simp; omega))) | (with_reducible refine Ext.setCell ?_ ?_ _; rotate_left; focus (first | omega | (simp; done) | (simp; omega))))))⟩
        obtain ⟨⟨rfl, rfl⟩, rfl⟩ := (Prod.mk.inj HR.out).imp_left Prod.mk.inj
        simp [results, Tryz.results68, go_sem, ↓IntWalk.iteOmega]
    · rw [if_neg hk] at hr2
      have HR := Lib.hid hr2.symm
      clear hr2
      go_enter Tryz.func68, Tryz.ntmps68
      go_wp2_with (go_at_call 97; first | (with_reducible refine (HN1.out _).mono ?_; rintro e w' ⟨rfl, hxl⟩; obtain ⟨xl, rfl⟩ := hxl.asLater; clear hxl) | (with_reducible refine (HN2.out _).mono ?_; rintro e w' ⟨rfl, hxl⟩; obtain ⟨xl, rfl⟩ := hxl.asLater; clear hxl) | refine (show Hid _ from ?_).out)
      all_goals first | (exfalso; omega) | skip
      all_goals
        refine bodyPost_ret (v := .agg #[.int .i64 r1, .int .i64 r2, .int .i64 r3]) ?_ rfl ⟨rfl, (by (repeat (first | with_reducible exact Ext.refl _ | with_reducible exact Ext.refl _ | with_reducible refine Ext.drew ?_ | with_reducible refine Ext.drewN ?_ _ | with_reducible refine Ext.alloc ?_ _ | with_reducible refine Ext.onto ?_ _ | (with_reducible refine Ext.setCells ?_ ?_ _ _; rotate_left; focus (first | omega | (simp; done) | (simp; omega))) | (with_reducible refine Ext.setCell ?_ ?_ _; rotate_left; focus (first | omega | (simp; done) | (simp; omega))))))⟩
        obtain ⟨⟨rfl, rfl⟩, rfl⟩ := (Prod.mk.inj HR.out).imp_left Prod.mk.inj
        simp [results, Tryz.results68, go_sem, ↓IntWalk.iteOmega]
  · have hh : ¬ s.data.toList.head? = some 45 := by
      intro e
      by_cases hp : 0 < s.size
      · rw [head_at s hp] at e
        exact hA ⟨hp, by rw [Option.some.inj e]; rfl⟩
      · rw [List.eq_nil_of_length_eq_zero (by omega : s.data.toList.length = 0)] at e
        cases e
    rw [if_neg hh] at hr2
    obtain ⟨⟨n, k⟩, hn⟩ : ∃ p, Rp.numR s.data.toList = p := ⟨_, rfl⟩
    have hbd := numR_bd s.data.toList
    rw [hn] at hbd hr2
    have hx0 : s.extract 0 s.size = s := by
      apply ByteArray.ext
      apply Array.toList_inj.1
      rw [Lib.extract_to_end]; rfl
    have HN1 := Lib.hid (rnumber_at s 0 n k (by rw [List.drop_zero]; exact hn) hs)
    rw [hx0] at HN1
    simp only [] at hbd hr2
    obtain ⟨b0, b1, b3, b2⟩ := hbd
    rw [hl] at b3
    have HNA : Hid (∀ h : 0 < s.size, ¬ s[0].toNat = 45) := Lib.hid (fun h e => hA ⟨h, e⟩)
    clear hn hh hA
    by_cases hB : k = 0 ∨ s.size ≤ k ∨ ∃ h : k < s.size, ¬ s[k].toNat = 45
    · rw [if_pos (by
        rw [hl]
        refine hB.imp id (Or.imp id ?_)
        rintro ⟨h, e⟩ e2
        rw [List.getElem?_eq_getElem (by rw [hl]; exact h), byte_at s k h] at e2
        exact e (by rw [Option.some.inj e2]; rfl))] at hr2
      have HR := Lib.hid hr2.symm
      have HN2 := HN1
      clear hr2 hl hx0
      by_cases hp : 0 < s.size
      · have hna := HNA.out hp
        clear HNA
        by_cases hk0 : k = 0
        · subst hk0
          clear hB
          go_enter Tryz.func68, Tryz.ntmps68
          go_wp2_with (go_at_call 97; first | (with_reducible refine (HN1.out _).mono ?_; rintro e w' ⟨rfl, hxl⟩; obtain ⟨xl, rfl⟩ := hxl.asLater; clear hxl) | (with_reducible refine (HN2.out _).mono ?_; rintro e w' ⟨rfl, hxl⟩; obtain ⟨xl, rfl⟩ := hxl.asLater; clear hxl) | refine (show Hid _ from ?_).out)
          all_goals first | (exfalso; omega) | skip
          all_goals
            refine bodyPost_ret (v := .agg #[.int .i64 r1, .int .i64 r2, .int .i64 r3]) ?_ rfl ⟨rfl, (by (repeat (first | with_reducible exact Ext.refl _ | with_reducible exact Ext.refl _ | with_reducible refine Ext.drew ?_ | with_reducible refine Ext.drewN ?_ _ | with_reducible refine Ext.alloc ?_ _ | with_reducible refine Ext.onto ?_ _ | (with_reducible refine Ext.setCells ?_ ?_ _ _; rotate_left; focus (first | omega | (simp; done) | (simp; omega))) | (with_reducible refine Ext.setCell ?_ ?_ _; rotate_left; focus (first | omega | (simp; done) | (simp; omega))))))⟩
            obtain ⟨⟨rfl, rfl⟩, rfl⟩ := (Prod.mk.inj HR.out).imp_left Prod.mk.inj
            simp [results, Tryz.results68, go_sem, ↓IntWalk.iteOmega]
        by_cases hks : s.size ≤ k
        · clear hB
          go_enter Tryz.func68, Tryz.ntmps68
          go_wp2_with (go_at_call 97; first | (with_reducible refine (HN1.out _).mono ?_; rintro e w' ⟨rfl, hxl⟩; obtain ⟨xl, rfl⟩ := hxl.asLater; clear hxl) | (with_reducible refine (HN2.out _).mono ?_; rintro e w' ⟨rfl, hxl⟩; obtain ⟨xl, rfl⟩ := hxl.asLater; clear hxl) | refine (show Hid _ from ?_).out)
          all_goals first | (exfalso; omega) | skip
          all_goals
            refine bodyPost_ret (v := .agg #[.int .i64 r1, .int .i64 r2, .int .i64 r3]) ?_ rfl ⟨rfl, (by (repeat (first | with_reducible exact Ext.refl _ | with_reducible exact Ext.refl _ | with_reducible refine Ext.drew ?_ | with_reducible refine Ext.drewN ?_ _ | with_reducible refine Ext.alloc ?_ _ | with_reducible refine Ext.onto ?_ _ | (with_reducible refine Ext.setCells ?_ ?_ _ _; rotate_left; focus (first | omega | (simp; done) | (simp; omega))) | (with_reducible refine Ext.setCell ?_ ?_ _; rotate_left; focus (first | omega | (simp; done) | (simp; omega))))))⟩
            obtain ⟨⟨rfl, rfl⟩, rfl⟩ := (Prod.mk.inj HR.out).imp_left Prod.mk.inj
            simp [results, Tryz.results68, go_sem, ↓IntWalk.iteOmega]
        have hlt : k < s.size := by omega
        have h45 : ¬ s[k].toNat = 45 := by
          rcases hB with h | h | ⟨_, h⟩
          · omega
          · omega
          · exact h
        have hmin : min (k : Int) ((s.size : Int) - 1) = k := by omega
        have h45b : ((s[k].toNat : Int) != 45) = true := by simp; omega
        have hk0b : ((k : Int) == 0) = false := by simp; omega
        clear hB
        go_enter Tryz.func68, Tryz.ntmps68
        go_wp2_with (go_at_call 97; first | (with_reducible refine (HN1.out _).mono ?_; rintro e w' ⟨rfl, hxl⟩; obtain ⟨xl, rfl⟩ := hxl.asLater; clear hxl) | (with_reducible refine (HN2.out _).mono ?_; rintro e w' ⟨rfl, hxl⟩; obtain ⟨xl, rfl⟩ := hxl.asLater; clear hxl) | refine (show Hid _ from ?_).out)
        all_goals first | (exfalso; omega) | skip
        all_goals
          refine bodyPost_ret (v := .agg #[.int .i64 r1, .int .i64 r2, .int .i64 r3]) ?_ rfl ⟨rfl, (by (repeat (first | with_reducible exact Ext.refl _ | with_reducible exact Ext.refl _ | with_reducible refine Ext.drew ?_ | with_reducible refine Ext.drewN ?_ _ | with_reducible refine Ext.alloc ?_ _ | with_reducible refine Ext.onto ?_ _ | (with_reducible refine Ext.setCells ?_ ?_ _ _; rotate_left; focus (first | omega | (simp; done) | (simp; omega))) | (with_reducible refine Ext.setCell ?_ ?_ _; rotate_left; focus (first | omega | (simp; done) | (simp; omega))))))⟩
          obtain ⟨⟨rfl, rfl⟩, rfl⟩ := (Prod.mk.inj HR.out).imp_left Prod.mk.inj
          simp [results, Tryz.results68, go_sem, ↓IntWalk.iteOmega]
      · clear HNA hB
        have hk0 : k = 0 := by omega
        subst hk0
        go_enter Tryz.func68, Tryz.ntmps68
        go_wp2_with (go_at_call 97; first | (with_reducible refine (HN1.out _).mono ?_; rintro e w' ⟨rfl, hxl⟩; obtain ⟨xl, rfl⟩ := hxl.asLater; clear hxl) | (with_reducible refine (HN2.out _).mono ?_; rintro e w' ⟨rfl, hxl⟩; obtain ⟨xl, rfl⟩ := hxl.asLater; clear hxl) | refine (show Hid _ from ?_).out)
        all_goals first | (exfalso; omega) | skip
        all_goals
          refine bodyPost_ret (v := .agg #[.int .i64 r1, .int .i64 r2, .int .i64 r3]) ?_ rfl ⟨rfl, (by (repeat (first | with_reducible exact Ext.refl _ | with_reducible exact Ext.refl _ | with_reducible refine Ext.drew ?_ | with_reducible refine Ext.drewN ?_ _ | with_reducible refine Ext.alloc ?_ _ | with_reducible refine Ext.onto ?_ _ | (with_reducible refine Ext.setCells ?_ ?_ _ _; rotate_left; focus (first | omega | (simp; done) | (simp; omega))) | (with_reducible refine Ext.setCell ?_ ?_ _; rotate_left; focus (first | omega | (simp; done) | (simp; omega))))))⟩
          obtain ⟨⟨rfl, rfl⟩, rfl⟩ := (Prod.mk.inj HR.out).imp_left Prod.mk.inj
          simp [results, Tryz.results68, go_sem, ↓IntWalk.iteOmega]
    · have hp : 0 < s.size := by omega
      have hna := HNA.out hp
      have hk0 : ¬ k = 0 := fun e => hB (.inl e)
      have hlt : k < s.size := by
        rcases Nat.lt_or_ge k s.size with h | h
        · exact h
        · exact absurd (.inr (.inl h)) hB
      have h45 : s[k].toNat = 45 := Classical.byContradiction fun e => hB (.inr (.inr ⟨hlt, e⟩))
      have hmin : min (k : Int) ((s.size : Int) - 1) = k := by omega
      rw [if_neg (by
        rw [hl]
        rintro (h | h | h)
        · exact hk0 h
        · omega
        · apply h
          rw [List.getElem?_eq_getElem (by rw [hl]; exact hlt), byte_at s k hlt]
          congr 1; exact UInt8.toNat_inj.1 h45)] at hr2
      obtain ⟨⟨m, j⟩, hm⟩ : ∃ p, Rp.numR (s.data.toList.drop (k + 1)) = p := ⟨_, rfl⟩
      have hbm := numR_bd (s.data.toList.drop (k + 1))
      rw [hm] at hbm hr2
      have HN2 := Lib.hid (rnumber_at s (k + 1) m j hm hs)
      simp only [] at hbm hr2
      obtain ⟨c0, c1, c3, c2⟩ := hbm
      rw [List.length_drop, hl] at c3
      have h45b : ((s[k].toNat : Int) != 45) = false := by simp; omega
      have hk0b : ((k : Int) == 0) = false := by simp; omega
      have hx1 : (s.extract (k + 1) s.size).size = s.size - (k + 1) := by rw [ByteArray.size_extract]; omega
      have hxb : ∀ h : k + 1 < s.size, (s.extract (k + 1) s.size)[0]'(by omega) = s[k + 1] := fun h => by
        rw [ByteArray.getElem_extract]
      have hdl : (s.data.toList.drop (k + 1)).head? = if h : k + 1 < s.size then some s[k + 1] else none := by
        rw [List.head?_drop]
        split
        · rename_i h
          rw [List.getElem?_eq_getElem (by rw [hl]; exact h), byte_at s (k + 1) h]
        · rename_i h
          rw [List.getElem?_eq_none (by rw [hl]; omega)]
      have hdn : s.data.toList.drop (k + 1) = [] ↔ ¬ k + 1 < s.size := by
        rw [List.drop_eq_nil_iff, hl]; omega
      clear hm hB HNA hx0
      by_cases hj : j = 0
      · subst hj
        rw [if_pos rfl] at hr2
        by_cases hC : ∃ h : k + 1 < s.size, ¬ s[k + 1].toNat = 44
        · obtain ⟨hk1, h44⟩ := hC
          rw [if_pos ⟨fun e => (hdn.1 e) hk1, by
            rw [hdl, dif_pos hk1]
            intro e
            exact h44 (by rw [Option.some.inj e]; rfl)⟩] at hr2
          have HR := Lib.hid hr2.symm
          have hxb0 := hxb hk1
          have h44b : ((s[k + 1].toNat : Int) != 44) = true := by simp; omega
          clear hr2 hdl hdn hxb
          go_enter Tryz.func68, Tryz.ntmps68
          go_wp2_with (go_at_call 97; first | (with_reducible refine (HN1.out _).mono ?_; rintro e w' ⟨rfl, hxl⟩; obtain ⟨xl, rfl⟩ := hxl.asLater; clear hxl) | (with_reducible refine (HN2.out _).mono ?_; rintro e w' ⟨rfl, hxl⟩; obtain ⟨xl, rfl⟩ := hxl.asLater; clear hxl) | refine (show Hid _ from ?_).out)
          all_goals first | (exfalso; omega) | skip
          all_goals
            refine bodyPost_ret (v := .agg #[.int .i64 r1, .int .i64 r2, .int .i64 r3]) ?_ rfl ⟨rfl, (by (repeat (first | with_reducible exact Ext.refl _ | with_reducible exact Ext.refl _ | with_reducible refine Ext.drew ?_ | with_reducible refine Ext.drewN ?_ _ | with_reducible refine Ext.alloc ?_ _ | with_reducible refine Ext.onto ?_ _ | (with_reducible refine Ext.setCells ?_ ?_ _ _; rotate_left; focus (first | omega | (simp; done) | (simp; omega))) | (with_reducible refine Ext.setCell ?_ ?_ _; rotate_left; focus (first | omega | (simp; done) | (simp; omega))))))⟩
            obtain ⟨⟨rfl, rfl⟩, rfl⟩ := (Prod.mk.inj HR.out).imp_left Prod.mk.inj
            simp [results, Tryz.results68, go_sem, ↓IntWalk.iteOmega]
        · have hC' : ∀ h : k + 1 < s.size, s[k + 1].toNat = 44 := fun h => Classical.byContradiction fun e => hC ⟨h, e⟩
          rw [if_neg (by
            rintro ⟨e1, e2⟩
            have hk1 : k + 1 < s.size := Classical.byContradiction fun e => e1 (hdn.2 e)
            rw [hdl, dif_pos hk1] at e2
            exact e2 (by congr 1; exact UInt8.toNat_inj.1 (hC' hk1)))] at hr2
          have HR := Lib.hid hr2.symm
          clear hr2 hdl hdn hC
          by_cases hk1 : k + 1 < s.size
          · have hxb0 := hxb hk1
            have h44 := hC' hk1
            have h44b : ((s[k + 1].toNat : Int) != 44) = false := by simp; omega
            clear hxb hC'
            go_enter Tryz.func68, Tryz.ntmps68
            go_wp2_with (go_at_call 97; first | (with_reducible refine (HN1.out _).mono ?_; rintro e w' ⟨rfl, hxl⟩; obtain ⟨xl, rfl⟩ := hxl.asLater; clear hxl) | (with_reducible refine (HN2.out _).mono ?_; rintro e w' ⟨rfl, hxl⟩; obtain ⟨xl, rfl⟩ := hxl.asLater; clear hxl) | refine (show Hid _ from ?_).out)
            all_goals first | (exfalso; omega) | skip
            all_goals
              refine bodyPost_ret (v := .agg #[.int .i64 r1, .int .i64 r2, .int .i64 r3]) ?_ rfl ⟨rfl, (by (repeat (first | with_reducible exact Ext.refl _ | with_reducible exact Ext.refl _ | with_reducible refine Ext.drew ?_ | with_reducible refine Ext.drewN ?_ _ | with_reducible refine Ext.alloc ?_ _ | with_reducible refine Ext.onto ?_ _ | (with_reducible refine Ext.setCells ?_ ?_ _ _; rotate_left; focus (first | omega | (simp; done) | (simp; omega))) | (with_reducible refine Ext.setCell ?_ ?_ _; rotate_left; focus (first | omega | (simp; done) | (simp; omega))))))⟩
              obtain ⟨⟨rfl, rfl⟩, rfl⟩ := (Prod.mk.inj HR.out).imp_left Prod.mk.inj
              simp [results, Tryz.results68, go_sem, ↓IntWalk.iteOmega]
          · have hx0 : (s.extract (k + 1) s.size).size = 0 := by omega
            clear hxb hC'
            go_enter Tryz.func68, Tryz.ntmps68
            go_wp2_with (go_at_call 97; first | (with_reducible refine (HN1.out _).mono ?_; rintro e w' ⟨rfl, hxl⟩; obtain ⟨xl, rfl⟩ := hxl.asLater; clear hxl) | (with_reducible refine (HN2.out _).mono ?_; rintro e w' ⟨rfl, hxl⟩; obtain ⟨xl, rfl⟩ := hxl.asLater; clear hxl) | refine (show Hid _ from ?_).out)
            all_goals first | (exfalso; omega) | skip
            all_goals
              refine bodyPost_ret (v := .agg #[.int .i64 r1, .int .i64 r2, .int .i64 r3]) ?_ rfl ⟨rfl, (by (repeat (first | with_reducible exact Ext.refl _ | with_reducible exact Ext.refl _ | with_reducible refine Ext.drew ?_ | with_reducible refine Ext.drewN ?_ _ | with_reducible refine Ext.alloc ?_ _ | with_reducible refine Ext.onto ?_ _ | (with_reducible refine Ext.setCells ?_ ?_ _ _; rotate_left; focus (first | omega | (simp; done) | (simp; omega))) | (with_reducible refine Ext.setCell ?_ ?_ _; rotate_left; focus (first | omega | (simp; done) | (simp; omega))))))⟩
              obtain ⟨⟨rfl, rfl⟩, rfl⟩ := (Prod.mk.inj HR.out).imp_left Prod.mk.inj
              simp [results, Tryz.results68, go_sem, ↓IntWalk.iteOmega]
      · rw [if_neg hj] at hr2
        clear hdl hdn hxb
        have hj0b : ((j : Int) == 0) = false := by simp; omega
        by_cases hmn : m < n
        · rw [if_pos hmn] at hr2
          have HR := Lib.hid hr2.symm
          clear hr2
          go_enter Tryz.func68, Tryz.ntmps68
          go_wp2_with (go_at_call 97; first | (with_reducible refine (HN1.out _).mono ?_; rintro e w' ⟨rfl, hxl⟩; obtain ⟨xl, rfl⟩ := hxl.asLater; clear hxl) | (with_reducible refine (HN2.out _).mono ?_; rintro e w' ⟨rfl, hxl⟩; obtain ⟨xl, rfl⟩ := hxl.asLater; clear hxl) | refine (show Hid _ from ?_).out)
          all_goals first | (exfalso; omega) | skip
          all_goals
            refine bodyPost_ret (v := .agg #[.int .i64 r1, .int .i64 r2, .int .i64 r3]) ?_ rfl ⟨rfl, (by (repeat (first | with_reducible exact Ext.refl _ | with_reducible exact Ext.refl _ | with_reducible refine Ext.drew ?_ | with_reducible refine Ext.drewN ?_ _ | with_reducible refine Ext.alloc ?_ _ | with_reducible refine Ext.onto ?_ _ | (with_reducible refine Ext.setCells ?_ ?_ _ _; rotate_left; focus (first | omega | (simp; done) | (simp; omega))) | (with_reducible refine Ext.setCell ?_ ?_ _; rotate_left; focus (first | omega | (simp; done) | (simp; omega))))))⟩
            obtain ⟨⟨rfl, rfl⟩, rfl⟩ := (Prod.mk.inj HR.out).imp_left Prod.mk.inj
            simp [results, Tryz.results68, go_sem, ↓IntWalk.iteOmega]
        · rw [if_neg hmn] at hr2
          have HR := Lib.hid hr2.symm
          clear hr2
          go_enter Tryz.func68, Tryz.ntmps68
          go_wp2_with (go_at_call 97; first | (with_reducible refine (HN1.out _).mono ?_; rintro e w' ⟨rfl, hxl⟩; obtain ⟨xl, rfl⟩ := hxl.asLater; clear hxl) | (with_reducible refine (HN2.out _).mono ?_; rintro e w' ⟨rfl, hxl⟩; obtain ⟨xl, rfl⟩ := hxl.asLater; clear hxl) | refine (show Hid _ from ?_).out)
          all_goals first | (exfalso; omega) | skip
          all_goals
            refine bodyPost_ret (v := .agg #[.int .i64 r1, .int .i64 r2, .int .i64 r3]) ?_ rfl ⟨rfl, (by (repeat (first | with_reducible exact Ext.refl _ | with_reducible exact Ext.refl _ | with_reducible refine Ext.drew ?_ | with_reducible refine Ext.drewN ?_ _ | with_reducible refine Ext.alloc ?_ _ | with_reducible refine Ext.onto ?_ _ | (with_reducible refine Ext.setCells ?_ ?_ _ _; rotate_left; focus (first | omega | (simp; done) | (simp; omega))) | (with_reducible refine Ext.setCell ?_ ?_ _; rotate_left; focus (first | omega | (simp; done) | (simp; omega))))))⟩
            obtain ⟨⟨rfl, rfl⟩, rfl⟩ := (Prod.mk.inj HR.out).imp_left Prod.mk.inj
            simp [results, Tryz.results68, go_sem, ↓IntWalk.iteOmega]
end Go.Proofs.YthhblgjbgjceiaaGreatDoor
