/- PROVED: weirgatelaw35.EntryOnlyGrowsOld returns true for every entry, rule, two periods, mode and number, and leaves its arguments as they were; the two tables of constants of the hashes hold what the program's text lays (the card ties them). No other condition. -/
import Derived.Test.YtiacnoejlmaplaaGreatDoorOe
import Derived.Test.YtiacnoejlmaplaaGreatDoorLg
import Derived.Test.YtiacnoejlmaplaaGreatDoorTie
import Derived.Test.YtiacnoejlmaplaaGreatDoorCards
import Derived.ProofKit
import Derived.Lay
import Derived.SevenTiedAt
import Derived.Stop.Joined
set_option linter.unusedVariables false
set_option linter.unusedSimpArgs false
namespace Go.Proofs.YtiacnoejlmaplaaGreatDoor
open Go.ChangeShapes Go.WideShapes Go.ChangeAt Go.RowKit
open Go.Proofs

theorem laid35 {W : World} (h : laidMetH Tryz.prog Rows.entryOnlyGrowsOldRow.laid W) : Konst 0 W ∧ RKonst W := by
  rw [MakeChecks.laidMetH_plain _ _ _ (by kernel_rfl)] at h
  obtain ⟨ps, ⟨g0, t0, cs0, f0, p0, q0, hg0, ht0, hv0, hd0, ⟨g1, t1, cs1, f1, p1, q1, hg1, ht1, hv1, hd1, _, rfl⟩, rfl⟩, _, hf⟩ := h
  obtain rfl := Option.some.inj ((show Tryz.prog.globalNamed "weirgate/weirgateref02.constants" = some 1 by kernel_rfl).symm.trans hg0)
  obtain rfl := Option.some.inj ((show Tryz.prog.globalNamed "weirgate/hash.constants" = some 0 by kernel_rfl).symm.trans hg1)
  obtain rfl := Option.some.inj ((show (Tryz.prog.globals[(1 : Nat)]?).map (·.type) = some 155 by kernel_rfl).symm.trans ht0)
  obtain rfl := Option.some.inj ((show (Tryz.prog.globals[(0 : Nat)]?).map (·.type) = some 155 by kernel_rfl).symm.trans ht1)
  rw [laidRK] at hd0
  rw [laidK] at hd1
  exact ⟨table_at hg1 hv1 hd1 (fun x hx => by simp [hx]) hf, table_at hg0 hv0 hd0 (fun x hx => by simp [hx]) hf⟩

set_option maxRecDepth 100000 in
theorem entryOnlyGrowsOld_lifted (os : Os) (started : os.Started) (H : Type) (enc : TypeId × Value → H) :
    ReturnsInHanded {} Tryz.checked os 3 .any (fun w args => (Rows.entryOnlyGrowsOldSpec.pre enc Tryz.prog Tryz.f3 Rows.entryOnlyGrowsOldRow.domain false w args ∧ laidMetH Tryz.prog Rows.entryOnlyGrowsOldRow.laid w) ∧ sizedMet enc Tryz.prog Tryz.f3 (OpenSpec.ofChange Rows.entryOnlyGrowsOldSpec) false w args)
      (Rows.entryOnlyGrowsOldSpec.post enc Tryz.prog Tryz.f3 false true false false) := by
  refine returnsInHanded_of_change_and (C := Tryz.checked) (X := fun w _ => laidMetH Tryz.prog Rows.entryOnlyGrowsOldRow.laid w) (fun _ _ _ hh h => h.of_heap hh) Tryz.own started (by kernel_rfl) Tryz.func3
    (ChangeSpec.witness_shaped (enc := enc) (C := Tryz.checked) (os := os) (X := fun w _ => laidMetH Tryz.prog Rows.entryOnlyGrowsOldRow.laid w) false (World.laidAll Tryz.prog os Rows.entryOnlyGrowsOldRow.laid) #[.agg (entC noEn), .agg (ruC noRu), .agg #[.int .i64 0, .int .i64 0], .agg #[.int .i64 0, .int .i64 0], .int .i64 0, .int .u16 0] 8 (World.laidAll_os _ _ _)
      (World.shaped_of_ZipB (by kernel_rfl) (by kernel_rfl)) (by kernel_rfl) (by kernel_rfl) (by kernel_rfl)
      (by rw [MakeChecks.laidMetH_plain _ _ _ (by kernel_rfl)]; exact laidMet_laidAll _ (by kernel_rfl) (by kernel_rfl))) ?_
  intro W base args ds gs before hval0 hW hcnd _ hL _
  have hval : ∀ (j : Nat) t v, Tryz.f3.params[j]? = some t → args[j]? = some v → Value.okWide Tryz.prog W .any base t v := hval0
  have hW' := hW
  obtain ⟨p, q, hA0, hV, rfl, hfz, hnd⟩ := hW
  have hA : DataW.TrodAll enc Tryz.prog W 0 (fun _ => true) true Tryz.f3.params.toList args.toList ds p := hA0
  rw [Tryz.params3] at hA hval
  obtain ⟨rfl, rfl⟩ := trodVars_none hV
  clear hA0 hval0 hcnd
  obtain ⟨v0, vs0, d0, ds0, p0, q0, ea0, rfl, rfl, h0, hA⟩ := trodAll_cons hA
  obtain ⟨v1, vs1, d1, ds1, p1, q1, rfl, rfl, rfl, h1, hA⟩ := trodAll_cons hA
  obtain ⟨v2, vs2, d2, ds2, p2, q2, rfl, rfl, rfl, h2, hA⟩ := trodAll_cons hA
  obtain ⟨v3, vs3, d3, ds3, p3, q3, rfl, rfl, rfl, h3, hA⟩ := trodAll_cons hA
  obtain ⟨v4, vs4, d4, ds4, p4, q4, rfl, rfl, rfl, h4, hA⟩ := trodAll_cons hA
  obtain ⟨v5, vs5, d5, ds5, p5, q5, rfl, rfl, rfl, h5, hA⟩ := trodAll_cons hA
  obtain ⟨rfl, rfl, rfl⟩ := trodAll_nil hA
  obtain rfl : args = #[v0, v1, v2, v3, v4, v5] := by cases args; simp_all
  obtain ⟨hk, hrk⟩ := laid35 hL
  obtain ⟨e, A, c, l, rfl, hin⟩ := open_entry (hval 0 31 v0 rfl rfl) h0
  obtain ⟨r, rfl, hru⟩ := open_rule (hval 1 38 v1 rfl rfl) h1
  obtain ⟨a1, b1, rfl, _, _⟩ := open_period (hval 2 25 v2 rfl rfl) h2
  obtain ⟨a2, b2, rfl, _, _⟩ := open_period (hval 3 25 v3 rfl rfl) h3
  obtain ⟨mode, rfl, _, _, _⟩ := open_int Tryz.underlying3 (hval 4 3 v4 rfl rfl) h4
  obtain ⟨n, rfl, _, _, wn⟩ := open_int Tryz.underlying39 (hval 5 39 v5 rfl rfl) h5
  have hn : 0 ≤ n ∧ n < 65536 := by
    simp [Lit.wf, IntKind.min, IntKind.max, IntKind.signed, IntKind.bits] at wn
    omega
  obtain ⟨k, rfl⟩ : ∃ k : Nat, n = k := ⟨n.toNat, by omega⟩
  have main : Calls Tryz.prog 3 #[.agg (entC e), .agg (ruC r), .agg #[.int .i64 a1, .int .i64 b1], .agg #[.int .i64 a2, .int .i64 b2], .int .i64 mode, .int .u16 k] W fun e' w' => e' = .returned (.bool true) ∧ Ext W w' := by
    by_cases hc : fineB e l = true ∧ fairB r = true ∧ perB a1 b1 = true ∧ perB a2 b2 = true ∧ b1 ≤ b2
    · exact grows_ok e A c l r a1 b1 a2 b2 mode k W hin hru hk hrk (by omega) hc.1 hc.2.1 hc.2.2.1 hc.2.2.2.1 hc.2.2.2.2
    · exact grows_arg e A c l r a1 b1 a2 b2 mode k W hin hru hk hrk hc
  refine main.mono fun e' W' ⟨he, hx⟩ => ?_
  subst he
  exact ⟨_, rfl, law_post Tryz.laidOut (by kernel_rfl) rfl hW' hx 4 (by kernel_rfl) Tryz.underlying4 rfl rfl rfl⟩

theorem entryOnlyGrowsOld_holds : Rows.EntryOnlyGrowsOldSaid :=
  OpenClaim.holds_of_wide 3 Tryz.f3 rfl rfl rfl rfl rfl rfl rfl ⟨rfl, rfl, rfl, rfl, rfl⟩ rfl rfl rfl rfl rfl (by kernel_rfl) Tryz.func3 (by kernel_rfl)
    (of_decide_eq_true (by kernel_rfl)) (by unfold Func.isWrapper; first | (rw [if_pos (by decide +kernel)]; kernel_rfl) | (rw [if_neg (by decide +kernel)]; exact ⟨rfl, rfl⟩))
    (fun os started H enc _ => entryOnlyGrowsOld_lifted os started H enc)
theorem entryOnlyGrowsOld_card : Rows.EntryOnlyGrowsOldCardSaid :=
  Claim7.holds_tied_plain_at .later [] [.data, .data] true (true, "2871ac4b45b9498930140d65cbf4682331741e4557a9af76684163170be13575") false
    entryOnlyGrowsOld_holds (fun _ h => by cases h) (by kernel_rfl) (fun _ h => by cases h) entryOnlyGrowsOld_row_tie rfl ⟨rfl, rfl⟩ (by kernel_rfl) rfl
    (fun f fn hf hfn => by
      obtain rfl : f = 3 := Option.some.inj ((show Tryz.prog.funcNamed "weirgate/weirgatelaw35.EntryOnlyGrowsOld" = some 3 by kernel_rfl).symm.trans hf) |>.symm
      obtain rfl : fn = Tryz.f3 := (Option.some.inj (Tryz.func3.symm.trans hfn)).symm
      exact ⟨by kernel_rfl, fun j t ht => by
        rw [Tryz.params3] at ht
        have hm : t ∈ [31, 38, 25, 3, 39] := by simpa using Array.mem_of_getElem? ht
        have hall : ([31, 38, 25, 3, 39].all fun u => !Tryz.prog.wantsStandIn u) = true := by kernel_rfl
        exact (show Tryz.prog.wantsStandIn t = false by simpa using List.all_eq_true.1 hall t hm)⟩)
    (by kernel_rfl)
#print axioms entryOnlyGrowsOld_card
end Go.Proofs.YtiacnoejlmaplaaGreatDoor
