/- weirgatelaw35.EntryPutsAsSpecified, the lifted law: it returns true for every stamp, entry, number, bytes and span, and leaves its arguments as they were; the two tables of constants of the hashes hold what the program's text lays (the card ties them). No other condition. -/
import Derived.Test.YtiacnoejlmaplaaGreatDoorProg
import Derived.Test.YtiacnoejlmaplaaGreatDoorExt
import Derived.WalkKit
import Derived.WalkSpells
import Derived.WalkLawsBesides
import Derived.Deep.QuietTactic
import Derived.BigQuiet
import Derived.Test.YtiacnoejlmaplaaGreatDoorOe
import Derived.Test.YtiacnoejlmaplaaGreatDoorMn
import Derived.Test.YtiacnoejlmaplaaGreatDoorTie
import Derived.Test.YtiacnoejlmaplaaGreatDoorCards
import Derived.ProofKit
import Derived.Lay
import Derived.ChangeMaps5
import Derived.SevenTiedAt
import Derived.Stop.Joined
set_option linter.unusedVariables false
set_option linter.unusedSimpArgs false
namespace Go.Proofs.YtiacnoejlmaplaaGreatDoor
open Go.ChangeShapes Go.WideShapes Go.ChangeAt Go.RowKit
open Go.Proofs

set_option maxRecDepth 100000 in
theorem open_span {H : Type} {enc : TypeId × Value → H} {w : World} {base : Nat} {spare : Nat → Bool} {held : Bool} {r : Reach} {b0 : Nat} {v : Value} {d : DataW H} {p : List MemPlace} (hv : Value.okWide Tryz.prog w r b0 49 v) (h : DataW.Trod enc Tryz.prog w base spare held 49 v d p) :
    ∃ a b : Int, v = .agg #[.int .i64 a, .int .i64 b] := by
  obtain ⟨c0, c1, y0, y1, m, rfl, _, _, hy0, hy1⟩ := Go.Joins.open_agg2 Tryz.underlying49 (by kernel_rfl) (by kernel_rfl) hv h
  obtain ⟨a, e0, _, wa⟩ := DataW.trod_int Tryz.underlying3 hy0
  obtain ⟨b, e1, _, wb⟩ := DataW.trod_int Tryz.underlying3 hy1
  simp at e0 e1
  subst e0 e1
  exact ⟨a, b, rfl⟩
set_option maxRecDepth 100000 in
theorem open_stamp {H : Type} {enc : TypeId × Value → H} {w : World} {base : Nat} {spare : Nat → Bool} {held : Bool} {r : Reach} {b0 : Nat} {v : Value} {d : DataW H} {p : List MemPlace} (hv : Value.okWide Tryz.prog w r b0 28 v) (h : DataW.Trod enc Tryz.prog w base spare held 28 v d p) :
    ∃ s : St, v = .agg (stmC s) ∧ StIn s ∧ s.seal_.length = 16 ∧ Byt s.seal_ := by
  obtain ⟨cs, rfl, hsz⟩ := okWide_struct Tryz.underlying28 hv
  obtain ⟨fuel, hf⟩ := h
  obtain ⟨s, e0, l1, l2, l3, l4, l5, l6, l7⟩ := stm_of_trod hf
  have hcs : cs = stmC s := by
    apply Array.toList_inj.1
    exact e0
  unfold maxLen at *
  exact ⟨s, by rw [hcs], ⟨by omega, by omega, by omega, l1, l2⟩, l6, l7⟩
end Go.Proofs.YtiacnoejlmaplaaGreatDoor

namespace Go.Proofs.YtiacnoejlmaplaaGreatDoor
open Go.ChangeShapes Go.WideShapes Go.ChangeAt Go.ChangeMaps Go.RowKit
open Go.Proofs

set_option maxRecDepth 100000 in
theorem laidP {W : World} (h : laidMetH Tryz.prog Rows.entryPutsAsSpecifiedRow.laid W) : Konst 0 W ∧ RKonst W := by
  rw [MakeChecks.laidMetH_plain _ _ _ (by kernel_rfl)] at h
  obtain ⟨ps, ⟨ga, ta, csa, fa, pa, qa, hga, hta, hva, hda, ⟨g0, t0, cs0, f0, p0, q0, hg0, ht0, hv0, hd0, ⟨g1, t1, cs1, f1, p1, q1, hg1, ht1, hv1, hd1, _, rfl⟩, rfl⟩, rfl⟩, _, hf⟩ := h
  obtain rfl := Option.some.inj ((show Tryz.prog.globalNamed "weirgate/weirgateref02.constants" = some 1 by kernel_rfl).symm.trans hg0)
  obtain rfl := Option.some.inj ((show Tryz.prog.globalNamed "weirgate/hash.constants" = some 0 by kernel_rfl).symm.trans hg1)
  obtain rfl := Option.some.inj ((show (Tryz.prog.globals[(1 : Nat)]?).map (·.type) = some 155 by kernel_rfl).symm.trans ht0)
  obtain rfl := Option.some.inj ((show (Tryz.prog.globals[(0 : Nat)]?).map (·.type) = some 155 by kernel_rfl).symm.trans ht1)
  rw [laidRK] at hd0
  rw [laidK] at hd1
  exact ⟨table_at hg1 hv1 hd1 (fun x hx => by simp [hx]) hf, table_at hg0 hv0 hd0 (fun x hx => by simp [hx]) hf⟩

set_option maxRecDepth 100000 in
theorem entryPutsAsSpecified_lifted (os : Os) (started : os.Started) (H : Type) (enc : TypeId × Value → H) :
    ReturnsInHanded {} Tryz.checked os 5 .any (fun w args => (Rows.entryPutsAsSpecifiedSpec.pre enc Tryz.prog Tryz.f5 Rows.entryPutsAsSpecifiedRow.domain false w args ∧ laidMetH Tryz.prog Rows.entryPutsAsSpecifiedRow.laid w) ∧ sizedMet enc Tryz.prog Tryz.f5 (OpenSpec.ofChange Rows.entryPutsAsSpecifiedSpec) false w args)
      (Rows.entryPutsAsSpecifiedSpec.post enc Tryz.prog Tryz.f5 false true false false) := by
  refine returnsInHanded_of_change_and (C := Tryz.checked) (X := fun w _ => laidMetH Tryz.prog Rows.entryPutsAsSpecifiedRow.laid w) (fun _ _ _ hh h => h.of_heap hh) Tryz.own started (by kernel_rfl) Tryz.func5
    (ChangeSpec.witness_shaped (enc := enc) (C := Tryz.checked) (os := os) (X := fun w _ => laidMetH Tryz.prog Rows.entryPutsAsSpecifiedRow.laid w) false (World.laidAll Tryz.prog os Rows.entryPutsAsSpecifiedRow.laid) #[.agg (stmC noSt), .agg (entC noEn), .int .i64 0, .string ⟨#[]⟩, .agg #[.int .i64 0, .int .i64 0]] 8 (World.laidAll_os _ _ _)
      (World.shaped_of_ZipB (by kernel_rfl) (by kernel_rfl)) (by kernel_rfl) (by kernel_rfl) (by kernel_rfl)
      (by rw [MakeChecks.laidMetH_plain _ _ _ (by kernel_rfl)]; exact laidMet_laidAll _ (by kernel_rfl) (by kernel_rfl))) ?_
  intro W base args ds gs before hval0 hW hcnd _ hL _
  have hval : ∀ (j : Nat) t v, Tryz.f5.params[j]? = some t → args[j]? = some v → Value.okWide Tryz.prog W .any base t v := hval0
  have hW' := hW
  obtain ⟨p, q, hA0, hV, rfl, hfz, hnd⟩ := hW
  have hA : DataW.TrodAll enc Tryz.prog W 0 (fun _ => true) true Tryz.f5.params.toList args.toList ds p := hA0
  rw [Tryz.params5] at hA hval
  obtain ⟨rfl, rfl⟩ := trodVars_none hV
  clear hA0 hval0 hcnd
  obtain ⟨v0, vs0, d0, ds0, p0, q0, ea0, rfl, rfl, h0, hA⟩ := trodAll_cons hA
  obtain ⟨v1, vs1, d1, ds1, p1, q1, rfl, rfl, rfl, h1, hA⟩ := trodAll_cons hA
  obtain ⟨v2, vs2, d2, ds2, p2, q2, rfl, rfl, rfl, h2, hA⟩ := trodAll_cons hA
  obtain ⟨v3, vs3, d3, ds3, p3, q3, rfl, rfl, rfl, h3, hA⟩ := trodAll_cons hA
  obtain ⟨v4, vs4, d4, ds4, p4, q4, rfl, rfl, rfl, h4, hA⟩ := trodAll_cons hA
  obtain ⟨rfl, rfl, rfl⟩ := trodAll_nil hA
  obtain rfl : args = #[v0, v1, v2, v3, v4] := by cases args; simp_all
  obtain ⟨hk, hrk⟩ := laidP hL
  obtain ⟨s, rfl, hsin, _, _⟩ := open_stamp (hval 0 28 v0 rfl rfl) h0
  obtain ⟨e, A, c, l, rfl, hin⟩ := open_entry (hval 1 31 v1 rfl rfl) h1
  obtain ⟨f, rfl, _, _, wf⟩ := open_int Tryz.underlying3 (hval 2 3 v2 rfl rfl) h2
  obtain ⟨more, rfl, _, _, wm⟩ := open_string Tryz.underlying9 (hval 3 9 v3 rfl rfl) h3
  obtain ⟨s1, s2, rfl⟩ := open_span (hval 4 49 v4 rfl rfl) h4
  have hf : -9223372036854775808 ≤ f ∧ f ≤ 9223372036854775807 := by
    simp [Lit.wf, IntKind.min, IntKind.max, IntKind.signed, IntKind.bits] at wf
    omega
  unfold maxLen at wm
  have main : Calls Tryz.prog 5 #[.agg (stmC s), .agg (entC e), .int .i64 f, .string more, .agg #[.int .i64 s1, .int .i64 s2]] W fun e' w' => e' = .returned (.bool true) ∧ Ext W w' := by
    by_cases hc : 5000 < s.addr.size ∨ 5000 < s.var.size ∨ 5000 < s.tags.size ∨ (3000 < s.size ∧ s.size ≤ 65536) ∨ 3000 < more.size
    · exact puts_big s e f more s1 s2 W hk hrk hc hsin.h1 hsin.h2 hsin.h3 (by omega)
    · have hsm : smallD s more := ⟨by simp; omega, by simp; omega, by simp; omega, by simp; omega⟩
      by_cases h5 : 3000 < s.size
      · exact puts_b s e A c l f more s1 s2 W hsin hin hk hrk hsm hf (by simpa using h5) (by simp; omega)
      · exact puts_a s e A c l f more s1 s2 W hsin hin hk hrk hsm hf (by simpa using h5)
  refine main.mono fun e' W' ⟨he, hx⟩ => ?_
  subst he
  exact ⟨_, rfl, law_post Tryz.laidOut (by kernel_rfl) rfl hW' hx 4 (by kernel_rfl) Tryz.underlying4 rfl rfl rfl⟩

end Go.Proofs.YtiacnoejlmaplaaGreatDoor
