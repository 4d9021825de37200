/- weirgatelaw35.EntryIsWhatItsStampSays, the lifted law: it returns true for every stamp, pieces and bytes, and leaves its arguments as they were; the two tables of constants of the hashes hold what the program's text lays (the card ties them). No other condition. -/
import Derived.Test.YtpjacgcaibaggaaGreatDoorProg
import Derived.Test.YtpjacgcaibaggaaGreatDoorExt
import Derived.WalkKit
import Derived.WalkSpells
import Derived.WalkLawsBesides
import Derived.Deep.QuietTactic
import Derived.BigQuiet
import Derived.Test.YtpjacgcaibaggaaGreatDoorOe
import Derived.Test.YtpjacgcaibaggaaGreatDoorMy
import Derived.Test.YtpjacgcaibaggaaGreatDoorTie
import Derived.Test.YtpjacgcaibaggaaGreatDoorCards
import Derived.ProofKit
import Derived.Lay
import Derived.ChangeMaps5
import Derived.SevenTiedAt
import Derived.Stop.Joined
set_option linter.unusedVariables false
set_option linter.unusedSimpArgs false
namespace Go.Proofs.YtpjacgcaibaggaaGreatDoor
open Go.ChangeShapes Go.WideShapes Go.ChangeAt Go.ChangeMaps Go.RowKit
open Go.Proofs

set_option maxRecDepth 100000 in
theorem open_stamp {H : Type} {enc : TypeId × Value → H} {w : World} {base : Nat} {spare : Nat → Bool} {held : Bool} {r : Reach} {b0 : Nat} {v : Value} {d : DataW H} {p : List MemPlace} (hv : Value.okWide Tryz.prog w r b0 48 v) (h : DataW.Trod enc Tryz.prog w base spare held 48 v d p) :
    ∃ s : St, v = .agg (stmC s) ∧ StIn s ∧ s.seal_.length = 16 ∧ Byt s.seal_ := by
  obtain ⟨cs, rfl, hsz⟩ := okWide_struct Tryz.underlying48 hv
  obtain ⟨fuel, hf⟩ := h
  obtain ⟨s, e0, l1, l2, l3, l4, l5, l6, l7⟩ := stm_of_trod hf
  have hcs : cs = stmC s := by
    apply Array.toList_inj.1
    exact e0
  unfold maxLen at *
  exact ⟨s, by rw [hcs], ⟨by omega, by omega, by omega, l1, l2⟩, l6, l7⟩
set_option maxRecDepth 100000 in
theorem laidW {W : World} (h : laidMetH Tryz.prog Rows.entryIsWhatItsStampSaysRow.laid W) : Konst 0 W ∧ RKonst W := by
  rw [MakeChecks.laidMetH_plain _ _ _ (by kernel_rfl)] at h
  obtain ⟨ps, ⟨g0, t0, cs0, f0, p0, q0, hg0, ht0, hv0, hd0, ⟨g1, t1, cs1, f1, p1, q1, hg1, ht1, hv1, hd1, _, rfl⟩, rfl⟩, _, hf⟩ := h
  obtain rfl := Option.some.inj ((show Tryz.prog.globalNamed "weirgate/weirgateref02.constants" = some 1 by kernel_rfl).symm.trans hg0)
  obtain rfl := Option.some.inj ((show Tryz.prog.globalNamed "weirgate/hash.constants" = some 0 by kernel_rfl).symm.trans hg1)
  obtain rfl := Option.some.inj ((show (Tryz.prog.globals[(1 : Nat)]?).map (·.type) = some 222 by kernel_rfl).symm.trans ht0)
  obtain rfl := Option.some.inj ((show (Tryz.prog.globals[(0 : Nat)]?).map (·.type) = some 222 by kernel_rfl).symm.trans ht1)
  rw [laidRK] at hd0
  rw [laidK] at hd1
  exact ⟨table_at hg1 hv1 hd1 (fun x hx => by simp [hx]) hf, table_at hg0 hv0 hd0 (fun x hx => by simp [hx]) hf⟩

set_option maxRecDepth 100000 in
theorem entryIsWhatItsStampSays_lifted (os : Os) (started : os.Started) (H : Type) (enc : TypeId × Value → H) :
    ReturnsInHanded {} Tryz.checked os 6 .any (fun w args => (Rows.entryIsWhatItsStampSaysSpec.pre enc Tryz.prog Tryz.f6 Rows.entryIsWhatItsStampSaysRow.domain false w args ∧ laidMetH Tryz.prog Rows.entryIsWhatItsStampSaysRow.laid w) ∧ sizedMet enc Tryz.prog Tryz.f6 (OpenSpec.ofChange Rows.entryIsWhatItsStampSaysSpec) false w args)
      (Rows.entryIsWhatItsStampSaysSpec.post enc Tryz.prog Tryz.f6 false true false false) := by
  refine returnsInHanded_of_change_and (C := Tryz.checked) (X := fun w _ => laidMetH Tryz.prog Rows.entryIsWhatItsStampSaysRow.laid w) (fun _ _ _ hh h => h.of_heap hh) Tryz.own started (by kernel_rfl) Tryz.func6
    (ChangeSpec.witness_shaped (enc := enc) (C := Tryz.checked) (os := os) (X := fun w _ => laidMetH Tryz.prog Rows.entryIsWhatItsStampSaysRow.laid w) false (World.laidAll Tryz.prog os Rows.entryIsWhatItsStampSaysRow.laid) #[.agg (stmC noSt), .slice none 0 0, .string ⟨#[]⟩] 8 (World.laidAll_os _ _ _)
      (World.shaped_of_ZipB (by kernel_rfl) (by kernel_rfl)) (by kernel_rfl) (by kernel_rfl) (by kernel_rfl)
      (by rw [MakeChecks.laidMetH_plain _ _ _ (by kernel_rfl)]; exact laidMet_laidAll _ (by kernel_rfl) (by kernel_rfl))) ?_
  intro W base args ds gs before hval0 hW hcnd hSz hL _
  have hval : ∀ (j : Nat) t v, Tryz.f6.params[j]? = some t → args[j]? = some v → Value.okWide Tryz.prog W .any base t v := hval0
  have hW' := hW
  obtain ⟨p, q, hA0, hV, rfl, hfz, hnd⟩ := hW
  have hA : DataW.TrodAll enc Tryz.prog W 0 (fun _ => true) true Tryz.f6.params.toList args.toList ds p := hA0
  rw [Tryz.params6] at hA hval
  obtain ⟨rfl, rfl⟩ := trodVars_none hV
  clear hA0 hval0 hcnd
  obtain ⟨v0, vs0, d0, ds0, p0, q0, ea0, rfl, rfl, h0, hA⟩ := trodAll_cons hA
  obtain ⟨v1, vs1, d1, ds1, p1, q1, rfl, rfl, rfl, h1, hA⟩ := trodAll_cons hA
  obtain ⟨v2, vs2, d2, ds2, p2, q2, rfl, rfl, rfl, h2, hA⟩ := trodAll_cons hA
  obtain ⟨rfl, rfl, rfl⟩ := trodAll_nil hA
  obtain rfl : args = #[v0, v1, v2] := by cases args; simp_all
  obtain ⟨hk, hrk⟩ := laidW hL
  obtain ⟨s, rfl, hsin, hseal, _⟩ := open_stamp (hval 0 48 v0 rfl rfl) h0
  obtain ⟨A, c, l, rfl, hlm, hrd, hpin, hwt⟩ := open_pieces (hval 1 54 v1 rfl rfl) h1
  obtain ⟨wh, rfl, _, _, wm⟩ := open_string Tryz.underlying9 (hval 2 9 v2 rfl rfl) h2
  unfold maxLen at wm hlm
  have hw1 : ∀ n ∈ d1.weights Tryz.prog 54, n ≤ 140737488351232 := fun n hn => by
    have h := List.all_eq_true.1 hSz n (by rw [Tryz.params6]; simp [DataW.weightsEach]; exact .inr (.inl hn))
    have e : reachBytes = 140737488351232 := by decide
    rw [← e]
    simpa using h
  have main := what_ok s A c l wh W hsin hseal hlm hrd hpin (fun p hp => hw1 _ (hwt p hp)) wm hk hrk
  refine main.mono fun e' W' ⟨he, hx⟩ => ?_
  subst he
  exact ⟨_, rfl, law_post Tryz.laidOut (by kernel_rfl) rfl hW' hx 4 (by kernel_rfl) Tryz.underlying4 rfl rfl rfl⟩
end Go.Proofs.YtpjacgcaibaggaaGreatDoor
