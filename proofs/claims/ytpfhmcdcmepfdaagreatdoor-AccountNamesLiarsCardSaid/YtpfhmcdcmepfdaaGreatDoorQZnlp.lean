
import Derived.WalkKit
import Derived.WalkSpells
import Derived.WalkLawsBesides
import Derived.Deep.QuietTactic
import Derived.BigQuiet
import Derived.Test.YtpfhmcdcmepfdaaGreatDoorQKn
import Derived.Test.YtpfhmcdcmepfdaaGreatDoorTie
import Derived.Test.YtpfhmcdcmepfdaaGreatDoorCards
import Derived.ProofKit
import Derived.Lay
import Derived.ChangeMaps5
import Derived.SevenTiedAt
import Derived.Stop.Joined
set_option maxRecDepth 100000
set_option maxHeartbeats 64000000
set_option linter.unusedVariables false
set_option linter.unusedSimpArgs false
namespace Go.Proofs.YtpfhmcdcmepfdaaGreatDoor
open Go.ChangeShapes Go.WideShapes Go.ChangeAt Go.RowKit Go.Joins Go.Deep
open Go.Proofs
section
variable {H : Type} {enc : TypeId × Value → H} {w : World} {base : Nat} {spare : Nat → Bool} {held : Bool}
def LeIn (s : Le) : Prop := i64 s.site ∧ i64 s.epoch ∧ i64 s.until_ ∧ i64 s.serial ∧ DgOk s.sl
theorem le_of_trod {m : Nat} {L : List Value} {x : DataW H × List MemPlace} (h : DataW.trod enc Tryz.prog w base spare held m 87 L = some x) : ∃ s : Le, L = leL s ∧ LeIn s := by
 obtain ⟨xs, n, _, _, hlen, hxl, hg⟩ := DataW.trod_struct Tryz.underlying87 h
 have hC : Tryz.prog.cellsOf 87 = 20 := by kernel_rfl
 have q0 : Tryz.prog.cellsOf 3 = 1 := by kernel_rfl
 have q1 : Tryz.prog.cellsOf 30 = 16 := by kernel_rfl
 rw [hC] at hlen
 have hx9 : xs.length = 5 := hxl
 have g0 := hg 0 _ rfl
 have g1 := hg 1 _ rfl
 have g2 := hg 2 _ rfl
 have g3 := hg 3 _ rfl
 have g4 := hg 4 _ rfl
 simp only [List.getElem_toArray, List.getElem_cons_succ, List.getElem_cons_zero, q0, q1] at g0 g1 g2 g3 g4
 rw [List.getElem?_eq_getElem (by omega)] at g0 g1 g2 g3 g4
 obtain ⟨n0, e0, _, w0⟩ := DataW.trod_int Tryz.underlying3 g0
 obtain ⟨n1, e1, _, w1⟩ := DataW.trod_int Tryz.underlying3 g1
 obtain ⟨n2, e2, _, w2⟩ := DataW.trod_int Tryz.underlying3 g2
 obtain ⟨n3, e3, _, w3⟩ := DataW.trod_int Tryz.underlying3 g3
 obtain ⟨d4, e4, l4, y4⟩ := dg_of_trod Tryz.underlying30 q1 g4
 refine ⟨⟨n0, n1, n2, n3, d4⟩, ?_, i64_wf w0 , i64_wf w1 , i64_wf w2 , i64_wf w3 , ⟨l4, y4⟩⟩
 have e : L = L.drop 0 := rfl
 have j0 := seg e0
 have j1 := seg e1
 have j2 := seg e2
 have j3 := seg e3
 have j4 := seg e4
 rw [e, j0, j1, j2, j3, j4, List.drop_eq_nil_of_le (by omega)]
 simp [leL]
theorem open_le {r : Reach} {b0 : Nat} {v : Value} {d : DataW H} {p : List MemPlace} (hv : Value.okWide Tryz.prog w r b0 87 v) (h : DataW.Trod enc Tryz.prog w base spare held 87 v d p) : ∃ s : Le, v = .agg (leC s) ∧ LeIn s := by
 obtain ⟨cs, rfl, hsz⟩ := okWide_struct Tryz.underlying87 hv
 obtain ⟨fuel, hf⟩ := h
 obtain ⟨s, e0, l1⟩ := le_of_trod hf
 have hcs : cs = leC s := by
  apply Array.toList_inj.1
  exact e0
 exact ⟨s, by rw [hcs], l1⟩
theorem le_ok {c : Le} (h : LeIn c) : LeOk c := by
 obtain ⟨h1, h2, h3, h4, h5⟩ := h
 refine ⟨h5, ?_⟩
 intro x hx
 simp only [leInts, List.mem_cons, List.not_mem_nil, or_false] at hx
 rcases hx with rfl | rfl | rfl | rfl <;> assumption
end
end Go.Proofs.YtpfhmcdcmepfdaaGreatDoor

namespace Go.Proofs.YtpfhmcdcmepfdaaGreatDoor
open Go.ChangeShapes Go.WideShapes Go.ChangeAt Go.RowKit Go.Joins Go.Deep
open Go.Proofs
section
variable {H : Type} {enc : TypeId × Value → H} {w : World} {base : Nat} {spare : Nat → Bool} {held : Bool}
def LnIn (s : Ln) : Prop := i64 s.site ∧ i64 s.kind ∧ CfIn s.cf ∧ LeIn s.le
theorem ln_of_trod {m : Nat} {L : List Value} {x : DataW H × List MemPlace} (h : DataW.trod enc Tryz.prog w base spare held m 89 L = some x) : ∃ s : Ln, L = lnL s ∧ LnIn s := by
 obtain ⟨xs, n, _, _, hlen, hxl, hg⟩ := DataW.trod_struct Tryz.underlying89 h
 have hC : Tryz.prog.cellsOf 89 = 59 := by kernel_rfl
 have q0 : Tryz.prog.cellsOf 3 = 1 := by kernel_rfl
 have q1 : Tryz.prog.cellsOf 51 = 37 := by kernel_rfl
 have q2 : Tryz.prog.cellsOf 87 = 20 := by kernel_rfl
 rw [hC] at hlen
 have hx9 : xs.length = 4 := hxl
 have g0 := hg 0 _ rfl
 have g1 := hg 1 _ rfl
 have g2 := hg 2 _ rfl
 have g3 := hg 3 _ rfl
 simp only [List.getElem_toArray, List.getElem_cons_succ, List.getElem_cons_zero, q0, q1, q2] at g0 g1 g2 g3
 rw [List.getElem?_eq_getElem (by omega)] at g0 g1 g2 g3
 obtain ⟨n0, e0, _, w0⟩ := DataW.trod_int Tryz.underlying3 g0
 obtain ⟨n1, e1, _, w1⟩ := DataW.trod_int Tryz.underlying3 g1
 obtain ⟨s2, e2, i2⟩ := cf_of_trod g2
 obtain ⟨s3, e3, i3⟩ := le_of_trod g3
 refine ⟨⟨n0, n1, s2, s3⟩, ?_, i64_wf w0 , i64_wf w1 , i2 , i3⟩
 have e : L = L.drop 0 := rfl
 have j0 := seg e0
 have j1 := seg e1
 have j2 := seg e2
 have j3 := seg e3
 rw [e, j0, j1, j2, j3, List.drop_eq_nil_of_le (by omega)]
 simp [lnL]
def RpIn (w : World) (s : Rp) : Prop := i64 s.epoch ∧ DgOk s.name ∧ i64 s.lo ∧ i64 s.hi ∧ (s.lines.length ≤ s.lc ∧ s.lc ≤ maxLen ∧ Reads 59 lnL w w.heap.size s.LA s.lines ∧ (∀ x ∈ s.lines, LnIn x) ∧ (s.LA = none → s.lc = 0)) ∧ i64 s.serial ∧ DgOk s.sl
theorem rp_of_trod {m : Nat} {L : List Value} {x : DataW H × List MemPlace} (h : DataW.trod enc Tryz.prog w 0 (fun _ => true) held m 68 L = some x) : ∃ s : Rp, L = rpL s ∧ RpIn w s := by
 obtain ⟨xs, n, _, _, hlen, hxl, hg⟩ := DataW.trod_struct Tryz.underlying68 h
 have hC : Tryz.prog.cellsOf 68 = 37 := by kernel_rfl
 have q0 : Tryz.prog.cellsOf 3 = 1 := by kernel_rfl
 have q1 : Tryz.prog.cellsOf 25 = 16 := by kernel_rfl
 have q2 : Tryz.prog.cellsOf 29 = 2 := by kernel_rfl
 have q3 : Tryz.prog.cellsOf 66 = 1 := by kernel_rfl
 have q4 : Tryz.prog.cellsOf 30 = 16 := by kernel_rfl
 rw [hC] at hlen
 have hx9 : xs.length = 6 := hxl
 have g0 := hg 0 _ rfl
 have g1 := hg 1 _ rfl
 have g2 := hg 2 _ rfl
 have g3 := hg 3 _ rfl
 have g4 := hg 4 _ rfl
 have g5 := hg 5 _ rfl
 simp only [List.getElem_toArray, List.getElem_cons_succ, List.getElem_cons_zero, q0, q1, q2, q3, q4] at g0 g1 g2 g3 g4 g5
 rw [List.getElem?_eq_getElem (by omega)] at g0 g1 g2 g3 g4 g5
 obtain ⟨n0, e0, _, w0⟩ := DataW.trod_int Tryz.underlying3 g0
 obtain ⟨d1, e1, l1, y1⟩ := dg_of_trod Tryz.underlying25 q1 g1
 obtain ⟨ys2, k2, _, _, hl2, hyl2, hg2⟩ := DataW.trod_struct Tryz.underlying29 g2
 have u0 := hg2 0 _ rfl
 have u1 := hg2 1 _ rfl
 have hy2 : ys2.length = 2 := hyl2
 simp only [List.getElem_toArray, List.getElem_cons_succ, List.getElem_cons_zero, q0] at u0 u1
 rw [List.getElem?_eq_getElem (by omega)] at u0 u1
 obtain ⟨lo2, f0, _, wl2⟩ := DataW.trod_int Tryz.underlying3 u0
 obtain ⟨hi2, f1, _, wh2⟩ := DataW.trod_int Tryz.underlying3 u1
 have e2 : (L.drop 17).take 2 = [.int .i64 lo2, .int .i64 hi2] := by
  have q0 := seg f0
  have q1 := seg f1
  rw [q2] at hl2
  have q2 : ((L.drop 17).take 2).drop 2 = [] := List.drop_eq_nil_of_le (by omega)
  have e : (L.drop 17).take 2 = ((L.drop 17).take 2).drop 0 := rfl
  rw [e, q0, q1, q2]
  rfl
 obtain ⟨v3, e3⟩ : ∃ v, (L.drop 19).take 1 = [v] := ⟨L[19]'(by omega), by rw [List.drop_eq_getElem_cons (by omega), List.take_succ_cons, List.take_zero]⟩
 rw [e3] at g3
 obtain ⟨A3, c3, l3, rfl, a3, b3, r3, p3, z3⟩ := slice_of_trod lnE (noLn) LnIn Tryz.underlying66 (by kernel_rfl) (by omega) (fun h => ln_of_trod h) g3
 obtain ⟨n4, e4, _, w4⟩ := DataW.trod_int Tryz.underlying3 g4
 obtain ⟨d5, e5, l5, y5⟩ := dg_of_trod Tryz.underlying30 q4 g5
 refine ⟨⟨n0, d1, lo2, hi2, A3, c3, l3, n4, d5⟩, ?_, i64_wf w0 , ⟨l1, y1⟩ , i64_wf wl2 , i64_wf wh2 , ⟨a3, b3, r3, p3, z3⟩ , i64_wf w4 , ⟨l5, y5⟩⟩
 have e : L = L.drop 0 := rfl
 have j0 := seg e0
 have j1 := seg e1
 have j2 := seg e2
 have j3 := seg e3
 have j4 := seg e4
 have j5 := seg e5
 rw [e, j0, j1, j2, j3, j4, j5, List.drop_eq_nil_of_le (by omega)]
 simp [rpL]
theorem open_rp {r : Reach} {b0 : Nat} {v : Value} {d : DataW H} {p : List MemPlace} (hv : Value.okWide Tryz.prog w r b0 68 v) (h : DataW.Trod enc Tryz.prog w 0 (fun _ => true) held 68 v d p) : ∃ s : Rp, v = .agg (rpC s) ∧ RpIn w s := by
 obtain ⟨cs, rfl, hsz⟩ := okWide_struct Tryz.underlying68 hv
 obtain ⟨fuel, hf⟩ := h
 obtain ⟨s, e0, l1⟩ := rp_of_trod hf
 have hcs : cs = rpC s := by
  apply Array.toList_inj.1
  exact e0
 exact ⟨s, by rw [hcs], l1⟩
theorem ln_ok {x : Ln} (h : LnIn x) : LnOk x := by
 obtain ⟨h1, h2, h3, h4⟩ := h
 exact ⟨cf_ok h3, le_ok h4, by
  intro y hy
  simp only [List.mem_cons, List.not_mem_nil, or_false] at hy
  rcases hy with rfl | rfl <;> assumption⟩
theorem rp_ok {w : World} {r : Rp} (h : RpIn w r) : RpOk r ∧ Reads 59 lnL w w.heap.size r.LA r.lines ∧ r.lines.length ≤ maxLen := by
 obtain ⟨h1, h2, h3, h4, ⟨a1, a2, a3, a4, a5⟩, h5, h6⟩ := h
 exact ⟨⟨h2, h6, fun x hx => ln_ok (a4 x hx), by
  intro y hy
  simp only [List.mem_cons, List.not_mem_nil, or_false] at hy
  rcases hy with rfl | rfl | rfl | rfl <;> assumption⟩, a3, by omega⟩
end
end Go.Proofs.YtpfhmcdcmepfdaaGreatDoor

namespace Go.Proofs.YtpfhmcdcmepfdaaGreatDoor
open Go.ChangeShapes Go.WideShapes Go.ChangeAt Go.ChangeMaps Go.RowKit
open Go.Proofs
theorem laidNl {W : World} (h : laidMetH Tryz.prog Rows.accountNamesLiarsRow.laid W) : Konst 1 W ∧ RKonst W := by
 rw [MakeChecks.laidMetH_plain _ _ _ (by kernel_rfl)] at h
 obtain ⟨ps, ⟨ga, ta, csa, fa, pa, qa, hga, hta, hva, hda, ⟨g0, t0, cs0, f0, p0, q0, hg0, ht0, hv0, hd0, ⟨g1, t1, cs1, f1, p1, q1, hg1, ht1, hv1, hd1, _, rfl⟩, rfl⟩, rfl⟩, _, hf⟩ := h
 obtain rfl := Option.some.inj ((show Tryz.prog.globalNamed "weirgate/weirgateref02.constants" = some 0 by kernel_rfl).symm.trans hg0)
 obtain rfl := Option.some.inj ((show Tryz.prog.globalNamed "weirgate/hash.constants" = some 1 by kernel_rfl).symm.trans hg1)
 obtain rfl := Option.some.inj ((show (Tryz.prog.globals[(0 : Nat)]?).map (·.type) = some 264 by kernel_rfl).symm.trans ht0)
 obtain rfl := Option.some.inj ((show (Tryz.prog.globals[(1 : Nat)]?).map (·.type) = some 264 by kernel_rfl).symm.trans ht1)
 rw [laidRK] at hd0
 rw [laidK] at hd1
 exact ⟨table_at hg1 hv1 hd1 (fun x hx => by simp [hx]) hf, table_at hg0 hv0 hd0 (fun x hx => by simp [hx]) hf⟩
theorem accountNamesLiars_lifted (os : Os) (started : os.Started) (H : Type) (enc : TypeId × Value → H) :
  ReturnsInHanded {} Tryz.checked os 8 .any (fun w args => (Rows.accountNamesLiarsSpec.pre enc Tryz.prog Tryz.f8 Rows.accountNamesLiarsRow.domain false w args ∧ laidMetH Tryz.prog Rows.accountNamesLiarsRow.laid w) ∧ sizedMet enc Tryz.prog Tryz.f8 (OpenSpec.ofChange Rows.accountNamesLiarsSpec) false w args)
   (Rows.accountNamesLiarsSpec.post enc Tryz.prog Tryz.f8 false true false false) := by
 refine returnsInHanded_of_change_and (C := Tryz.checked) (X := fun w _ => laidMetH Tryz.prog Rows.accountNamesLiarsRow.laid w) (fun _ _ _ hh h => h.of_heap hh) Tryz.own started (by kernel_rfl) Tryz.func8
  (ChangeSpec.witness_shaped (enc := enc) (C := Tryz.checked) (os := os) (X := fun w _ => laidMetH Tryz.prog Rows.accountNamesLiarsRow.laid w) false (World.laidAll Tryz.prog os Rows.accountNamesLiarsRow.laid) #[.slice none 0 0, .agg (epC noEp), .agg (rpC noRp), .agg (leC noLe), .agg (clkC ⟨0, 0⟩)] 8 (World.laidAll_os _ _ _)
   (World.shaped_of_ZipB (by kernel_rfl) (by kernel_rfl)) (by kernel_rfl) (by kernel_rfl) (by kernel_rfl)
   (by rw [MakeChecks.laidMetH_plain _ _ _ (by kernel_rfl)]; exact laidMet_laidAll _ (by kernel_rfl) (by kernel_rfl))) ?_
 intro W base args ds gs before hval0 hW hcnd hSz hL _
 have hval : ∀ (j : Nat) t v, Tryz.f8.params[j]? = some t → args[j]? = some v → Value.okWide Tryz.prog W .any base t v := hval0
 have hW' := hW
 obtain ⟨p, q, hA0, hV, rfl, hfz, hnd⟩ := hW
 have hA : DataW.TrodAll enc Tryz.prog W 0 (fun _ => true) true Tryz.f8.params.toList args.toList ds p := hA0
 rw [Tryz.params8] at hA hval
 obtain ⟨rfl, rfl⟩ := trodVars_none hV
 clear hA0 hval0 hcnd
 obtain ⟨v0, vs0, d0, ds0, p0, q0, ea0, rfl, rfl, h0, hA⟩ := trodAll_cons hA
 obtain ⟨v1, vs1, d1, ds1, p1, q1, rfl, rfl, rfl, h1, hA⟩ := trodAll_cons hA
 obtain ⟨v2, vs2, d2, ds2, p2, q2, rfl, rfl, rfl, h2, hA⟩ := trodAll_cons hA
 obtain ⟨v3, vs3, d3, ds3, p3, q3, rfl, rfl, rfl, h3, hA⟩ := trodAll_cons hA
 obtain ⟨v4, vs4, d4, ds4, p4, q4, rfl, rfl, rfl, h4, hA⟩ := trodAll_cons hA
 obtain ⟨rfl, rfl, rfl⟩ := trodAll_nil hA
 obtain rfl : args = #[v0, v1, v2, v3, v4] := by cases args; simp_all
 obtain ⟨hk, hrk⟩ := laidNl hL
 obtain ⟨Ar, cr, l, rfl, hl1, hl2, hrd, hsec⟩ := open_keys (hval 0 45 v0 rfl rfl) h0
 obtain ⟨e, rfl, he⟩ := open_ep (hval 1 49 v1 rfl rfl) h1
 obtain ⟨r, rfl, hr⟩ := open_rp (hval 2 68 v2 rfl rfl) h2
 obtain ⟨s, rfl, hs⟩ := open_le (hval 3 87 v3 rfl rfl) h3
 obtain ⟨n0, n1, rfl, _, _⟩ := open_period (hval 4 29 v4 rfl rfl) h4
 obtain ⟨hok, ha⟩ := ep_ok he
 obtain ⟨hro, hra, hrl⟩ := rp_ok hr
 have main := liars_ok Ar cr l e r s ⟨n0, n1⟩ W (by unfold maxLen at hl2; omega) hrd (fun k hk => by have := hsec k hk; unfold maxLen at this; omega) hok ha hro (by unfold maxLen at hrl; omega) hra (le_ok hs) hk hrk
 refine main.mono fun e' W' ⟨he, hx⟩ => ?_
 subst he
 exact ⟨_, rfl, law_post Tryz.laidOut (by kernel_rfl) rfl hW' hx 4 (by kernel_rfl) Tryz.underlying4 rfl rfl rfl⟩
end Go.Proofs.YtpfhmcdcmepfdaaGreatDoor