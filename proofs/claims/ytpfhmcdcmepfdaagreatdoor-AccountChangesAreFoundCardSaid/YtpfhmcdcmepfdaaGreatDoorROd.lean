
import Derived.WalkKit
import Derived.WalkSpells
import Derived.WalkLawsBesides
import Derived.Deep.QuietTactic
import Derived.BigQuiet
import Derived.Test.YtpfhmcdcmepfdaaGreatDoorRJw
import Derived.Test.YtpfhmcdcmepfdaaGreatDoorROv
set_option maxRecDepth 100000
set_option maxHeartbeats 64000000
set_option linter.unusedVariables false
set_option linter.unusedSimpArgs false
namespace Go.Proofs.YtpfhmcdcmepfdaaGreatDoor
open Go.RowKit Go.Shelf
open Go.Proofs
def theKey (p : Int) : Ky := ⟨p, 1, ⟨#[115]⟩, 0, 1099511627776⟩
theorem lkey_any (p : Int) (w : World) : Calls Tryz.prog 32 #[.int .i64 p] w fun e w' => e = .returned (.agg (kyC (theKey p))) ∧ Ext w w' := by
 have hft := ky_fits (theKey p)
 go_enter Tryz.func32, Tryz.ntmps32
 go_wp2
 exact post_row ky_ty Tryz.results32 rfl rfl (RowAt.stored (n := 5) (ds := kyC (theKey p)) (RowAt.newAt (by simp)) rfl rfl (by omega)) ⟨rfl, (by (with_reducible repeat first|exact eR _|apply eD|apply eN|apply eA|apply eO|apply eS|apply eC);all_goals first|omega|simp <;> omega)⟩
theorem kyT : ElemTy Tryz.prog 45 23 5 48 := ⟨by kernel_rfl, by kernel_rfl, by omega⟩
abbrev OwnsKy (base : Nat) (w : World) (A : Option Addr) (c : Nat) (l : List Ky) : Prop := Owns 23 5 kyL base w A c l
def moreKeys (n : Nat) : List Ky := (List.range n).map fun k : Nat => theKey (1000 + (k : Int))
def theKeys : List Ky := [theKey 1] ++ moreKeys 10
theorem moreKeys_snoc (k : Nat) : moreKeys (k + 1) = moreKeys k ++ [theKey (1000 + (k : Int))] := by simp [moreKeys, List.range_succ]
theorem lkeys_any (w : World) : Calls Tryz.prog 29 #[] w fun e w' => (∃ A c l, e = .returned (.slice A l.length c) ∧ Hid (l = theKeys) ∧ OwnsKy w.heap.size w' A c l) ∧ Ext w w' := by
 have HK := lh (fun p (W : World) => lkey_any p W)
 have HTK : Hid (theKeys = [theKey 1] ++ moreKeys 10) := lh rfl
 have hft := fun p => ky_fits (theKey p)
 go_enter Tryz.func29, Tryz.ntmps29
 go_wp2_with (go_at_call 32; refine (HK.out _ _).mono ?_; rintro e w' ⟨rfl, hxl⟩; obtain ⟨xl, rfl⟩ := hxl.asLater; clear hxl)
 refine wp_world (fun W => Ext w W ∧ OwnsKy w.heap.size W (some ⟨w.heap.size + xl.n, 0, none⟩) 1 [theKey 1]) ⟨(by (with_reducible repeat first|exact eR _|apply eD|apply eN|apply eA|apply eO|apply eS|apply eC);all_goals first|omega|simp <;> omega), owns_fresh kyE [theKey 1] (later w xl) _ _ _ (by simp [later_size]) (by simp [later_size]) (by kernel_rfl) (by simp)⟩ ?_
 generalize w.heap.size + xl.n = g3
 rintro W1 ⟨x1, o1⟩
 have HX1 := lh x1
 have HO1 := lh o1
 clear x1 o1
 go_loopw [1, 2] (fun o i wr => ∃ (A2 : Option Addr) (c2 : Nat) (out : List Ky) (k : Nat), o = .slice A2 out.length c2 ∧ i = .int .i64 k ∧ k ≤ 10 ∧ out.length ≤ 1 + k ∧ Hid (out = [theKey 1] ++ moreKeys k) ∧ Hid (OwnsKy w.heap.size wr A2 c2 out) ∧ Hid (Ext w wr)) (fun _ i _ => 10 - (intOf i).toNat)
 case atStart => exact ⟨_, 1, [theKey 1], 0, rfl, rfl, Nat.zero_le _, Nat.le_refl _, lh (by simp [moreKeys]), HO1, HX1⟩
 case round =>
  obtain ⟨A2, c2, out, k, rfl, rfl, hk, hol, HOu, HOw, HX⟩ := hrel
  have hsz := HX.out.size
  by_cases hlt : k < 10
  ·have HN := lh (moreKeys_snoc k)
   have hlk : decide ((k : Int) < 10) = true := by simp; omega
   clear HX1 HO1 HTK
   go_wp2_with (first
    | (go_at_call 32; refine (HK.out _ _).mono ?_; rintro e w' ⟨rfl, hxl⟩; obtain ⟨xl, rfl⟩ := hxl.asLater; clear hxl)
    | (at_builtin; refine app_from kyT kyE rfl _ _ rfl w.heap.size _ _ out rfl (HOw.out.ext (by (with_reducible repeat first|exact eR _|apply eD|apply eN|apply eA|apply eO|apply eS|apply eC);all_goals first|omega|simp <;> omega)) _ 1 _ [theKey (1000 + (k : Int))] rfl rfl (new_cellsAt (by simp [later_size]) (kyC (theKey (1000 + (k : Int)))) _) (by omega) (by omega) (by simp [later_size]; omega) ?_; intro A4 c4 l4 w4 HL HO5 hB hl1 hl2 _; have HO5' := lh HO5; have HB5 := lh hB; clear HO5 hB))
   refine ⟨⟨A4, c4, l4, k + 1, rfl, rfl, by omega, by omega, lh (by rw [HL.out, HOu.out, HN.out, List.append_assoc]), HO5', lh ?_⟩, by show 10 - ((k : Int) + 1).toNat < 10 - (k : Int).toNat; omega⟩
   exact (show Ext w _ from (by (with_reducible repeat first|exact HX.out|exact eR _|apply eD|apply eN|apply eA|apply eO|apply eS|apply eC);all_goals first|omega|simp <;> omega)).grown HB5.out (Nat.le_refl _)
  ·have hlk : decide ((k : Int) < 10) = false := by simp; omega
   have hk10 : k = 10 := by omega
   have HE : Hid (out = theKeys) := lh (by rw [HOu.out, HTK.out, hk10])
   go_wp2
   go_ret
   exact ⟨⟨_, _, out, rfl, HE, HOw.out⟩, HX.out⟩
def exE : Ep := ⟨1, zeros32 16, 100, 110, none, 0, [], none, 0, [], 0, zeros32 16⟩
def dN : List Int := [225, 82, 220, 196, 112, 230, 214, 168, 48, 209, 145, 84, 90, 90, 49, 167]
def dC : List Int := [183, 242, 6, 166, 50, 240, 85, 81, 195, 133, 66, 9, 10, 59, 12, 199]
def dL : List Int := [46, 85, 178, 116, 32, 194, 13, 217, 15, 130, 113, 14, 216, 179, 170, 169]
def dM : List Int := [242, 245, 252, 154, 15, 123, 44, 217, 232, 153, 253, 134, 30, 70, 74, 65]
def dR : List Int := [198, 36, 180, 182, 45, 123, 170, 34, 22, 92, 177, 227, 197, 147, 251, 105]
def dY : List Int := [157, 190, 211, 197, 218, 242, 92, 197, 143, 88, 96, 7, 230, 204, 16, 221]
def exC0 : Cf := ⟨3, 1, dN, 120, 130, 1, zeros32 16⟩
def exC : Cf := { exC0 with sl := dC }
def exL0 : Le := ⟨5, 0, 900, 1, zeros32 16⟩
def exL : Le := { exL0 with sl := dL }
def exM0 : Le := ⟨5, 0, 1000, 1, zeros32 16⟩
def exM : Le := { exM0 with sl := dM }
def exLn0 : Ln := ⟨3, 1, exC, noLe⟩
def exLn1 : Ln := ⟨5, 2, noCf, exL⟩
def exLn2 : Ln := ⟨5, 3, noCf, exL⟩
def exLn3 : Ln := ⟨5, 2, noCf, { exL with until_ := 901 }⟩
def exR0 (LA : Option Addr) (lc : Nat) : Rp := ⟨1, dN, 900, 910, LA, lc, [exLn0, exLn1], 1, zeros32 16⟩
def exR (LA : Option Addr) (lc : Nat) : Rp := { exR0 LA lc with sl := dR }
def exY (LA : Option Addr) (lc : Nat) : Rp := { exR0 LA lc with lines := [exLn0, exLn3], sl := dR }
def exG (GA : Option Addr) (gc : Nat) : Gs := ⟨1, 1000, GA, gc, [⟨3, 1, 0⟩, ⟨5, 0, 900⟩]⟩
theorem ex_name : epName exE = dN := by decide +kernel
theorem ex_sealC : makeN (theKey 1003) 320 (cfParts exC0) = dC := by decide +kernel
theorem ex_sealL : makeN (theKey 1) 43 (leParts exL0) = dL := by decide +kernel
theorem ex_sealM : makeN (theKey 1) 43 (leParts exM0) = dM := by decide +kernel
theorem ex_sealR : makeN (theKey 1) 321 (rpParts (exR0 none 0)) = dR := by decide +kernel
theorem ex_sealY : makeN (theKey 1) 321 (rpParts (exY none 0)) = dY := by decide +kernel
theorem dN_ok : DgOk dN := ⟨rfl, by unfold Byt; decide⟩
theorem dC_ok : DgOk dC := ⟨rfl, by unfold Byt; decide⟩
theorem dL_ok : DgOk dL := ⟨rfl, by unfold Byt; decide⟩
theorem dM_ok : DgOk dM := ⟨rfl, by unfold Byt; decide⟩
theorem dR_ok : DgOk dR := ⟨rfl, by unfold Byt; decide⟩
theorem i64_of {l : List Int} (h : (l.all fun x => decide (-9223372036854775808 ≤ x) && decide (x ≤ 9223372036854775807)) = true) : ∀ x ∈ l, i64 x := by
 intro x hx
 rw [List.all_eq_true] at h
 have := h x hx
 simp only [Bool.and_eq_true, decide_eq_true_eq] at this
 unfold i64
 omega
theorem exE_ok : EpOk exE := ⟨zeros_ok, zeros_ok, by intro d h; simp [exE] at h, i64_of (by decide), by intro p h; simp [exE] at h, by decide, by decide, by decide, by decide, fun _ => rfl, fun _ => rfl⟩
theorem exE_short : EpShort exE := ⟨by decide, by decide, by intro p h; simp [exE] at h⟩
theorem exE_at (w : World) : EpAt w exE := ⟨Reads.nil _ _ _ _ _, Reads.nil _ _ _ _ _⟩
theorem exC_ok : CfOk exC := ⟨dN_ok, dC_ok, i64_of (by decide)⟩
theorem exL_ok : LeOk exL := ⟨dL_ok, i64_of (by decide)⟩
theorem exM_ok : LeOk exM := ⟨dM_ok, i64_of (by decide)⟩
theorem exL9_ok : LeOk { exL with until_ := 901 } := ⟨dL_ok, i64_of (by decide)⟩
theorem exR_ok (LA : Option Addr) (lc : Nat) : RpOk (exR LA lc) := ⟨dN_ok, dR_ok, by
 intro x hx
 simp only [exR, exR0, List.mem_cons, List.not_mem_nil, or_false] at hx
 rcases hx with rfl | rfl
 ·exact ⟨exC_ok, noLe_ok, i64_of (by decide)⟩
 ·exact ⟨noCf_ok, exL_ok, i64_of (by decide)⟩, i64_of (l := [1, 900, 910, 1]) (by decide)⟩
theorem exY_ok (LA : Option Addr) (lc : Nat) : RpOk (exY LA lc) := ⟨dN_ok, dR_ok, by
 intro x hx
 simp only [exY, exR0, List.mem_cons, List.not_mem_nil, or_false] at hx
 rcases hx with rfl | rfl
 ·exact ⟨exC_ok, noLe_ok, i64_of (by decide)⟩
 ·exact ⟨noCf_ok, exL9_ok, i64_of (by decide)⟩, i64_of (l := [1, 900, 910, 1]) (by decide)⟩
theorem ring_ok : RingOk theKeys := ringB_is (by decide +kernel)
theorem ex_conf : confirmN (theKey 1003) 3 exE ⟨120, 130⟩ = (exC, 0) := by
 have h : confirmB (theKey 1003) 3 exE ⟨120, 130⟩ = true := by decide +kernel
 unfold confirmN
 rw [if_pos h]
 unfold cfSeal cfOf
 rw [ex_name]
 show (({ exC0 with sl := makeN (theKey 1003) 320 (cfParts exC0) } : Cf), (0 : Int)) = _
 rw [ex_sealC]
 rfl
theorem ex_lease : sealedLe (theKey 1) ⟨5, 0, 900, 0, zeros32 16⟩ = exL := by
 show ({ exL0 with sl := makeN (theKey 1) 43 (leParts exL0) } : Le) = _
 rw [ex_sealL]
 rfl
theorem ex_late : sealedLe (theKey 1) ⟨5, 0, 1000, 0, zeros32 16⟩ = exM := by
 show ({ exM0 with sl := makeN (theKey 1) 43 (leParts exM0) } : Le) = _
 rw [ex_sealM]
 rfl
theorem ex_lines9 : mkLines (exG none 0) exE [exC] [exL] ⟨900, 910⟩ = [exLn0, exLn1] := by rfl
theorem ex_lines8 : mkLines (exG none 0) exE [exC] [exL] ⟨800, 810⟩ = [exLn0, exLn2] := by rfl
theorem ex_make9 (GA : Option Addr) (gc : Nat) (LA : Option Addr) (lc : Nat) : mkR (theKey 1) (exG GA gc) exE [exC] [exL] ⟨900, 910⟩ LA lc = exR LA lc := by
 have h : makeB (theKey 1) (exG none 0) exE ⟨900, 910⟩ = true := by decide +kernel
 have h' : makeB (theKey 1) (exG GA gc) exE ⟨900, 910⟩ = true := h
 unfold mkR
 rw [if_pos h']
 unfold rpSeal rpOf
 rw [ex_name, show mkLines (exG GA gc) exE [exC] [exL] ⟨900, 910⟩ = [exLn0, exLn1] from ex_lines9]
 show ({ exR0 LA lc with sl := makeN (theKey 1) 321 (rpParts (exR0 none 0)) } : Rp) = _
 rw [ex_sealR]
 rfl
theorem ex_err9 (GA : Option Addr) (gc : Nat) : mkE (theKey 1) (exG GA gc) exE ⟨900, 910⟩ = 0 := by
 have h : makeB (theKey 1) (exG none 0) exE ⟨900, 910⟩ = true := by decide +kernel
 unfold mkE
 exact if_pos h
noncomputable def exO (LA : Option Addr) (lc : Nat) : Rp := { (⟨1, dN, 800, 810, LA, lc, [exLn0, exLn2], 1, zeros32 16⟩ : Rp) with sl := makeN (theKey 1) 321 (rpParts ⟨1, dN, 800, 810, none, 0, [exLn0, exLn2], 1, zeros32 16⟩) }
theorem ex_make8 (GA : Option Addr) (gc : Nat) (LA : Option Addr) (lc : Nat) : mkR (theKey 1) (exG GA gc) exE [exC] [exL] ⟨800, 810⟩ LA lc = exO LA lc := by
 have h : makeB (theKey 1) (exG none 0) exE ⟨800, 810⟩ = true := by decide +kernel
 have h' : makeB (theKey 1) (exG GA gc) exE ⟨800, 810⟩ = true := h
 unfold mkR
 rw [if_pos h']
 unfold rpSeal rpOf
 rw [ex_name, show mkLines (exG GA gc) exE [exC] [exL] ⟨800, 810⟩ = [exLn0, exLn2] from ex_lines8]
 rfl
theorem ex_err8 (GA : Option Addr) (gc : Nat) : mkE (theKey 1) (exG GA gc) exE ⟨800, 810⟩ = 0 := by
 have h : makeB (theKey 1) (exG none 0) exE ⟨800, 810⟩ = true := by decide +kernel
 unfold mkE
 exact if_pos h
theorem exK1 : keyF theKeys 1 1 = theKey 1 := by kernel_rfl
theorem exK1e : keyE theKeys 1 1 = 0 := by kernel_rfl
theorem exK3 : keyF theKeys (1000 + 3) 1 = theKey 1003 := by kernel_rfl
theorem exK3e : keyE theKeys (1000 + 3) 1 = 0 := by kernel_rfl
theorem ex_chkC : checkCf theKeys exC = 0 := by
 unfold checkCf
 rw [if_pos (by decide)]
 show checkR theKeys (1000 + 3) 1 320 (cfParts exC0) dC 120 130 = 0
 unfold checkR checkOut
 rw [exK3, exK3e, if_pos rfl, if_pos (by decide), if_pos ex_sealC]
theorem ex_chkL : checkLe theKeys exL = 0 := by
 unfold checkLe
 rw [if_pos (by decide)]
 show checkR theKeys 1 1 43 (leParts exL0) dL 899 899 = 0
 unfold checkR checkOut
 rw [exK1, exK1e, if_pos rfl, if_pos (by decide), if_pos ex_sealL]
theorem ex_chkM : checkLe theKeys exM = 0 := by
 unfold checkLe
 rw [if_pos (by decide)]
 show checkR theKeys 1 1 43 (leParts exM0) dM 999 999 = 0
 unfold checkR checkOut
 rw [exK1, exK1e, if_pos rfl, if_pos (by decide), if_pos ex_sealM]
theorem ex_check (LA : Option Addr) (lc : Nat) : checkRp theKeys exE (exR LA lc) = (-1, 0) := by
 have h : checkR theKeys 1 1 321 (rpParts (exR0 none 0)) dR 900 910 = 0 := by
  unfold checkR checkOut
  rw [exK1, exK1e, if_pos rfl, if_pos (by decide), if_pos ex_sealR]
 unfold checkRp
 rw [if_pos (show (exR LA lc).epoch = exE.num from rfl), if_pos (show (exR LA lc).name = epName exE from ex_name.symm), if_pos (by show okClk ⟨900, 910⟩ = true; decide), if_pos (show checkR theKeys 1 (exR LA lc).serial 321 (rpParts (exR LA lc)) (exR LA lc).sl (exR LA lc).lo (exR LA lc).hi = 0 from h)]
 refine firstBad_none ?_
 intro i hi
 match i, hi with
 | 0, _ =>
  unfold wrongLn
  rw [if_pos ⟨by show siteB 3 = true; decide, .inl rfl⟩, if_pos (by rfl)]
  show wrongCf theKeys exE exLn0 = 0
  unfold wrongCf
  rw [if_pos (by decide), if_pos (show exLn0.cf.site = exLn0.site from rfl), if_neg (by decide), if_pos (show exLn0.cf.epoch = exE.num from rfl), if_pos (show exLn0.cf.name = epName exE from ex_name.symm)]
  exact ex_chkC
 | 1, _ =>
  unfold wrongLn
  rw [if_pos ⟨by show siteB 5 = true; decide, .inr (by show (3 : Int) < 5; decide)⟩, if_neg (by show ¬ (2 : Int) = 1; decide), if_pos (.inl (by rfl))]
  show wrongLe theKeys exE 900 exLn1 = 0
  unfold wrongLe
  rw [if_pos (by decide), if_neg (by decide), if_pos (show exLn1.le.site = exLn1.site from rfl), if_neg (by decide), if_pos (show checkLe theKeys exLn1.le = 0 from ex_chkL)]
  decide
theorem ex_lie (LA : Option Addr) (lc : Nat) : checkRp theKeys exE (exY LA lc) = (-1, 8) := by
 have h : checkR theKeys 1 1 321 (rpParts (exY none 0)) dR 900 910 = 8 := by
  unfold checkR checkOut
  rw [exK1, exK1e, if_pos rfl, if_pos (by decide), ex_sealY, if_neg (by decide)]
 have h' : checkR theKeys 1 (exY LA lc).serial 321 (rpParts (exY LA lc)) (exY LA lc).sl (exY LA lc).lo (exY LA lc).hi = 8 := h
 unfold checkRp
 rw [if_pos (show (exY LA lc).epoch = exE.num from rfl), if_pos (show (exY LA lc).name = epName exE from ex_name.symm), if_pos (by show okClk ⟨900, 910⟩ = true; decide), h', if_neg (by decide)]
theorem ex_refM (LA : Option Addr) (lc : Nat) : refutesB theKeys exE (exR LA lc) exM = true := by
 unfold refutesB
 rw [if_pos ⟨by decide, by show (910 : Int) < 1000; decide, ex_chkM⟩]
 rfl
theorem ex_refL (LA : Option Addr) (lc : Nat) : refutesB theKeys exE (exR LA lc) exL = false := by
 unfold refutesB
 rw [if_neg (fun h => absurd h.2.1 (by show ¬ (910 : Int) < 900; decide))]
theorem reads_lie {base : Nat} {w : World} {A : Option Addr} {c : Nat} (h : OwnsLn base w A c [exLn0, exLn1]) : ∃ g, A = some ⟨g, 0, none⟩ ∧ base ≤ g ∧ g < w.heap.size ∧ w.cell? ⟨g, 100, none⟩ = some (.int .i64 900) ∧ w.frozen? ⟨g, 100, none⟩ = false ∧ Reads 59 lnL (w.setCell ⟨g, 100, none⟩ (.int .i64 901)) w.heap.size A [exLn0, exLn3] := by
 obtain ⟨b, off, e, hb, h3⟩ := h.reads lnE (by decide)
 rcases h.cases with ⟨_, _, h0⟩ | ⟨g, cur, e2, hg, hh, _⟩
 ·cases h0
 rw [e2] at e
 injection e with e
 injection e with e4 e5
 subst e4 e5
 refine ⟨g, e2, hg, hb, ?_, ?_, ?_⟩
 ·exact h3 1 (by decide) 41 (.int .i64 900) (by kernel_rfl)
 ·simp [World.frozen?, hh]
 ·intro _
  refine ⟨g, 0, e2, hb, ?_⟩
  intro i hi j v hv
  rw [set_cell_if]
  match i, hi with
  | 0, _ =>
   have hj : j < (lnL exLn0).length := (List.getElem?_eq_some_iff.1 hv).1
   rw [lnE.len] at hj
   rw [if_neg (by omega)]
   exact h3 0 (by decide) j v hv
  | 1, _ =>
   have hs : lnL exLn3 = (lnL exLn1).set 41 (.int .i64 901) := by kernel_rfl
   have hv' : (lnL exLn3)[j]? = some v := hv
   rw [hs, List.getElem?_set] at hv'
   by_cases hj : 41 = j
   ·subst hj
    rw [if_pos rfl, lnE.len, if_pos (by decide)] at hv'
    injection hv' with hv'
    subst hv'
    rw [if_pos ⟨rfl, by decide⟩, show (⟨g, 0 + 1 * 59 + 41, none⟩ : Addr) = ⟨g, 0 + 1 * 59 + 41, none⟩ from rfl, h3 1 (by decide) 41 (.int .i64 900) (by kernel_rfl)]
    rfl
   ·rw [if_neg hj] at hv'
    rw [if_neg (by omega)]
    exact h3 1 (by decide) j v hv'
structure Dd where
 is : Bool
 conf : Bool
 until_ : Int
def ddL (s : Dd) : List Value := [.bool s.is] ++ [.bool s.conf] ++ [.int .u16 s.until_]
def ddC (s : Dd) : Array Value := (ddL s).toArray
def noDd : Dd := ⟨false, false, 0⟩
theorem dd_size (s : Dd) : (ddC s).size = 3 := rfl
theorem dd_all (s : Dd) : rowSub (ddC s) 0 3 = some (ddC s) := rowSub_all _ _ rfl
theorem dd_fits (s : Dd) : fitsRow 3 (ddC s) = true := by kernel_rfl
theorem dd_g0 (s : Dd) : (ddC s)[0]? = some (.bool s.is) := by kernel_rfl
theorem dd_g1 (s : Dd) : (ddC s)[1]? = some (.bool s.conf) := by kernel_rfl
theorem dd_g2 (s : Dd) : (ddC s)[2]? = some (.int .u16 s.until_) := by kernel_rfl
attribute [go_sem] dd_size dd_all dd_fits dd_g0 dd_g1 dd_g2
theorem ddE : EncTy ddL 3 := ⟨fun _ => rfl, fun x v hv => by
 have h : (fitsRow 3 (ddC x)) = true := dd_fits x
 simp only [fitsRow, Bool.and_eq_true, Array.all_eq_true'] at h
 exact h.2 v (by simpa [ddC] using hv)⟩
theorem dd_ty : RowTy Tryz.prog 84 3 := ⟨by kernel_rfl, by kernel_rfl⟩
theorem dd_ld (w : World) (b o : Nat) : (rowLoad 84 3 (.pointer (some ⟨b, o, none⟩))).run Tryz.prog w = rowLoadR Tryz.prog w 84 3 b o (rowOf w b o 3) := run_rowLoad dd_ty w b o
theorem dd_st (w : World) (b o : Nat) (cells : Array Value) : (rowStore 84 3 (.pointer (some ⟨b, o, none⟩)) (.agg cells)).run Tryz.prog w = rowStoreR Tryz.prog w 84 3 b o cells (roomOf w b o 3 && fitsRow 3 cells) := run_rowStore dd_ty w b o cells
theorem dd_al (w : World) : (rowAlloc 84).run Tryz.prog w = .ok (.value (.pointer (some ⟨w.heap.size, 0, none⟩))) (w.alloc (.cells (ddC noDd) 84)) := run_rowAlloc (by kernel_rfl) w
theorem dd_xl (ρ : Operand → Value) (dst : Option Tmp) (x : Operand) (t : TypeId) (pos : String) (after : Array Edge) (guard : Option (Nat × Bool)) : execOp ρ { dst, op := .load 84 x, type := t, pos, after, guard } = rowLoad 84 3 (ρ x) := rfl
theorem dd_xs (ρ : Operand → Value) (dst : Option Tmp) (x y : Operand) (t : TypeId) (pos : String) (after : Array Edge) (guard : Option (Nat × Bool)) : execOp ρ { dst, op := .store 84 x y, type := t, pos, after, guard } = rowStore 84 3 (ρ x) (ρ y) := rfl
theorem dd_xa (ρ : Operand → Value) (dst : Option Tmp) (t : TypeId) (pos : String) (after : Array Edge) (guard : Option (Nat × Bool)) : execOp ρ { dst, op := .alloc 84, type := t, pos, after, guard } = rowAlloc 84 := rfl
attribute [go_sem ↓] dd_xl dd_xs dd_xa
attribute [go_sem] dd_ld dd_st dd_al
end Go.Proofs.YtpfhmcdcmepfdaaGreatDoor

namespace Go.Proofs.YtpfhmcdcmepfdaaGreatDoor
open Go.ChangeShapes Go.WideShapes Go.ChangeAt Go.RowKit Go.Joins Go.Deep
open Go.Proofs
section
variable {H : Type} {enc : TypeId × Value → H} {w : World} {base : Nat} {spare : Nat → Bool} {held : Bool}
theorem u16_wf {n : Int} (w : (Lit.int .u16 n).wf = true) : 0 ≤ n ∧ n ≤ 65535 := by simp [Lit.wf, IntKind.min, IntKind.max, IntKind.signed, IntKind.bits] at w; omega
theorem u8_wf {n : Int} (w : (Lit.int .u8 n).wf = true) : 0 ≤ n ∧ n ≤ 255 := by simp [Lit.wf, IntKind.min, IntKind.max, IntKind.signed, IntKind.bits] at w; omega
def DdIn (s : Dd) : Prop := (0 ≤ s.until_ ∧ s.until_ ≤ 65535)
theorem dd_of_trod {m : Nat} {L : List Value} {x : DataW H × List MemPlace} (h : DataW.trod enc Tryz.prog w base spare held m 84 L = some x) : ∃ s : Dd, L = ddL s ∧ DdIn s := by
 obtain ⟨xs, n, _, _, hlen, hxl, hg⟩ := DataW.trod_struct Tryz.underlying84 h
 have hC : Tryz.prog.cellsOf 84 = 3 := by kernel_rfl
 have q0 : Tryz.prog.cellsOf 4 = 1 := by kernel_rfl
 have q1 : Tryz.prog.cellsOf 77 = 1 := by kernel_rfl
 rw [hC] at hlen
 have hx9 : xs.length = 3 := hxl
 have g0 := hg 0 _ rfl
 have g1 := hg 1 _ rfl
 have g2 := hg 2 _ rfl
 simp only [List.getElem_toArray, List.getElem_cons_succ, List.getElem_cons_zero, q0, q1] at g0 g1 g2
 rw [List.getElem?_eq_getElem (by omega)] at g0 g1 g2
 obtain ⟨b0, e0, _⟩ := DataW.trod_bool Tryz.underlying4 g0
 obtain ⟨b1, e1, _⟩ := DataW.trod_bool Tryz.underlying4 g1
 obtain ⟨n2, e2, _, w2⟩ := DataW.trod_int Tryz.underlying77 g2
 refine ⟨⟨b0, b1, n2⟩, ?_, u16_wf w2⟩
 have e : L = L.drop 0 := rfl
 have j0 := seg e0
 have j1 := seg e1
 have j2 := seg e2
 rw [e, j0, j1, j2, List.drop_eq_nil_of_le (by omega)]
 simp [ddL]
theorem open_deeds {r : Reach} {b0 : Nat} {v : Value} {d : DataW H} {p : List MemPlace} (hv : Value.okWide Tryz.prog w r b0 78 v) (h : DataW.Trod enc Tryz.prog w 0 (fun _ => true) held 78 v d p) :
  ∃ (A : Option Addr) (c : Nat) (l : List Dd), v = .slice A l.length c ∧ l.length ≤ c ∧ c ≤ maxLen ∧ Reads 3 ddL w w.heap.size A l ∧ (∀ s ∈ l, DdIn s) := by
 unfold Value.okWide at hv
 rw [Tryz.underlying78] at hv
 simp only [] at hv
 obtain ⟨fuel, hf⟩ := h
 cases v with
 | slice A n c =>
  obtain ⟨A', c', l, e, h1, h2, h3, h4, h5⟩ := slice_of_trod ddE noDd DdIn Tryz.underlying78 (by kernel_rfl) (by omega) (fun h => dd_of_trod h) hf
  injection e with e1 e2 e3
  subst e1 e2 e3
  exact ⟨A, c, l, rfl, h1, h2, h3, h4⟩
 | _ =>
  exfalso
  unfold Cell.okWide at hv
  rw [Tryz.underlying78] at hv
  simp only [] at hv
  unfold Cell.ok at hv
  rw [Tryz.underlying78] at hv
  simp at hv
end
end Go.Proofs.YtpfhmcdcmepfdaaGreatDoor