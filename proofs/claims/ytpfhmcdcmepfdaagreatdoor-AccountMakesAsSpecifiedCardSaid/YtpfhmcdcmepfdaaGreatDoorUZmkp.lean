
import Derived.WalkKit
import Derived.WalkSpells
import Derived.WalkLawsBesides
import Derived.Deep.QuietTactic
import Derived.BigQuiet
import Derived.Test.YtpfhmcdcmepfdaaGreatDoorUJw
import Derived.Test.YtpfhmcdcmepfdaaGreatDoorUJk
import Derived.Test.YtpfhmcdcmepfdaaGreatDoorUKe
import Derived.Test.YtpfhmcdcmepfdaaGreatDoorUKf
import Derived.Test.YtpfhmcdcmepfdaaGreatDoorTie
import Derived.Test.YtpfhmcdcmepfdaaGreatDoorCards
import Derived.ProofKit
import Derived.Lay
import Derived.ChangeMaps5
import Derived.SevenTiedAt
import Derived.Stop.Joined
set_option maxRecDepth 100000
set_option maxHeartbeats 64000000
set_option linter.unusedVariables false
set_option linter.unusedSimpArgs false
namespace Go.Proofs.YtpfhmcdcmepfdaaGreatDoor
open Go.RowKit Go.Shelf
open Go.Proofs
def theKey (p : Int) : Ky := ⟨p, 1, ⟨#[115]⟩, 0, 1099511627776⟩
theorem lkey_any (p : Int) (w : World) : Calls Tryz.prog 32 #[.int .i64 p] w fun e w' => e = .returned (.agg (kyC (theKey p))) ∧ Ext w w' := by
 have hft := ky_fits (theKey p)
 go_enter Tryz.func32, Tryz.ntmps32
 go_wp2
 exact post_row ky_ty Tryz.results32 rfl rfl (RowAt.stored (n := 5) (ds := kyC (theKey p)) (RowAt.newAt (by simp)) rfl rfl (by omega)) ⟨rfl, (by (with_reducible repeat first|exact eR _|apply eD|apply eN|apply eA|apply eO|apply eS|apply eC);all_goals first|omega|simp <;> omega)⟩
theorem small_any (e : Ep) (w : World) (ha : EpAt w e) (hl : e.pu.length ≤ 9223372036854775807) (hr : e.rv.length ≤ 9223372036854775807) (hw : ∀ p ∈ e.pu, p.what.size ≤ 9223372036854775807) :
  Calls Tryz.prog 21 #[.agg (epC e)] w fun e' w' => e' = .returned (.bool (shortEp e)) ∧ Ext w w' := by
 have HS := lh (fun (W : World) (hx : Ext w W) => rshortEp_any e W (ha.on hx) hl hr hw)
 have hft := ep_fits e
 clear ha hl hr hw
 generalize shortEp e = R at *
 go_enter Tryz.func21, Tryz.ntmps21
 go_wp2_with (go_at_call 67; refine (HS.out _ (by (with_reducible repeat first|exact eR _|apply eD|apply eN|apply eA|apply eO|apply eS|apply eC);all_goals first|omega|simp <;> omega)).mono ?_; rintro e w' ⟨rfl, hxl⟩; obtain ⟨xl, rfl⟩ := hxl.asLater; clear hxl)
 go_ret
 exact ⟨rfl, (by (with_reducible repeat first|exact eR _|apply eD|apply eN|apply eA|apply eO|apply eS|apply eC);all_goals first|omega|simp <;> omega)⟩
theorem kyT : ElemTy Tryz.prog 45 23 5 48 := ⟨by kernel_rfl, by kernel_rfl, by omega⟩
abbrev OwnsKy (base : Nat) (w : World) (A : Option Addr) (c : Nat) (l : List Ky) : Prop := Owns 23 5 kyL base w A c l
def moreKeys (n : Nat) : List Ky := (List.range n).map fun k : Nat => theKey (1000 + (k : Int))
def theKeys : List Ky := [theKey 1] ++ moreKeys 10
theorem moreKeys_snoc (k : Nat) : moreKeys (k + 1) = moreKeys k ++ [theKey (1000 + (k : Int))] := by simp [moreKeys, List.range_succ]
theorem lkeys_any (w : World) : Calls Tryz.prog 29 #[] w fun e w' => (∃ A c l, e = .returned (.slice A l.length c) ∧ Hid (l = theKeys) ∧ OwnsKy w.heap.size w' A c l) ∧ Ext w w' := by
 have HK := lh (fun p (W : World) => lkey_any p W)
 have HTK : Hid (theKeys = [theKey 1] ++ moreKeys 10) := lh rfl
 have hft := fun p => ky_fits (theKey p)
 go_enter Tryz.func29, Tryz.ntmps29
 go_wp2_with (go_at_call 32; refine (HK.out _ _).mono ?_; rintro e w' ⟨rfl, hxl⟩; obtain ⟨xl, rfl⟩ := hxl.asLater; clear hxl)
 refine wp_world (fun W => Ext w W ∧ OwnsKy w.heap.size W (some ⟨w.heap.size + xl.n, 0, none⟩) 1 [theKey 1]) ⟨(by (with_reducible repeat first|exact eR _|apply eD|apply eN|apply eA|apply eO|apply eS|apply eC);all_goals first|omega|simp <;> omega), owns_fresh kyE [theKey 1] (later w xl) _ _ _ (by simp [later_size]) (by simp [later_size]) (by kernel_rfl) (by simp)⟩ ?_
 generalize w.heap.size + xl.n = g3
 rintro W1 ⟨x1, o1⟩
 have HX1 := lh x1
 have HO1 := lh o1
 clear x1 o1
 go_loopw [1, 2] (fun o i wr => ∃ (A2 : Option Addr) (c2 : Nat) (out : List Ky) (k : Nat), o = .slice A2 out.length c2 ∧ i = .int .i64 k ∧ k ≤ 10 ∧ out.length ≤ 1 + k ∧ Hid (out = [theKey 1] ++ moreKeys k) ∧ Hid (OwnsKy w.heap.size wr A2 c2 out) ∧ Hid (Ext w wr)) (fun _ i _ => 10 - (intOf i).toNat)
 case atStart => exact ⟨_, 1, [theKey 1], 0, rfl, rfl, Nat.zero_le _, Nat.le_refl _, lh (by simp [moreKeys]), HO1, HX1⟩
 case round =>
  obtain ⟨A2, c2, out, k, rfl, rfl, hk, hol, HOu, HOw, HX⟩ := hrel
  have hsz := HX.out.size
  by_cases hlt : k < 10
  ·have HN := lh (moreKeys_snoc k)
   have hlk : decide ((k : Int) < 10) = true := by simp; omega
   clear HX1 HO1 HTK
   go_wp2_with (first
    | (go_at_call 32; refine (HK.out _ _).mono ?_; rintro e w' ⟨rfl, hxl⟩; obtain ⟨xl, rfl⟩ := hxl.asLater; clear hxl)
    | (at_builtin; refine app_from kyT kyE rfl _ _ rfl w.heap.size _ _ out rfl (HOw.out.ext (by (with_reducible repeat first|exact eR _|apply eD|apply eN|apply eA|apply eO|apply eS|apply eC);all_goals first|omega|simp <;> omega)) _ 1 _ [theKey (1000 + (k : Int))] rfl rfl (new_cellsAt (by simp [later_size]) (kyC (theKey (1000 + (k : Int)))) _) (by omega) (by omega) (by simp [later_size]; omega) ?_; intro A4 c4 l4 w4 HL HO5 hB hl1 hl2 _; have HO5' := lh HO5; have HB5 := lh hB; clear HO5 hB))
   refine ⟨⟨A4, c4, l4, k + 1, rfl, rfl, by omega, by omega, lh (by rw [HL.out, HOu.out, HN.out, List.append_assoc]), HO5', lh ?_⟩, by show 10 - ((k : Int) + 1).toNat < 10 - (k : Int).toNat; omega⟩
   exact (show Ext w _ from (by (with_reducible repeat first|exact HX.out|exact eR _|apply eD|apply eN|apply eA|apply eO|apply eS|apply eC);all_goals first|omega|simp <;> omega)).grown HB5.out (Nat.le_refl _)
  ·have hlk : decide ((k : Int) < 10) = false := by simp; omega
   have hk10 : k = 10 := by omega
   have HE : Hid (out = theKeys) := lh (by rw [HOu.out, HTK.out, hk10])
   go_wp2
   go_ret
   exact ⟨⟨_, _, out, rfl, HE, HOw.out⟩, HX.out⟩
def exE : Ep := ⟨1, zeros32 16, 100, 110, none, 0, [], none, 0, [], 0, zeros32 16⟩
def dN : List Int := [225, 82, 220, 196, 112, 230, 214, 168, 48, 209, 145, 84, 90, 90, 49, 167]
def dC : List Int := [183, 242, 6, 166, 50, 240, 85, 81, 195, 133, 66, 9, 10, 59, 12, 199]
def dL : List Int := [46, 85, 178, 116, 32, 194, 13, 217, 15, 130, 113, 14, 216, 179, 170, 169]
def dM : List Int := [242, 245, 252, 154, 15, 123, 44, 217, 232, 153, 253, 134, 30, 70, 74, 65]
def dR : List Int := [198, 36, 180, 182, 45, 123, 170, 34, 22, 92, 177, 227, 197, 147, 251, 105]
def dY : List Int := [157, 190, 211, 197, 218, 242, 92, 197, 143, 88, 96, 7, 230, 204, 16, 221]
def exC0 : Cf := ⟨3, 1, dN, 120, 130, 1, zeros32 16⟩
def exC : Cf := { exC0 with sl := dC }
def exL0 : Le := ⟨5, 0, 900, 1, zeros32 16⟩
def exL : Le := { exL0 with sl := dL }
def exM0 : Le := ⟨5, 0, 1000, 1, zeros32 16⟩
def exM : Le := { exM0 with sl := dM }
def exLn0 : Ln := ⟨3, 1, exC, noLe⟩
def exLn1 : Ln := ⟨5, 2, noCf, exL⟩
def exLn2 : Ln := ⟨5, 3, noCf, exL⟩
def exLn3 : Ln := ⟨5, 2, noCf, { exL with until_ := 901 }⟩
def exR0 (LA : Option Addr) (lc : Nat) : Rp := ⟨1, dN, 900, 910, LA, lc, [exLn0, exLn1], 1, zeros32 16⟩
def exR (LA : Option Addr) (lc : Nat) : Rp := { exR0 LA lc with sl := dR }
def exY (LA : Option Addr) (lc : Nat) : Rp := { exR0 LA lc with lines := [exLn0, exLn3], sl := dR }
def exG (GA : Option Addr) (gc : Nat) : Gs := ⟨1, 1000, GA, gc, [⟨3, 1, 0⟩, ⟨5, 0, 900⟩]⟩
theorem ex_name : epName exE = dN := by decide +kernel
theorem ex_sealC : makeN (theKey 1003) 320 (cfParts exC0) = dC := by decide +kernel
theorem ex_sealL : makeN (theKey 1) 43 (leParts exL0) = dL := by decide +kernel
theorem ex_sealM : makeN (theKey 1) 43 (leParts exM0) = dM := by decide +kernel
theorem ex_sealR : makeN (theKey 1) 321 (rpParts (exR0 none 0)) = dR := by decide +kernel
theorem ex_sealY : makeN (theKey 1) 321 (rpParts (exY none 0)) = dY := by decide +kernel
theorem dN_ok : DgOk dN := ⟨rfl, by unfold Byt; decide⟩
theorem dC_ok : DgOk dC := ⟨rfl, by unfold Byt; decide⟩
theorem dL_ok : DgOk dL := ⟨rfl, by unfold Byt; decide⟩
theorem dM_ok : DgOk dM := ⟨rfl, by unfold Byt; decide⟩
theorem dR_ok : DgOk dR := ⟨rfl, by unfold Byt; decide⟩
theorem i64_of {l : List Int} (h : (l.all fun x => decide (-9223372036854775808 ≤ x) && decide (x ≤ 9223372036854775807)) = true) : ∀ x ∈ l, i64 x := by
 intro x hx
 rw [List.all_eq_true] at h
 have := h x hx
 simp only [Bool.and_eq_true, decide_eq_true_eq] at this
 unfold i64
 omega
theorem exE_ok : EpOk exE := ⟨zeros_ok, zeros_ok, by intro d h; simp [exE] at h, i64_of (by decide), by intro p h; simp [exE] at h, by decide, by decide, by decide, by decide, fun _ => rfl, fun _ => rfl⟩
theorem exE_short : EpShort exE := ⟨by decide, by decide, by intro p h; simp [exE] at h⟩
theorem exE_at (w : World) : EpAt w exE := ⟨Reads.nil _ _ _ _ _, Reads.nil _ _ _ _ _⟩
theorem exC_ok : CfOk exC := ⟨dN_ok, dC_ok, i64_of (by decide)⟩
theorem exL_ok : LeOk exL := ⟨dL_ok, i64_of (by decide)⟩
theorem exM_ok : LeOk exM := ⟨dM_ok, i64_of (by decide)⟩
theorem exL9_ok : LeOk { exL with until_ := 901 } := ⟨dL_ok, i64_of (by decide)⟩
theorem exR_ok (LA : Option Addr) (lc : Nat) : RpOk (exR LA lc) := ⟨dN_ok, dR_ok, by
 intro x hx
 simp only [exR, exR0, List.mem_cons, List.not_mem_nil, or_false] at hx
 rcases hx with rfl | rfl
 ·exact ⟨exC_ok, noLe_ok, i64_of (by decide)⟩
 ·exact ⟨noCf_ok, exL_ok, i64_of (by decide)⟩, i64_of (l := [1, 900, 910, 1]) (by decide)⟩
theorem exY_ok (LA : Option Addr) (lc : Nat) : RpOk (exY LA lc) := ⟨dN_ok, dR_ok, by
 intro x hx
 simp only [exY, exR0, List.mem_cons, List.not_mem_nil, or_false] at hx
 rcases hx with rfl | rfl
 ·exact ⟨exC_ok, noLe_ok, i64_of (by decide)⟩
 ·exact ⟨noCf_ok, exL9_ok, i64_of (by decide)⟩, i64_of (l := [1, 900, 910, 1]) (by decide)⟩
theorem ring_ok : RingOk theKeys := ringB_is (by decide +kernel)
theorem ex_conf : confirmN (theKey 1003) 3 exE ⟨120, 130⟩ = (exC, 0) := by
 have h : confirmB (theKey 1003) 3 exE ⟨120, 130⟩ = true := by decide +kernel
 unfold confirmN
 rw [if_pos h]
 unfold cfSeal cfOf
 rw [ex_name]
 show (({ exC0 with sl := makeN (theKey 1003) 320 (cfParts exC0) } : Cf), (0 : Int)) = _
 rw [ex_sealC]
 rfl
theorem ex_lease : sealedLe (theKey 1) ⟨5, 0, 900, 0, zeros32 16⟩ = exL := by
 show ({ exL0 with sl := makeN (theKey 1) 43 (leParts exL0) } : Le) = _
 rw [ex_sealL]
 rfl
theorem ex_late : sealedLe (theKey 1) ⟨5, 0, 1000, 0, zeros32 16⟩ = exM := by
 show ({ exM0 with sl := makeN (theKey 1) 43 (leParts exM0) } : Le) = _
 rw [ex_sealM]
 rfl
theorem ex_lines9 : mkLines (exG none 0) exE [exC] [exL] ⟨900, 910⟩ = [exLn0, exLn1] := by rfl
theorem ex_lines8 : mkLines (exG none 0) exE [exC] [exL] ⟨800, 810⟩ = [exLn0, exLn2] := by rfl
theorem ex_make9 (GA : Option Addr) (gc : Nat) (LA : Option Addr) (lc : Nat) : mkR (theKey 1) (exG GA gc) exE [exC] [exL] ⟨900, 910⟩ LA lc = exR LA lc := by
 have h : makeB (theKey 1) (exG none 0) exE ⟨900, 910⟩ = true := by decide +kernel
 have h' : makeB (theKey 1) (exG GA gc) exE ⟨900, 910⟩ = true := h
 unfold mkR
 rw [if_pos h']
 unfold rpSeal rpOf
 rw [ex_name, show mkLines (exG GA gc) exE [exC] [exL] ⟨900, 910⟩ = [exLn0, exLn1] from ex_lines9]
 show ({ exR0 LA lc with sl := makeN (theKey 1) 321 (rpParts (exR0 none 0)) } : Rp) = _
 rw [ex_sealR]
 rfl
theorem ex_err9 (GA : Option Addr) (gc : Nat) : mkE (theKey 1) (exG GA gc) exE ⟨900, 910⟩ = 0 := by
 have h : makeB (theKey 1) (exG none 0) exE ⟨900, 910⟩ = true := by decide +kernel
 unfold mkE
 exact if_pos h
noncomputable def exO (LA : Option Addr) (lc : Nat) : Rp := { (⟨1, dN, 800, 810, LA, lc, [exLn0, exLn2], 1, zeros32 16⟩ : Rp) with sl := makeN (theKey 1) 321 (rpParts ⟨1, dN, 800, 810, none, 0, [exLn0, exLn2], 1, zeros32 16⟩) }
theorem ex_make8 (GA : Option Addr) (gc : Nat) (LA : Option Addr) (lc : Nat) : mkR (theKey 1) (exG GA gc) exE [exC] [exL] ⟨800, 810⟩ LA lc = exO LA lc := by
 have h : makeB (theKey 1) (exG none 0) exE ⟨800, 810⟩ = true := by decide +kernel
 have h' : makeB (theKey 1) (exG GA gc) exE ⟨800, 810⟩ = true := h
 unfold mkR
 rw [if_pos h']
 unfold rpSeal rpOf
 rw [ex_name, show mkLines (exG GA gc) exE [exC] [exL] ⟨800, 810⟩ = [exLn0, exLn2] from ex_lines8]
 rfl
theorem ex_err8 (GA : Option Addr) (gc : Nat) : mkE (theKey 1) (exG GA gc) exE ⟨800, 810⟩ = 0 := by
 have h : makeB (theKey 1) (exG none 0) exE ⟨800, 810⟩ = true := by decide +kernel
 unfold mkE
 exact if_pos h
theorem exK1 : keyF theKeys 1 1 = theKey 1 := by kernel_rfl
theorem exK1e : keyE theKeys 1 1 = 0 := by kernel_rfl
theorem exK3 : keyF theKeys (1000 + 3) 1 = theKey 1003 := by kernel_rfl
theorem exK3e : keyE theKeys (1000 + 3) 1 = 0 := by kernel_rfl
theorem ex_chkC : checkCf theKeys exC = 0 := by
 unfold checkCf
 rw [if_pos (by decide)]
 show checkR theKeys (1000 + 3) 1 320 (cfParts exC0) dC 120 130 = 0
 unfold checkR checkOut
 rw [exK3, exK3e, if_pos rfl, if_pos (by decide), if_pos ex_sealC]
theorem ex_chkL : checkLe theKeys exL = 0 := by
 unfold checkLe
 rw [if_pos (by decide)]
 show checkR theKeys 1 1 43 (leParts exL0) dL 899 899 = 0
 unfold checkR checkOut
 rw [exK1, exK1e, if_pos rfl, if_pos (by decide), if_pos ex_sealL]
theorem ex_chkM : checkLe theKeys exM = 0 := by
 unfold checkLe
 rw [if_pos (by decide)]
 show checkR theKeys 1 1 43 (leParts exM0) dM 999 999 = 0
 unfold checkR checkOut
 rw [exK1, exK1e, if_pos rfl, if_pos (by decide), if_pos ex_sealM]
theorem ex_check (LA : Option Addr) (lc : Nat) : checkRp theKeys exE (exR LA lc) = (-1, 0) := by
 have h : checkR theKeys 1 1 321 (rpParts (exR0 none 0)) dR 900 910 = 0 := by
  unfold checkR checkOut
  rw [exK1, exK1e, if_pos rfl, if_pos (by decide), if_pos ex_sealR]
 unfold checkRp
 rw [if_pos (show (exR LA lc).epoch = exE.num from rfl), if_pos (show (exR LA lc).name = epName exE from ex_name.symm), if_pos (by show okClk ⟨900, 910⟩ = true; decide), if_pos (show checkR theKeys 1 (exR LA lc).serial 321 (rpParts (exR LA lc)) (exR LA lc).sl (exR LA lc).lo (exR LA lc).hi = 0 from h)]
 refine firstBad_none ?_
 intro i hi
 match i, hi with
 | 0, _ =>
  unfold wrongLn
  rw [if_pos ⟨by show siteB 3 = true; decide, .inl rfl⟩, if_pos (by rfl)]
  show wrongCf theKeys exE exLn0 = 0
  unfold wrongCf
  rw [if_pos (by decide), if_pos (show exLn0.cf.site = exLn0.site from rfl), if_neg (by decide), if_pos (show exLn0.cf.epoch = exE.num from rfl), if_pos (show exLn0.cf.name = epName exE from ex_name.symm)]
  exact ex_chkC
 | 1, _ =>
  unfold wrongLn
  rw [if_pos ⟨by show siteB 5 = true; decide, .inr (by show (3 : Int) < 5; decide)⟩, if_neg (by show ¬ (2 : Int) = 1; decide), if_pos (.inl (by rfl))]
  show wrongLe theKeys exE 900 exLn1 = 0
  unfold wrongLe
  rw [if_pos (by decide), if_neg (by decide), if_pos (show exLn1.le.site = exLn1.site from rfl), if_neg (by decide), if_pos (show checkLe theKeys exLn1.le = 0 from ex_chkL)]
  decide
theorem ex_lie (LA : Option Addr) (lc : Nat) : checkRp theKeys exE (exY LA lc) = (-1, 8) := by
 have h : checkR theKeys 1 1 321 (rpParts (exY none 0)) dR 900 910 = 8 := by
  unfold checkR checkOut
  rw [exK1, exK1e, if_pos rfl, if_pos (by decide), ex_sealY, if_neg (by decide)]
 have h' : checkR theKeys 1 (exY LA lc).serial 321 (rpParts (exY LA lc)) (exY LA lc).sl (exY LA lc).lo (exY LA lc).hi = 8 := h
 unfold checkRp
 rw [if_pos (show (exY LA lc).epoch = exE.num from rfl), if_pos (show (exY LA lc).name = epName exE from ex_name.symm), if_pos (by show okClk ⟨900, 910⟩ = true; decide), h', if_neg (by decide)]
theorem ex_refM (LA : Option Addr) (lc : Nat) : refutesB theKeys exE (exR LA lc) exM = true := by
 unfold refutesB
 rw [if_pos ⟨by decide, by show (910 : Int) < 1000; decide, ex_chkM⟩]
 rfl
theorem ex_refL (LA : Option Addr) (lc : Nat) : refutesB theKeys exE (exR LA lc) exL = false := by
 unfold refutesB
 rw [if_neg (fun h => absurd h.2.1 (by show ¬ (910 : Int) < 900; decide))]
theorem reads_lie {base : Nat} {w : World} {A : Option Addr} {c : Nat} (h : OwnsLn base w A c [exLn0, exLn1]) : ∃ g, A = some ⟨g, 0, none⟩ ∧ base ≤ g ∧ g < w.heap.size ∧ w.cell? ⟨g, 100, none⟩ = some (.int .i64 900) ∧ w.frozen? ⟨g, 100, none⟩ = false ∧ Reads 59 lnL (w.setCell ⟨g, 100, none⟩ (.int .i64 901)) w.heap.size A [exLn0, exLn3] := by
 obtain ⟨b, off, e, hb, h3⟩ := h.reads lnE (by decide)
 rcases h.cases with ⟨_, _, h0⟩ | ⟨g, cur, e2, hg, hh, _⟩
 ·cases h0
 rw [e2] at e
 injection e with e
 injection e with e4 e5
 subst e4 e5
 refine ⟨g, e2, hg, hb, ?_, ?_, ?_⟩
 ·exact h3 1 (by decide) 41 (.int .i64 900) (by kernel_rfl)
 ·simp [World.frozen?, hh]
 ·intro _
  refine ⟨g, 0, e2, hb, ?_⟩
  intro i hi j v hv
  rw [set_cell_if]
  match i, hi with
  | 0, _ =>
   have hj : j < (lnL exLn0).length := (List.getElem?_eq_some_iff.1 hv).1
   rw [lnE.len] at hj
   rw [if_neg (by omega)]
   exact h3 0 (by decide) j v hv
  | 1, _ =>
   have hs : lnL exLn3 = (lnL exLn1).set 41 (.int .i64 901) := by kernel_rfl
   have hv' : (lnL exLn3)[j]? = some v := hv
   rw [hs, List.getElem?_set] at hv'
   by_cases hj : 41 = j
   ·subst hj
    rw [if_pos rfl, lnE.len, if_pos (by decide)] at hv'
    injection hv' with hv'
    subst hv'
    rw [if_pos ⟨rfl, by decide⟩, show (⟨g, 0 + 1 * 59 + 41, none⟩ : Addr) = ⟨g, 0 + 1 * 59 + 41, none⟩ from rfl, h3 1 (by decide) 41 (.int .i64 900) (by kernel_rfl)]
    rfl
   ·rw [if_neg hj] at hv'
    rw [if_neg (by omega)]
    exact h3 1 (by decide) j v hv'
def epB2 (a b : Value) : Sem Next := do pure (.value (← Instr.build 49 #[(0, a), (2, b)]))
theorem epB2_x (ρ : Operand → Value) (dst : Option Tmp) (a b : Operand) (t : TypeId) (pos : String) (after : Array Edge) (guard : Option (Nat × Bool)) : execOp ρ { dst, op := .build 49 #[(0, a), (2, b)], type := t, pos, after, guard } = epB2 (ρ a) (ρ b) := by kernel_rfl
attribute [go_sem ↓] epB2_x
theorem epB2_run (n lo hi : Int) (W : World) : (epB2 (.int .i64 n) (.agg #[.int .i64 lo, .int .i64 hi])).run Tryz.prog W = .ok (.value (.agg (epC ⟨n, zeros32 16, lo, hi, none, 0, [], none, 0, [], 0, zeros32 16⟩))) W := by kernel_rfl
def grB1 (a b : Value) : Sem Next := do pure (.value (← Instr.build 128 #[(0, a), (1, b)]))
theorem grB1_x (ρ : Operand → Value) (dst : Option Tmp) (a b : Operand) (t : TypeId) (pos : String) (after : Array Edge) (guard : Option (Nat × Bool)) : execOp ρ { dst, op := .build 128 #[(0, a), (1, b)], type := t, pos, after, guard } = grB1 (ρ a) (ρ b) := by kernel_rfl
attribute [go_sem ↓] grB1_x
theorem grB1_run (a b : Int) (W : World) : (grB1 (.int .i64 a) (.int .i64 b)).run Tryz.prog W = .ok (.value (.agg (grC ⟨a, b, 0⟩))) W := by kernel_rfl
def grB2 (a b : Value) : Sem Next := do pure (.value (← Instr.build 128 #[(0, a), (2, b)]))
theorem grB2_x (ρ : Operand → Value) (dst : Option Tmp) (a b : Operand) (t : TypeId) (pos : String) (after : Array Edge) (guard : Option (Nat × Bool)) : execOp ρ { dst, op := .build 128 #[(0, a), (2, b)], type := t, pos, after, guard } = grB2 (ρ a) (ρ b) := by kernel_rfl
attribute [go_sem ↓] grB2_x
theorem grB2_run (a b : Int) (W : World) : (grB2 (.int .i64 a) (.int .i64 b)).run Tryz.prog W = .ok (.value (.agg (grC ⟨a, 0, b⟩))) W := by kernel_rfl
def gsB3 (a b c : Value) : Sem Next := do pure (.value (← Instr.build 62 #[(0, a), (1, b), (2, c)]))
theorem gsB3_x (ρ : Operand → Value) (dst : Option Tmp) (a b c : Operand) (t : TypeId) (pos : String) (after : Array Edge) (guard : Option (Nat × Bool)) : execOp ρ { dst, op := .build 62 #[(0, a), (1, b), (2, c)], type := t, pos, after, guard } = gsB3 (ρ a) (ρ b) (ρ c) := by kernel_rfl
attribute [go_sem ↓] gsB3_x
theorem gsB3_run (a b : Int) (A : Option Addr) (n c : Nat) (W : World) : (gsB3 (.int .i64 a) (.int .i64 b) (.slice A n c)).run Tryz.prog W = .ok (.value (.agg #[.int .i64 a, .int .i64 b, .slice A n c])) W := by kernel_rfl
def leB2 (a b : Value) : Sem Next := do pure (.value (← Instr.build 87 #[(0, a), (2, b)]))
theorem leB2_x (ρ : Operand → Value) (dst : Option Tmp) (a b : Operand) (t : TypeId) (pos : String) (after : Array Edge) (guard : Option (Nat × Bool)) : execOp ρ { dst, op := .build 87 #[(0, a), (2, b)], type := t, pos, after, guard } = leB2 (ρ a) (ρ b) := by kernel_rfl
attribute [go_sem ↓] leB2_x
theorem leB2_run (a b : Int) (W : World) : (leB2 (.int .i64 a) (.int .i64 b)).run Tryz.prog W = .ok (.value (.agg (leC ⟨a, 0, b, 0, zeros32 16⟩))) W := by kernel_rfl
attribute [go_sem] epB2_run grB1_run grB2_run gsB3_run leB2_run
def readKs (l : List Ky) : Soft := ⟨fun v w => ∃ A c, v = .slice A l.length c ∧ ReadsKy w w.heap.size A l, fun _ _ _ ⟨A, c, h1, h2⟩ hx => ⟨A, c, h1, h2.on hx⟩⟩
theorem lkeys_is (W : World) : Calls Tryz.prog 29 #[] W fun e w' => (∃ A c, e = .returned (.slice A theKeys.length c) ∧ ReadsKy w' w'.heap.size A theKeys) ∧ Ext W w' := by
 refine (lkeys_any W).mono ?_
 rintro e w' ⟨⟨A, c, l, h1, h2, h3⟩, hx⟩
 have h2 := h2.out
 subst h2
 exact ⟨⟨A, c, h1, h3.reads kyE⟩, hx⟩
theorem lsanity_any (w : World) (hk : KonstP w) (hr : RKonst w) :
  Calls Tryz.prog 16 #[] w fun e w' => e = .returned (.bool true) ∧ Ext w w' := by
 have HK := lh (fun p (W : World) => lkey_any p W)
 have HKs := lh (fun (W : World) => lkeys_any W)
 have HCf : Hid (∀ W : World, Ext w W → Calls Tryz.prog 17 #[.agg (kyC (theKey 1003)), .int .i64 3, .agg (epC exE), .agg #[.int .i64 120, .int .i64 130]] W fun r w' => r = .returned (.tuple #[.agg (cfC exC), .int .i64 0]) ∧ Ext W w') := lh (fun W hx => by
  have h := aconfirm_any (theKey 1003) 3 exE ⟨120, 130⟩ W (by decide) exE_ok exE_short (exE_at W) (RowAt.ext hk hx)
  rw [ex_conf] at h
  exact h)
 have HL5 : Hid (∀ W : World, Ext w W → Calls Tryz.prog 55 #[.agg (kyC (theKey 1)), .agg (leC ⟨5, 0, 900, 0, zeros32 16⟩)] W fun e w' => e = .returned (.agg (leC exL)) ∧ Ext W w') := lh (fun W hx => by
  have h := rsealLease_any (theKey 1) ⟨5, 0, 900, 0, zeros32 16⟩ W (by decide) (i64_of (by decide)) (RowAt.ext hr hx)
  rw [ex_lease] at h
  exact h)
 have HLm : Hid (∀ W : World, Ext w W → Calls Tryz.prog 55 #[.agg (kyC (theKey 1)), .agg (leC ⟨5, 0, 1000, 0, zeros32 16⟩)] W fun e w' => e = .returned (.agg (leC exM)) ∧ Ext W w') := lh (fun W hx => by
  have h := rsealLease_any (theKey 1) ⟨5, 0, 1000, 0, zeros32 16⟩ W (by decide) (i64_of (by decide)) (RowAt.ext hr hx)
  rw [ex_late] at h
  exact h)
 have HMk8 : Hid (∀ (GA : Option Addr) (gc : Nat) (CA : Option Addr) (cc : Nat) (LsA : Option Addr) (lsc : Nat) (W : World), Ext w W → Reads 3 grL W W.heap.size GA [⟨3, 1, 0⟩, ⟨5, 0, 900⟩] → Reads 37 cfL W W.heap.size CA [exC] → Reads 20 leL W W.heap.size LsA [exL] →
   Calls Tryz.prog 22 #[.agg (kyC (theKey 1)), .agg (gsC (exG GA gc)), .agg (epC exE), .slice CA 1 cc, .slice LsA 1 lsc, .agg #[.int .i64 800, .int .i64 810]] W fun r w' => (∃ LA lc, r = .returned (.tuple #[.agg (rpC (exO LA lc)), .int .i64 0]) ∧ OwnsLn W.heap.size w' LA lc [exLn0, exLn2]) ∧ Ext W w') := lh (fun GA gc CA cc LsA lsc W hx h1 h2 h3 => by
  refine (amake_any (theKey 1) (exG GA gc) exE CA LsA cc lsc [exC] [exL] ⟨800, 810⟩ W (by decide) (by show 2 ≤ 100000; decide) h1 exE_ok exE_short (exE_at W) (by decide) (by decide) (by intro c hc; rw [List.mem_singleton] at hc; rw [hc]; exact exC_ok) (by intro c hc; rw [List.mem_singleton] at hc; rw [hc]; exact exL_ok) h2 h3 (RowAt.ext hk hx)).mono ?_
  rintro r w' ⟨⟨LA, lc, h4, h5⟩, h6⟩
  rw [ex_make8] at h4 h5
  rw [ex_err8] at h4
  exact ⟨⟨LA, lc, h4, h5⟩, h6⟩)
 have HMk9 : Hid (∀ (GA : Option Addr) (gc : Nat) (CA : Option Addr) (cc : Nat) (LsA : Option Addr) (lsc : Nat) (W : World), Ext w W → Reads 3 grL W W.heap.size GA [⟨3, 1, 0⟩, ⟨5, 0, 900⟩] → Reads 37 cfL W W.heap.size CA [exC] → Reads 20 leL W W.heap.size LsA [exL] →
   Calls Tryz.prog 22 #[.agg (kyC (theKey 1)), .agg (gsC (exG GA gc)), .agg (epC exE), .slice CA 1 cc, .slice LsA 1 lsc, .agg #[.int .i64 900, .int .i64 910]] W fun r w' => (∃ LA lc, r = .returned (.tuple #[.agg (rpC (exR LA lc)), .int .i64 0]) ∧ OwnsLn W.heap.size w' LA lc [exLn0, exLn1]) ∧ Ext W w') := lh (fun GA gc CA cc LsA lsc W hx h1 h2 h3 => by
  refine (amake_any (theKey 1) (exG GA gc) exE CA LsA cc lsc [exC] [exL] ⟨900, 910⟩ W (by decide) (by show 2 ≤ 100000; decide) h1 exE_ok exE_short (exE_at W) (by decide) (by decide) (by intro c hc; rw [List.mem_singleton] at hc; rw [hc]; exact exC_ok) (by intro c hc; rw [List.mem_singleton] at hc; rw [hc]; exact exL_ok) h2 h3 (RowAt.ext hk hx)).mono ?_
  rintro r w' ⟨⟨LA, lc, h4, h5⟩, h6⟩
  rw [ex_make9] at h4 h5
  rw [ex_err9] at h4
  exact ⟨⟨LA, lc, h4, h5⟩, h6⟩)
 have hfe := ep_fits exE
 have hfg : ∀ A : Option Addr, fitsRow 3 #[Value.int .i64 1, .int .i64 1000, .slice A 2 2] = true := fun A => by kernel_rfl
 have hE0 : (⟨1, zeros32 16, 100, 110, none, 0, [], none, 0, [], 0, zeros32 16⟩ : Ep) = exE := rfl
 have HE0 := lh hE0
 have hz6 : (Array.foldl (fun (cs : Array Value) (x : Value × Nat) => cs.setIfInBounds x.snd x.fst) #[.int .i64 0, .int .i64 0, .int .i64 0, .int .i64 0, .int .i64 0, .int .i64 0] ((grC ⟨3, 1, 0⟩).zipIdx) 0 3).size = 6 := by kernel_rfl
 clear hE0
 go_enter Tryz.func16, Tryz.ntmps16
 go_upto_region 3 with (fail)
 clear hz6 hfg
 refine wp_world (fun W => Ext w W ∧ RowAt W w.heap.size (epC exE) ∧ RowAt W (w.heap.size + 1 + 1) (gsC (exG (some ⟨w.heap.size + 1, 0, none⟩) 2)) ∧ Reads 3 grL W W.heap.size (some ⟨w.heap.size + 1, 0, none⟩) [⟨3, 1, 0⟩, ⟨5, 0, 900⟩]) ⟨(by (with_reducible repeat first|exact eR _|apply eD|apply eN|apply eA|apply eO|apply eS|apply eC);all_goals first|omega|simp <;> omega), ?_, ?_, ?_⟩ ?_
 ·refine RowAt.others (RowAt.alloc (RowAt.alloc ?_ _) _) (by omega) _ _
  exact RowAt.store (RowAt.new _ _ _) rfl
 ·refine RowAt.store (ds := gsC (exG (some ⟨w.heap.size + 1, 0, none⟩) 2)) (cs := gsC noGs) (RowAt.newAt ?_) rfl
  rw [World.size_alloc, setCells_size, World.size_alloc]
 ·refine Reads.on ?_ (Ext.setCells (Ext.alloc (eR _) _) (by rw [World.size_alloc, setCells_size, World.size_alloc]; omega) _ _)
  exact reads_freshAt grE [⟨3, 1, 0⟩, ⟨5, 0, 900⟩] _ _ 128 _ (by rw [setCells_size]; simp) (by kernel_rfl)
 obtain ⟨B, hB⟩ : ∃ B, w.heap.size = B := ⟨_, rfl⟩
 rw [hB]
 rintro W2 ⟨x2, uE, uG, hrg⟩
 have HX2 := lh x2
 have HUG := lh uG
 have HUE := lh uE
 have HRG := lh hrg
 have hlu := uG.lt
 have kE : rowOf W2 B 0 38 = some (epC exE) := uE.all rfl (by omega)
 clear x2 uE uG hrg
 refine wp_region_rowN 10 (by kernel_rfl) 7 8 (fun i => ([.agg (kyC (theKey 1003)), .agg (epC exE), .agg #[.int .i64 120, .int .i64 130], .tuple #[.agg (cfC exC), .int .i64 0], .tuple #[.agg (cfC exC), .int .i64 0], .agg (cfC exC), .int .i64 0, undef, undef, .int .i64 0] : List Value).getD i undef) (cfC exC) (by kernel_rfl) (by kernel_rfl) (by decide) (dk (by kernel_rfl)) (dk (by kernel_rfl)) (dk (by kernel_rfl)) (lt_cons ?_ (lt_cons ?_ (lt_cons ?_ (lt_cons ?_ (lt_cons ?_ (lt_cons ?_ (lt_cons ?_ (lt_cons ?_ (lt_cons ?_ (lt_cons ?_ (lt_none))))))))))) ?_ ?_ ?_
 ·
  intro _ _
  refine sop rfl fun xs W HW hsW HD Q' HQ => ?_; simp only [fillAt, dstOf, lc0, lcs, obs, Act.put, lsa, lsz, lss, nz, Nat.reduceAdd] at HQ ⊢
  go_wp2_with (go_at_call 32; refine (HK.out 1003 _).mono ?_; rintro e w1 ⟨rfl, hx⟩)
  exact HQ.out _ _ hx rfl
 ·
  intro _ _
  refine sop rfl fun xs W HW hsW HD Q' HQ => ?_; simp only [fillAt, dstOf, lc0, lcs, obs, Act.put, lsa, lsz, lss, nz, Nat.reduceAdd] at HQ ⊢
  have hc := (row_extW HW.out (b := B) (by omega) 0 38).trans kE
  go_wp2
  exact HQ.out _ _ (eR _) rfl
 ·
  intro _ _
  refine sop rfl fun xs W HW hsW HD Q' HQ => ?_; simp only [fillAt, dstOf, lc0, lcs, obs, Act.put, lsa, lsz, lss, nz, Nat.reduceAdd] at HQ ⊢
  go_wp2
  exact HQ.out _ _ (eR _) rfl
 ·
  intro _ _
  refine sop rfl fun xs W HW hsW HD Q' HQ => ?_; simp only [fillAt, dstOf, lc0, lcs, obs, Act.put, lsa, lsz, lss, nz, Nat.reduceAdd] at HQ ⊢
  have hd0 : xs 0 = .agg (kyC (theKey 1003)) := (HD.out 0 (dk (by kernel_rfl)))
  generalize xs 0 = x0 at hd0 HQ ⊢; subst hd0
  have hd1 : xs 1 = .agg (epC exE) := (HD.out 1 (dk (by kernel_rfl)))
  generalize xs 1 = x1 at hd1 HQ ⊢; subst hd1
  have hd2 : xs 2 = .agg #[.int .i64 120, .int .i64 130] := (HD.out 2 (dk (by kernel_rfl)))
  generalize xs 2 = x2 at hd2 HQ ⊢; subst hd2
  go_wp2_with (go_at_call 17; refine (HCf.out _ (HX2.out.trans HW.out)).mono ?_; rintro e w1 ⟨rfl, hx⟩)
  exact HQ.out _ _ hx rfl
 ·
  intro _ _
  refine sop rfl fun xs W HW hsW HD Q' HQ => ?_; simp only [fillAt, dstOf, lc0, lcs, obs, Act.put, lsa, lsz, lss, nz, Nat.reduceAdd] at HQ ⊢
  have hd3 : xs 3 = .tuple #[.agg (cfC exC), .int .i64 0] := (HD.out 3 (dk (by kernel_rfl)))
  generalize xs 3 = x3 at hd3 HQ ⊢; subst hd3
  go_wp2
  exact HQ.out _ _ (eR _) rfl
 ·
  intro _ _
  refine sop rfl fun xs W HW hsW HD Q' HQ => ?_; simp only [fillAt, dstOf, lc0, lcs, obs, Act.put, lsa, lsz, lss, nz, Nat.reduceAdd] at HQ ⊢
  have hd4 : xs 4 = .tuple #[.agg (cfC exC), .int .i64 0] := (HD.out 4 (dk (by kernel_rfl)))
  generalize xs 4 = x4 at hd4 HQ ⊢; subst hd4
  go_wp2
  exact HQ.out _ _ (eR _) rfl
 ·
  intro _ _
  refine sop rfl fun xs W HW hsW HD Q' HQ => ?_; simp only [fillAt, dstOf, lc0, lcs, obs, Act.put, lsa, lsz, lss, nz, Nat.reduceAdd] at HQ ⊢
  have hd4 : xs 4 = .tuple #[.agg (cfC exC), .int .i64 0] := (HD.out 4 (dk (by kernel_rfl)))
  generalize xs 4 = x4 at hd4 HQ ⊢; subst hd4
  go_wp2
  exact HQ.out _ _ (eR _) rfl
 ·exact fun h => absurd rfl h
 ·exact fun _ h => absurd rfl h
 ·
  intro _ _
  refine sop rfl fun xs W HW hsW HD Q' HQ => ?_; simp only [fillAt, dstOf, lc0, lcs, obs, Act.put, lsa, lsz, lss, nz, Nat.reduceAdd] at HQ ⊢
  have hd6 : xs 6 = .int .i64 0 := (HD.out 6 (dk (by kernel_rfl)))
  generalize xs 6 = x6 at hd6 HQ ⊢; subst hd6
  go_wp2
  exact HQ.out _ _ (eR _) rfl
 ·
  refine sop rfl fun xs W HW hsW HD Q' HQ => ?_; simp only [fillAt, dstOf, lc0, lcs, obs, Act.put, lsa, lsz, lss, nz, Nat.reduceAdd] at HQ ⊢
  go_wp2
  exact HQ.out _ _ ((eR _).alloc _) ⟨W.heap.size, rfl, by omega, _, RowAt.new _ _ _, rfl⟩
 ·
  refine sop rfl fun xs W HW hsW HD Q' HQ => ?_; simp only [fillAt, dstOf, lc0, lcs, obs, Act.put, lsa, lsz, lss, nz, Nat.reduceAdd] at HQ ⊢
  have hdv : xs 5 = .agg (cfC exC) := (HD.out 5 (dk (by kernel_rfl)))
  obtain ⟨bb, hxa, hbb, ds, hrb, hzb⟩ : ∃ b, xs 7 = .pointer (some ⟨b, 0, none⟩) ∧ W2.heap.size ≤ b ∧ ∃ ds, RowAt W b ds ∧ ds.size = (cfC exC).size := (HD.out 7 (dk (by kernel_rfl)))
  have hrm : roomOf W bb 0 37 = true := by rw [hrb.room, hzb]; rfl
  generalize xs 5 = x5 at hdv HQ ⊢; subst hdv
  generalize xs 7 = x7 at hxa HQ ⊢; subst hxa
  clear hrb hzb
  go_wp2
  exact HQ.out undef bb rfl
 intro xs W3 g hW hxb hbaseg hrowg hvs
 have h9 : xs 9 = .int .i64 0 := hvs 9 (dk (by kernel_rfl)) (by decide) (by decide)
 simp only [fillAt, dstOf, lc0, lcs, obs, Act.put, lsa, lsz, lss, nz, Nat.reduceAdd]
 generalize xs 9 = x9 at *; subst h9
 generalize xs 7 = xa at *; subst hxb
 have HW3 := lh (HX2.out.trans hW)
 have HWW3 := lh hW
 have HRg := lh hrowg
 have hlg := hrowg.lt
 clear hW hvs hrowg kE
 have hs23 := HWW3.out.size
 go_upto_region 5 with (first | (go_at_call 32; refine (HK.out _ _).mono ?_; rintro e w' ⟨rfl, hxl⟩; obtain ⟨xk, rfl⟩ := hxl.asLater; clear hxl) | (go_at_call 55; refine (HL5.out _ (HW3.out.onto _)).mono ?_; rintro e w' ⟨rfl, hxl⟩; obtain ⟨xl, rfl⟩ := hxl.asLater; clear hxl))
 refine wp_world (fun W => Ext W3 W ∧ RowAt W (W3.heap.size + (xk.comp xl).n) (leC exL)) ⟨(by (with_reducible repeat first|exact eR _|apply eD|apply eN|apply eA|apply eO|apply eS|apply eC);all_goals first|omega|simp <;> omega), RowAt.store (RowAt.newAt (later_size _ _).symm) rfl⟩ ?_
 obtain ⟨g5, hg5⟩ : ∃ g, W3.heap.size + (xk.comp xl).n = g := ⟨_, rfl⟩
 have hg35 : W3.heap.size ≤ g5 := by omega
 rw [hg5]
 rintro W5 ⟨x5, u5⟩
 have HW5 := lh (HW3.out.trans x5)
 have HWW5 := lh x5
 have HU5 := lh u5
 have hl5 := u5.lt
 have hs35 := x5.size
 have kL : rowOf W5 g5 0 20 = some (leC exL) := u5.all rfl (by omega)
 have kE : rowOf W5 B 0 38 = some (epC exE) := (HUE.out.ext (HWW3.out.trans x5)).all rfl (by omega)
 have kG : rowOf W5 (B+1+1) 0 3 = some (gsC (exG (some ⟨B+1, 0, none⟩) 2)) := (HUG.out.ext (HWW3.out.trans x5)).all rfl (by omega)
 have kC : rowOf W5 g 0 37 = some (cfC exC) := (HRg.out.ext x5).all rfl (by omega)
 have HRGW5 := lh (HRG.out.on (HWW3.out.trans x5))
 have hfO := fun A c => rp_fits (exO A c)
 have hfR := fun A c => rp_fits (exR A c)
 clear x5 u5 hg5 HL5 HCf
 refine wp_region_rowT (T := 68) 15 (by kernel_rfl) 12 13 (fun i => softTs [SoftT.eq (.agg (kyC (theKey 1))), SoftT.eq (.agg (gsC (exG (some ⟨B+1, 0, none⟩) 2))), SoftT.eq (.agg (epC exE)), SoftT.eq (.agg (cfC exC)), (SoftT.mem 51 37 cfL (by decide) (0) ([exC]) (fun A c => .slice A 1 c) : SoftT 68), SoftT.eq (.agg (leC exL)), (SoftT.mem 87 20 leL (by decide) (0) ([exL]) (fun A c => .slice A 1 c) : SoftT 68), SoftT.eq (.agg #[.int .i64 800, .int .i64 810]), (SoftT.mem 89 59 lnL (by decide) (0) ([exLn0, exLn2]) (fun A c => .tuple #[.agg (rpC (exO A c)), .int .i64 0]) : SoftT 68), (SoftT.mem 89 59 lnL (by decide) (0) ([exLn0, exLn2]) (fun A c => .tuple #[.agg (rpC (exO A c)), .int .i64 0]) : SoftT 68), (SoftT.mem 89 59 lnL (by decide) (0) ([exLn0, exLn2]) (fun A c => .agg (rpC (exO A c))) : SoftT 68), SoftT.eq (.int .i64 0), SoftT.any, SoftT.any, SoftT.eq (.int .i64 0)] i) 37 (RelT.mem 89 59 lnL (by decide) (0) ([exLn0, exLn2]) (fun A c => rpC (exO A c))) (by kernel_rfl) (by kernel_rfl) (by decide) (dk (by kernel_rfl)) (dk (by kernel_rfl)) (dk (by kernel_rfl)) (lt_cons ?_ (lt_cons ?_ (lt_cons ?_ (lt_cons ?_ (lt_cons ?_ (lt_cons ?_ (lt_cons ?_ (lt_cons ?_ (lt_cons ?_ (lt_cons ?_ (lt_cons ?_ (lt_cons ?_ (lt_cons ?_ (lt_cons ?_ (lt_cons ?_ (lt_none)))))))))))))))) ?_ ?_ ?_
 ·
  intro _ _
  refine sop rfl fun xs W HW hsW HD Q' HQ => ?_; simp only [fillAt, dstOf, lc0, lcs, obs, Act.put, lsa, lsz, lss, nz, Nat.reduceAdd] at HQ ⊢
  go_wp2_with (go_at_call 32; refine (HK.out 1 _).mono ?_; rintro e w1 ⟨rfl, hx⟩)
  exact HQ.out _ _ hx rfl
 ·
  intro _ _
  refine sop rfl fun xs W HW hsW HD Q' HQ => ?_; simp only [fillAt, dstOf, lc0, lcs, obs, Act.put, lsa, lsz, lss, nz, Nat.reduceAdd] at HQ ⊢
  have hc := (row_extW HW.out (b := B+1+1) (by omega) 0 3).trans kG
  go_wp2
  exact HQ.out _ _ (eR _) rfl
 ·
  intro _ _
  refine sop rfl fun xs W HW hsW HD Q' HQ => ?_; simp only [fillAt, dstOf, lc0, lcs, obs, Act.put, lsa, lsz, lss, nz, Nat.reduceAdd] at HQ ⊢
  have hc := (row_extW HW.out (b := B) (by omega) 0 38).trans kE
  go_wp2
  exact HQ.out _ _ (eR _) rfl
 ·
  intro _ _
  refine sop rfl fun xs W HW hsW HD Q' HQ => ?_; simp only [fillAt, dstOf, lc0, lcs, obs, Act.put, lsa, lsz, lss, nz, Nat.reduceAdd] at HQ ⊢
  have hc := (row_extW HW.out (b := g) (by omega) 0 37).trans kC
  go_wp2
  exact HQ.out _ _ (eR _) rfl
 ·
  intro _ _
  refine sop rfl fun xs W HW hsW HD Q' HQ => ?_; simp only [fillAt, dstOf, lc0, lcs, obs, Act.put, lsa, lsz, lss, nz, Nat.reduceAdd] at HQ ⊢
  have hd3 : xs 3 = .agg (cfC exC) := (HD.out 3 (dk (by kernel_rfl)))
  generalize xs 3 = x3 at hd3 HQ ⊢; subst hd3
  go_wp2
  exact HQ.out _ _ ((eR _).alloc _) ⟨_, _, rfl, owns_fresh cfE [exC] W _ _ _ rfl (Nat.zero_le _) (by kernel_rfl) (by simp)⟩
 ·
  intro _ _
  refine sop rfl fun xs W HW hsW HD Q' HQ => ?_; simp only [fillAt, dstOf, lc0, lcs, obs, Act.put, lsa, lsz, lss, nz, Nat.reduceAdd] at HQ ⊢
  have hc := (row_extW HW.out (b := g5) (by omega) 0 20).trans kL
  go_wp2
  exact HQ.out _ _ (eR _) rfl
 ·
  intro _ _
  refine sop rfl fun xs W HW hsW HD Q' HQ => ?_; simp only [fillAt, dstOf, lc0, lcs, obs, Act.put, lsa, lsz, lss, nz, Nat.reduceAdd] at HQ ⊢
  have hd5 : xs 5 = .agg (leC exL) := (HD.out 5 (dk (by kernel_rfl)))
  generalize xs 5 = x5 at hd5 HQ ⊢; subst hd5
  go_wp2
  exact HQ.out _ _ ((eR _).alloc _) ⟨_, _, rfl, owns_fresh leE [exL] W _ _ _ rfl (Nat.zero_le _) (by kernel_rfl) (by simp)⟩
 ·
  intro _ _
  refine sop rfl fun xs W HW hsW HD Q' HQ => ?_; simp only [fillAt, dstOf, lc0, lcs, obs, Act.put, lsa, lsz, lss, nz, Nat.reduceAdd] at HQ ⊢
  go_wp2
  exact HQ.out _ _ (eR _) rfl
 ·
  intro _ _
  refine sop rfl fun xs W HW hsW HD Q' HQ => ?_; simp only [fillAt, dstOf, lc0, lcs, obs, Act.put, lsa, lsz, lss, nz, Nat.reduceAdd] at HQ ⊢
  have hd0 : xs 0 = .agg (kyC (theKey 1)) := (HD.out 0 (dk (by kernel_rfl)))
  generalize xs 0 = x0 at hd0 HQ ⊢; subst hd0
  have hd1 : xs 1 = .agg (gsC (exG (some ⟨B+1, 0, none⟩) 2)) := (HD.out 1 (dk (by kernel_rfl)))
  generalize xs 1 = x1 at hd1 HQ ⊢; subst hd1
  have hd2 : xs 2 = .agg (epC exE) := (HD.out 2 (dk (by kernel_rfl)))
  generalize xs 2 = x2 at hd2 HQ ⊢; subst hd2
  obtain ⟨A4, c4, h4, ho4⟩ : ((SoftT.mem 51 37 cfL (by decide) (0) ([exC]) (fun A c => .slice A 1 c) : SoftT 68)).S (xs 4) W := (HD.out 4 (dk (by kernel_rfl)))
  generalize xs 4 = x4 at h4 HQ ⊢; subst h4
  obtain ⟨A6, c6, h6, ho6⟩ : ((SoftT.mem 87 20 leL (by decide) (0) ([exL]) (fun A c => .slice A 1 c) : SoftT 68)).S (xs 6) W := (HD.out 6 (dk (by kernel_rfl)))
  generalize xs 6 = x6 at h6 HQ ⊢; subst h6
  have hd7 : xs 7 = .agg #[.int .i64 800, .int .i64 810] := (HD.out 7 (dk (by kernel_rfl)))
  generalize xs 7 = x7 at hd7 HQ ⊢; subst hd7
  go_wp2_with (go_at_call 22; refine (HMk8.out _ _ _ _ _ _ _ (HW5.out.trans HW.out) (HRGW5.out.on HW.out) (ho4.reads cfE) (ho6.reads leE)).mono ?_; rintro e w1 ⟨⟨LA, lc, rfl, ho⟩, hx⟩)
  exact HQ.out _ _ hx ⟨LA, lc, rfl, ho.lower (Nat.zero_le _)⟩
 ·
  intro _ _
  refine sop rfl fun xs W HW hsW HD Q' HQ => ?_; simp only [fillAt, dstOf, lc0, lcs, obs, Act.put, lsa, lsz, lss, nz, Nat.reduceAdd] at HQ ⊢
  obtain ⟨A8, c8, h8, ho8⟩ : ((SoftT.mem 89 59 lnL (by decide) (0) ([exLn0, exLn2]) (fun A c => .tuple #[.agg (rpC (exO A c)), .int .i64 0]) : SoftT 68)).S (xs 8) W := (HD.out 8 (dk (by kernel_rfl)))
  generalize xs 8 = x8 at h8 HQ ⊢; subst h8
  go_wp2
  exact HQ.out _ _ (eR _) ⟨A8, c8, rfl, ho8⟩
 ·
  intro _ _
  refine sop rfl fun xs W HW hsW HD Q' HQ => ?_; simp only [fillAt, dstOf, lc0, lcs, obs, Act.put, lsa, lsz, lss, nz, Nat.reduceAdd] at HQ ⊢
  obtain ⟨A9, c9, h9, ho9⟩ : ((SoftT.mem 89 59 lnL (by decide) (0) ([exLn0, exLn2]) (fun A c => .tuple #[.agg (rpC (exO A c)), .int .i64 0]) : SoftT 68)).S (xs 9) W := (HD.out 9 (dk (by kernel_rfl)))
  generalize xs 9 = x9 at h9 HQ ⊢; subst h9
  go_wp2
  exact HQ.out _ _ (eR _) ⟨A9, c9, rfl, ho9⟩
 ·
  intro _ _
  refine sop rfl fun xs W HW hsW HD Q' HQ => ?_; simp only [fillAt, dstOf, lc0, lcs, obs, Act.put, lsa, lsz, lss, nz, Nat.reduceAdd] at HQ ⊢
  obtain ⟨A9, c9, h9, ho9⟩ : ((SoftT.mem 89 59 lnL (by decide) (0) ([exLn0, exLn2]) (fun A c => .tuple #[.agg (rpC (exO A c)), .int .i64 0]) : SoftT 68)).S (xs 9) W := (HD.out 9 (dk (by kernel_rfl)))
  generalize xs 9 = x9 at h9 HQ ⊢; subst h9
  go_wp2
  exact HQ.out _ _ (eR _) rfl
 ·exact fun h => absurd rfl h
 ·exact fun _ h => absurd rfl h
 ·
  intro _ _
  refine sop rfl fun xs W HW hsW HD Q' HQ => ?_; simp only [fillAt, dstOf, lc0, lcs, obs, Act.put, lsa, lsz, lss, nz, Nat.reduceAdd] at HQ ⊢
  have hd11 : xs 11 = .int .i64 0 := (HD.out 11 (dk (by kernel_rfl)))
  generalize xs 11 = x11 at hd11 HQ ⊢; subst hd11
  go_wp2
  exact HQ.out _ _ (eR _) rfl
 ·
  refine sop rfl fun xs W HW hsW HD Q' HQ => ?_; simp only [fillAt, dstOf, lc0, lcs, obs, Act.put, lsa, lsz, lss, nz, Nat.reduceAdd] at HQ ⊢
  go_wp2
  exact HQ.out _ _ ((eR _).alloc _) ⟨W.heap.size, rfl, by omega, _, TRow.new _ _ _, rfl⟩
 ·
  refine sop rfl fun xs W HW hsW HD Q' HQ => ?_; simp only [fillAt, dstOf, lc0, lcs, obs, Act.put, lsa, lsz, lss, nz, Nat.reduceAdd] at HQ ⊢
  obtain ⟨A10, c10, h10, ho10⟩ : ((SoftT.mem 89 59 lnL (by decide) (0) ([exLn0, exLn2]) (fun A c => .agg (rpC (exO A c))) : SoftT 68)).S (xs 10) W := (HD.out 10 (dk (by kernel_rfl)))
  generalize xs 10 = x10 at h10 HQ ⊢; subst h10
  obtain ⟨bb, hxa, hbb, ds, hrb, hzb⟩ : ∃ b, xs 12 = .pointer (some ⟨b, 0, none⟩) ∧ W5.heap.size ≤ b ∧ ∃ ds, TRow W b ds 68 ∧ ds.size = 37 := (HD.out 12 (dk (by kernel_rfl)))
  have hrm : roomOf W bb 0 37 = true := by rw [hrb.row.room, hzb]; rfl
  generalize xs 12 = x12 at hxa HQ ⊢; subst hxa
  clear hrb hzb
  go_wp2
  exact HQ.out undef bb _ rfl rfl ⟨A10, c10, rfl, ho10⟩
 intro xs W6 g6 csg6 hW hxb hbaseg6 hrowg6 hRg6 hvs
 obtain ⟨Ag6, cg6, hg6, hog6⟩ := hRg6
 subst hg6
 dsimp only at hrowg6
 have HOg6 := lh hog6
 clear hog6
 have h14 : xs 14 = .int .i64 0 := hvs 14 (dk (by kernel_rfl)) (by decide) (by decide)
 simp only [fillAt, dstOf, lc0, lcs, obs, Act.put, lsa, lsz, lss, nz, Nat.reduceAdd]
 generalize xs 14 = x14 at *; subst h14
 generalize xs 12 = xa at *; subst hxb
 have HW6 := lh (HW5.out.trans hW)
 have HWW6 := lh hW
 have HTg6 := lh hrowg6
 have HRg6 := lh hrowg6.row
 have hlg6 := hrowg6.row.lt
 clear hW hvs hrowg6 
 go_upto_region 6 with (fail)
 have hs56 := HWW6.out.size
 have kE : rowOf W6 B 0 38 = some (epC exE) := (HUE.out.ext (HWW3.out.trans (HWW5.out.trans HWW6.out))).all rfl (by omega)
 have kG : rowOf W6 (B+1+1) 0 3 = some (gsC (exG (some ⟨B+1, 0, none⟩) 2)) := (HUG.out.ext (HWW3.out.trans (HWW5.out.trans HWW6.out))).all rfl (by omega)
 have kC : rowOf W6 g 0 37 = some (cfC exC) := (HRg.out.ext (HWW5.out.trans HWW6.out)).all rfl (by omega)
 have kL : rowOf W6 g5 0 20 = some (leC exL) := (HU5.out.ext HWW6.out).all rfl (by omega)
 have HRGW6 := lh (HRGW5.out.on HWW6.out)
 clear HRGW5
 refine wp_region_rowT (T := 68) 15 (by kernel_rfl) 12 13 (fun i => softTs [SoftT.eq (.agg (kyC (theKey 1))), SoftT.eq (.agg (gsC (exG (some ⟨B+1, 0, none⟩) 2))), SoftT.eq (.agg (epC exE)), SoftT.eq (.agg (cfC exC)), (SoftT.mem 51 37 cfL (by decide) (0) ([exC]) (fun A c => .slice A 1 c) : SoftT 68), SoftT.eq (.agg (leC exL)), (SoftT.mem 87 20 leL (by decide) (0) ([exL]) (fun A c => .slice A 1 c) : SoftT 68), SoftT.eq (.agg #[.int .i64 900, .int .i64 910]), (SoftT.mem 89 59 lnL (by decide) (0) ([exLn0, exLn1]) (fun A c => .tuple #[.agg (rpC (exR A c)), .int .i64 0]) : SoftT 68), (SoftT.mem 89 59 lnL (by decide) (0) ([exLn0, exLn1]) (fun A c => .tuple #[.agg (rpC (exR A c)), .int .i64 0]) : SoftT 68), (SoftT.mem 89 59 lnL (by decide) (0) ([exLn0, exLn1]) (fun A c => .agg (rpC (exR A c))) : SoftT 68), SoftT.eq (.int .i64 0), SoftT.any, SoftT.any, SoftT.eq (.int .i64 0)] i) 37 (RelT.mem 89 59 lnL (by decide) (0) ([exLn0, exLn1]) (fun A c => rpC (exR A c))) (by kernel_rfl) (by kernel_rfl) (by decide) (dk (by kernel_rfl)) (dk (by kernel_rfl)) (dk (by kernel_rfl)) (lt_cons ?_ (lt_cons ?_ (lt_cons ?_ (lt_cons ?_ (lt_cons ?_ (lt_cons ?_ (lt_cons ?_ (lt_cons ?_ (lt_cons ?_ (lt_cons ?_ (lt_cons ?_ (lt_cons ?_ (lt_cons ?_ (lt_cons ?_ (lt_cons ?_ (lt_none)))))))))))))))) ?_ ?_ ?_
 ·
  intro _ _
  refine sop rfl fun xs W HW hsW HD Q' HQ => ?_; simp only [fillAt, dstOf, lc0, lcs, obs, Act.put, lsa, lsz, lss, nz, Nat.reduceAdd] at HQ ⊢
  go_wp2_with (go_at_call 32; refine (HK.out 1 _).mono ?_; rintro e w1 ⟨rfl, hx⟩)
  exact HQ.out _ _ hx rfl
 ·
  intro _ _
  refine sop rfl fun xs W HW hsW HD Q' HQ => ?_; simp only [fillAt, dstOf, lc0, lcs, obs, Act.put, lsa, lsz, lss, nz, Nat.reduceAdd] at HQ ⊢
  have hc := (row_extW HW.out (b := B+1+1) (by omega) 0 3).trans kG
  go_wp2
  exact HQ.out _ _ (eR _) rfl
 ·
  intro _ _
  refine sop rfl fun xs W HW hsW HD Q' HQ => ?_; simp only [fillAt, dstOf, lc0, lcs, obs, Act.put, lsa, lsz, lss, nz, Nat.reduceAdd] at HQ ⊢
  have hc := (row_extW HW.out (b := B) (by omega) 0 38).trans kE
  go_wp2
  exact HQ.out _ _ (eR _) rfl
 ·
  intro _ _
  refine sop rfl fun xs W HW hsW HD Q' HQ => ?_; simp only [fillAt, dstOf, lc0, lcs, obs, Act.put, lsa, lsz, lss, nz, Nat.reduceAdd] at HQ ⊢
  have hc := (row_extW HW.out (b := g) (by omega) 0 37).trans kC
  go_wp2
  exact HQ.out _ _ (eR _) rfl
 ·
  intro _ _
  refine sop rfl fun xs W HW hsW HD Q' HQ => ?_; simp only [fillAt, dstOf, lc0, lcs, obs, Act.put, lsa, lsz, lss, nz, Nat.reduceAdd] at HQ ⊢
  have hd3 : xs 3 = .agg (cfC exC) := (HD.out 3 (dk (by kernel_rfl)))
  generalize xs 3 = x3 at hd3 HQ ⊢; subst hd3
  go_wp2
  exact HQ.out _ _ ((eR _).alloc _) ⟨_, _, rfl, owns_fresh cfE [exC] W _ _ _ rfl (Nat.zero_le _) (by kernel_rfl) (by simp)⟩
 ·
  intro _ _
  refine sop rfl fun xs W HW hsW HD Q' HQ => ?_; simp only [fillAt, dstOf, lc0, lcs, obs, Act.put, lsa, lsz, lss, nz, Nat.reduceAdd] at HQ ⊢
  have hc := (row_extW HW.out (b := g5) (by omega) 0 20).trans kL
  go_wp2
  exact HQ.out _ _ (eR _) rfl
 ·
  intro _ _
  refine sop rfl fun xs W HW hsW HD Q' HQ => ?_; simp only [fillAt, dstOf, lc0, lcs, obs, Act.put, lsa, lsz, lss, nz, Nat.reduceAdd] at HQ ⊢
  have hd5 : xs 5 = .agg (leC exL) := (HD.out 5 (dk (by kernel_rfl)))
  generalize xs 5 = x5 at hd5 HQ ⊢; subst hd5
  go_wp2
  exact HQ.out _ _ ((eR _).alloc _) ⟨_, _, rfl, owns_fresh leE [exL] W _ _ _ rfl (Nat.zero_le _) (by kernel_rfl) (by simp)⟩
 ·
  intro _ _
  refine sop rfl fun xs W HW hsW HD Q' HQ => ?_; simp only [fillAt, dstOf, lc0, lcs, obs, Act.put, lsa, lsz, lss, nz, Nat.reduceAdd] at HQ ⊢
  go_wp2
  exact HQ.out _ _ (eR _) rfl
 ·
  intro _ _
  refine sop rfl fun xs W HW hsW HD Q' HQ => ?_; simp only [fillAt, dstOf, lc0, lcs, obs, Act.put, lsa, lsz, lss, nz, Nat.reduceAdd] at HQ ⊢
  have hd0 : xs 0 = .agg (kyC (theKey 1)) := (HD.out 0 (dk (by kernel_rfl)))
  generalize xs 0 = x0 at hd0 HQ ⊢; subst hd0
  have hd1 : xs 1 = .agg (gsC (exG (some ⟨B+1, 0, none⟩) 2)) := (HD.out 1 (dk (by kernel_rfl)))
  generalize xs 1 = x1 at hd1 HQ ⊢; subst hd1
  have hd2 : xs 2 = .agg (epC exE) := (HD.out 2 (dk (by kernel_rfl)))
  generalize xs 2 = x2 at hd2 HQ ⊢; subst hd2
  obtain ⟨A4, c4, h4, ho4⟩ : ((SoftT.mem 51 37 cfL (by decide) (0) ([exC]) (fun A c => .slice A 1 c) : SoftT 68)).S (xs 4) W := (HD.out 4 (dk (by kernel_rfl)))
  generalize xs 4 = x4 at h4 HQ ⊢; subst h4
  obtain ⟨A6, c6, h6, ho6⟩ : ((SoftT.mem 87 20 leL (by decide) (0) ([exL]) (fun A c => .slice A 1 c) : SoftT 68)).S (xs 6) W := (HD.out 6 (dk (by kernel_rfl)))
  generalize xs 6 = x6 at h6 HQ ⊢; subst h6
  have hd7 : xs 7 = .agg #[.int .i64 900, .int .i64 910] := (HD.out 7 (dk (by kernel_rfl)))
  generalize xs 7 = x7 at hd7 HQ ⊢; subst hd7
  go_wp2_with (go_at_call 22; refine (HMk9.out _ _ _ _ _ _ _ (HW6.out.trans HW.out) (HRGW6.out.on HW.out) (ho4.reads cfE) (ho6.reads leE)).mono ?_; rintro e w1 ⟨⟨LA, lc, rfl, ho⟩, hx⟩)
  exact HQ.out _ _ hx ⟨LA, lc, rfl, ho.lower (Nat.zero_le _)⟩
 ·
  intro _ _
  refine sop rfl fun xs W HW hsW HD Q' HQ => ?_; simp only [fillAt, dstOf, lc0, lcs, obs, Act.put, lsa, lsz, lss, nz, Nat.reduceAdd] at HQ ⊢
  obtain ⟨A8, c8, h8, ho8⟩ : ((SoftT.mem 89 59 lnL (by decide) (0) ([exLn0, exLn1]) (fun A c => .tuple #[.agg (rpC (exR A c)), .int .i64 0]) : SoftT 68)).S (xs 8) W := (HD.out 8 (dk (by kernel_rfl)))
  generalize xs 8 = x8 at h8 HQ ⊢; subst h8
  go_wp2
  exact HQ.out _ _ (eR _) ⟨A8, c8, rfl, ho8⟩
 ·
  intro _ _
  refine sop rfl fun xs W HW hsW HD Q' HQ => ?_; simp only [fillAt, dstOf, lc0, lcs, obs, Act.put, lsa, lsz, lss, nz, Nat.reduceAdd] at HQ ⊢
  obtain ⟨A9, c9, h9, ho9⟩ : ((SoftT.mem 89 59 lnL (by decide) (0) ([exLn0, exLn1]) (fun A c => .tuple #[.agg (rpC (exR A c)), .int .i64 0]) : SoftT 68)).S (xs 9) W := (HD.out 9 (dk (by kernel_rfl)))
  generalize xs 9 = x9 at h9 HQ ⊢; subst h9
  go_wp2
  exact HQ.out _ _ (eR _) ⟨A9, c9, rfl, ho9⟩
 ·
  intro _ _
  refine sop rfl fun xs W HW hsW HD Q' HQ => ?_; simp only [fillAt, dstOf, lc0, lcs, obs, Act.put, lsa, lsz, lss, nz, Nat.reduceAdd] at HQ ⊢
  obtain ⟨A9, c9, h9, ho9⟩ : ((SoftT.mem 89 59 lnL (by decide) (0) ([exLn0, exLn1]) (fun A c => .tuple #[.agg (rpC (exR A c)), .int .i64 0]) : SoftT 68)).S (xs 9) W := (HD.out 9 (dk (by kernel_rfl)))
  generalize xs 9 = x9 at h9 HQ ⊢; subst h9
  go_wp2
  exact HQ.out _ _ (eR _) rfl
 ·exact fun h => absurd rfl h
 ·exact fun _ h => absurd rfl h
 ·
  intro _ _
  refine sop rfl fun xs W HW hsW HD Q' HQ => ?_; simp only [fillAt, dstOf, lc0, lcs, obs, Act.put, lsa, lsz, lss, nz, Nat.reduceAdd] at HQ ⊢
  have hd11 : xs 11 = .int .i64 0 := (HD.out 11 (dk (by kernel_rfl)))
  generalize xs 11 = x11 at hd11 HQ ⊢; subst hd11
  go_wp2
  exact HQ.out _ _ (eR _) rfl
 ·
  refine sop rfl fun xs W HW hsW HD Q' HQ => ?_; simp only [fillAt, dstOf, lc0, lcs, obs, Act.put, lsa, lsz, lss, nz, Nat.reduceAdd] at HQ ⊢
  go_wp2
  exact HQ.out _ _ ((eR _).alloc _) ⟨W.heap.size, rfl, by omega, _, TRow.new _ _ _, rfl⟩
 ·
  refine sop rfl fun xs W HW hsW HD Q' HQ => ?_; simp only [fillAt, dstOf, lc0, lcs, obs, Act.put, lsa, lsz, lss, nz, Nat.reduceAdd] at HQ ⊢
  obtain ⟨A10, c10, h10, ho10⟩ : ((SoftT.mem 89 59 lnL (by decide) (0) ([exLn0, exLn1]) (fun A c => .agg (rpC (exR A c))) : SoftT 68)).S (xs 10) W := (HD.out 10 (dk (by kernel_rfl)))
  generalize xs 10 = x10 at h10 HQ ⊢; subst h10
  obtain ⟨bb, hxa, hbb, ds, hrb, hzb⟩ : ∃ b, xs 12 = .pointer (some ⟨b, 0, none⟩) ∧ W6.heap.size ≤ b ∧ ∃ ds, TRow W b ds 68 ∧ ds.size = 37 := (HD.out 12 (dk (by kernel_rfl)))
  have hrm : roomOf W bb 0 37 = true := by rw [hrb.row.room, hzb]; rfl
  generalize xs 12 = x12 at hxa HQ ⊢; subst hxa
  clear hrb hzb
  go_wp2
  exact HQ.out undef bb _ rfl rfl ⟨A10, c10, rfl, ho10⟩
 intro xs W7 g8 csg8 hW hxb hbaseg8 hrowg8 hRg8 hvs
 obtain ⟨Ag8, cg8, hg8, hog8⟩ := hRg8
 subst hg8
 dsimp only at hrowg8
 have HOg8 := lh hog8
 clear hog8
 have h14 : xs 14 = .int .i64 0 := hvs 14 (dk (by kernel_rfl)) (by decide) (by decide)
 simp only [fillAt, dstOf, lc0, lcs, obs, Act.put, lsa, lsz, lss, nz, Nat.reduceAdd]
 generalize xs 14 = x14 at *; subst h14
 generalize xs 12 = xa at *; subst hxb
 have HW7 := lh (HW6.out.trans hW)
 have HWW7 := lh hW
 have HTg8 := lh hrowg8
 have HRg8 := lh hrowg8.row
 have hlg8 := hrowg8.row.lt
 clear hW hvs hrowg8 
 go_upto_region 7 with (fail)
 have HRd8 := lh (HOg8.out.reads lnE)
 have HRd6 := lh ((HOg6.out.ext HWW7.out).reads lnE)
 have HRow6 := lh (HRg6.out.ext HWW7.out)
 have HRow8 := HRg8
 have HTow8 := HTg8
 have HC8 := lh (ex_check Ag8 cg8)
 have HM8 := lh (ex_refM Ag8 cg8)
 have HN8 := lh (ex_refL Ag8 cg8)
 have HLi := lh (ex_lie)
 have HRO8 := lh (exR_ok Ag8 cg8)
 have HLns : Hid ((exR Ag8 cg8).LA = Ag8 ∧ (exR Ag8 cg8).lines = [exLn0, exLn1]) := lh ⟨rfl, rfl⟩
 have HLno : Hid ((exO Ag6 cg6).LA = Ag6 ∧ (exO Ag6 cg6).lines = [exLn0, exLn2]) := lh ⟨rfl, rfl⟩
 have HSet : Hid (∀ (A : Option Addr) (c : Nat), (rpC (exR Ag8 cg8)).setIfInBounds 19 (.slice A 2 c) = rpC (exY A c)) := lh (fun A c => by kernel_rfl)
 have hq6 : (rpC (exO Ag6 cg6))[19]? = some (.slice Ag6 2 cg6) := by kernel_rfl
 have hq8 : (rpC (exR Ag8 cg8))[19]? = some (.slice Ag8 2 cg8) := by kernel_rfl
 have HQ8 := lh hq8
 have HQ6 := lh hq6
 clear HRg6 HRg8 HTg6 HTg8 HOg6
 generalize exO Ag6 cg6 = O at *
 generalize exR Ag8 cg8 = R at *
 have HCl6 : Hid (∀ W : World, Ext W7 W → Calls Tryz.prog 25 #[.agg (rpC O)] W fun e w' => e = .returned (.bool false) ∧ Ext W w') := lh (fun W hx => by
  have h := aclosed_any O W (by rw [HLno.out.2]; decide) (by rw [HLno.out.1, HLno.out.2]; exact HRd6.out.on hx)
  rw [show closedB O = false by unfold closedB; rw [HLno.out.2]; rfl] at h
  exact h)
 have HCl8 : Hid (∀ W : World, Ext W7 W → Calls Tryz.prog 25 #[.agg (rpC R)] W fun e w' => e = .returned (.bool true) ∧ Ext W w') := lh (fun W hx => by
  have h := aclosed_any R W (by rw [HLns.out.2]; decide) (by rw [HLns.out.1, HLns.out.2]; exact HRd8.out.on hx)
  rw [show closedB R = true by unfold closedB; rw [HLns.out.2]; rfl] at h
  exact h)
 have hl7 := HRow8.out.lt
 have hl76 := HRow6.out.lt
 have q6 : W7.cell? ⟨g6, 19, none⟩ = some (.slice Ag6 2 cg6) := (HRow6.out.cell 19).trans hq6
 have q8 : W7.cell? ⟨g8, 19, none⟩ = some (.slice Ag8 2 cg8) := (HRow8.out.cell 19).trans hq8
 have k6 : rowOf W7 g6 0 37 = some (rpC O) := HRow6.out.all rfl (by omega)
 have k8 : rowOf W7 g8 0 37 = some (rpC R) := HRow8.out.all rfl (by omega)
 clear hq6 hq8
 go_upto_region 9 with (first | (go_at_call 25; refine (HCl6.out _ (by (with_reducible repeat first|exact eR _|apply eD|apply eN|apply eA|apply eO|apply eS|apply eC);all_goals first|omega|simp <;> omega)).mono ?_; rintro e w' ⟨rfl, hxl⟩; obtain ⟨xl, rfl⟩ := hxl.asLater; clear hxl) | (go_at_call 25; refine (HCl8.out _ (by (with_reducible repeat first|exact eR _|apply eD|apply eN|apply eA|apply eO|apply eS|apply eC);all_goals first|omega|simp <;> omega)).mono ?_; rintro e w' ⟨rfl, hxl⟩; obtain ⟨xl, rfl⟩ := hxl.asLater; clear hxl))
 refine wp_world (fun W => Ext W7 W) (by (with_reducible repeat first|exact eR _|apply eD|apply eN|apply eA|apply eO|apply eS|apply eC);all_goals first|omega|simp <;> omega) ?_
 rintro W8 x8
 have HW8 := lh (HW7.out.trans x8)
 have HWW8 := lh x8
 have hs78 := x8.size
 have kE : rowOf W8 B 0 38 = some (epC exE) := (HUE.out.ext (HWW3.out.trans (HWW5.out.trans (HWW6.out.trans (HWW7.out.trans x8))))).all rfl (by omega)
 have k8 : rowOf W8 g8 0 37 = some (rpC R) := (HRow8.out.ext x8).all rfl (by omega)
 have HCk : Hid (∀ (A : Option Addr) (c : Nat) (W : World), Ext W7 W → ReadsKy W W.heap.size A theKeys → Calls Tryz.prog 28 #[.slice A theKeys.length c, .agg (epC exE), .agg (rpC R)] W fun e w' => e = .returned (.tuple #[.int .i64 (-1), .int .i64 0]) ∧ Ext W w') := lh (fun A c W hx h => by
  have h := acheck_any A c theKeys exE R W ring_ok h exE_ok exE_short (exE_at W) HRO8.out (by rw [HLns.out.2]; decide) (by rw [HLns.out.1, HLns.out.2]; exact HRd8.out.on hx) (RowAt.ext hk (HW7.out.trans hx))
  rw [HC8.out] at h
  exact h)
 clear x8 q6 q8 k6
 refine wp_region_soft 8 (softsL [readKs theKeys, .eq (.agg (epC exE)), .eq (.agg (rpC R)), .eq (.tuple #[.int .i64 (-1), .int .i64 0]), .eq (.tuple #[.int .i64 (-1), .int .i64 0]), .eq (.int .i64 (-1)), .eq (.int .i64 0), .eq (.int .i64 (-1))]) (by kernel_rfl) (by kernel_rfl) (lt_cons ?_ (lt_cons ?_ (lt_cons ?_ (lt_cons ?_ (lt_cons ?_ (lt_cons ?_ (lt_cons ?_ (lt_cons ?_ (lt_none))))))))) ?_
 any_goals (refine sop rfl fun xs W HW hsW HD Q' HQ => ?_; simp only [fillAt, dstOf, lc0, lcs, obs, Act.put, lsa, lsz, lss, nz, Nat.reduceAdd] at HQ ⊢)
 ·
  go_wp2_with (go_at_call 29; refine (lkeys_is _).mono ?_; rintro e w1 ⟨⟨A, c, rfl, h1⟩, hx⟩)
  exact HQ.out _ _ hx ⟨A, c, rfl, h1⟩
 ·
  have hc := (row_extW HW.out (b := B) (by omega) 0 38).trans kE
  go_wp2
  exact HQ.out _ _ (eR _) rfl
 ·
  have hc := (row_extW HW.out (b := g8) (by omega) 0 37).trans k8
  go_wp2
  exact HQ.out _ _ (eR _) rfl
 ·
  have hs0 : (readKs theKeys).S (xs 0) W := (HD.out 0 (dk (by kernel_rfl)))
  have hd1 : xs 1 = .agg (epC exE) := (HD.out 1 (dk (by kernel_rfl)))
  generalize xs 1 = x1 at hd1 HQ ⊢; subst hd1
  have hd2 : xs 2 = .agg (rpC R) := (HD.out 2 (dk (by kernel_rfl)))
  generalize xs 2 = x2 at hd2 HQ ⊢; subst hd2
  obtain ⟨A0, c0, h0, hr0⟩ := hs0
  generalize xs 0 = x0 at h0 HQ ⊢; subst h0
  go_wp2_with (go_at_call 28; refine (HCk.out A0 c0 _ (HWW8.out.trans HW.out) hr0).mono ?_; rintro e w1 ⟨rfl, hx⟩)
  exact HQ.out _ _ hx rfl
 ·
  have hd3 : xs 3 = .tuple #[.int .i64 (-1), .int .i64 0] := (HD.out 3 (dk (by kernel_rfl)))
  generalize xs 3 = x3 at hd3 HQ ⊢; subst hd3
  go_wp2
  exact HQ.out _ _ (eR _) rfl
 ·
  have hd4 : xs 4 = .tuple #[.int .i64 (-1), .int .i64 0] := (HD.out 4 (dk (by kernel_rfl)))
  generalize xs 4 = x4 at hd4 HQ ⊢; subst hd4
  go_wp2
  exact HQ.out _ _ (eR _) rfl
 ·
  have hd4 : xs 4 = .tuple #[.int .i64 (-1), .int .i64 0] := (HD.out 4 (dk (by kernel_rfl)))
  generalize xs 4 = x4 at hd4 HQ ⊢; subst hd4
  go_wp2
  exact HQ.out _ _ (eR _) rfl
 ·
  have hd5 : xs 5 = .int .i64 (-1) := (HD.out 5 (dk (by kernel_rfl)))
  generalize xs 5 = x5 at hd5 HQ ⊢; subst hd5
  go_wp2
  exact HQ.out _ _ (eR _) rfl
 intro xs W9 hW hS
 have h6 : xs 6 = .int .i64 0 := hS 6 (by omega)
 have h7 : xs 7 = .int .i64 (-1) := hS 7 (by omega)
 simp only [fillAt, dstOf, lc0, lcs, obs, Act.put, lsa, lsz, lss, nz, Nat.reduceAdd, List.drop_succ_cons, List.drop_zero, List.drop_nil]
 generalize xs 6 = x6 at *; subst h6
 generalize xs 7 = x7 at *; subst h7
 have HW9 := lh (HW8.out.trans hW)
 have HWW9 := lh hW
 clear hS hW kE k8
 go_upto_region 11 with (first | (go_at_call 32; refine (HK.out _ _).mono ?_; rintro e w' ⟨rfl, hxl⟩; obtain ⟨xk, rfl⟩ := hxl.asLater; clear hxl) | (go_at_call 55; refine (HLm.out _ (HW9.out.onto _)).mono ?_; rintro e w' ⟨rfl, hxl⟩; obtain ⟨xl, rfl⟩ := hxl.asLater; clear hxl))
 refine wp_world (fun W => Ext W9 W ∧ RowAt W (W9.heap.size + (xk.comp xl).n) (leC exM)) ⟨(by (with_reducible repeat first|exact eR _|apply eD|apply eN|apply eA|apply eO|apply eS|apply eC);all_goals first|omega|simp <;> omega), RowAt.store (RowAt.newAt (later_size _ _).symm) rfl⟩ ?_
 obtain ⟨g12, hg12⟩ : ∃ g, W9.heap.size + (xk.comp xl).n = g := ⟨_, rfl⟩
 have hg912 : W9.heap.size ≤ g12 := by omega
 rw [hg12]
 rintro W10 ⟨x10, u12⟩
 have HW10 := lh (HW9.out.trans x10)
 have HWW10 := lh (HWW8.out.trans (HWW9.out.trans x10))
 have HU12 := lh u12
 have hl12 := u12.lt
 have hs910 := x10.size
 have hs89 := HWW9.out.size
 have HR8a := lh (HRow8.out.ext HWW10.out)
 have HR6a := lh (HRow6.out.ext HWW10.out)
 have HO8a := lh (HOg8.out.ext HWW10.out)
 have k8 : rowOf W10 g8 0 37 = some (rpC R) := HR8a.out.all rfl (by omega)
 clear x10 u12 hg12 HLm
 go_upto_region 12 with (fail)
 refine wp_world (fun W => Ext W10 W ∧ RowAt W W10.heap.size (rpC R)) ⟨(by (with_reducible repeat first|exact eR _|apply eD|apply eN|apply eA|apply eO|apply eS|apply eC);all_goals first|omega|simp <;> omega), RowAt.store (RowAt.newAt rfl) rfl⟩ ?_
 obtain ⟨g13, hg13⟩ : ∃ g, W10.heap.size = g := ⟨_, rfl⟩
 rw [hg13]
 rintro W11 ⟨x11, u13⟩
 have HX11 := lh x11
 have HU13 := lh u13
 have hfz13 := u13.free 19
 have hl13 := u13.lt
 have q8 : W11.cell? ⟨g8, 19, none⟩ = some (.slice Ag8 2 cg8) := ((HR8a.out.ext x11).cell 19).trans HQ8.out
 have q13 : W11.cell? ⟨g13, 19, none⟩ = some (.slice Ag8 2 cg8) := (u13.cell 19).trans HQ8.out
 have hl8 : g8 < W11.heap.size := (HR8a.out.ext x11).lt
 clear x11 u13 k8
 go_upto_region 13 with (at_builtin; refine app_reads lnT lnE rfl _ _ rfl W11.heap.size _ 0 [] rfl (owns_fresh lnE [] W11 #[] _ W11.heap.size rfl (Nat.le_refl _) rfl (by simp)) W11.heap.size Ag8 cg8 [exLn0, exLn1] rfl (((HO8a.out.ext HX11.out).reads lnE).ext ((eR _).alloc _) (Nat.le_refl _)) HO8a.out.none0 (by simp) (by simp) (by simp) ?_; intro A7 c7 l7 w7 HL HO5 hB hl1 hl2 hg; have HO7 := lh HO5; have HB7 := lh hB; have hu7 : RowAt w7 g13 (rpC R) := RowAt.below (HU13.out.alloc _) hB hl13; have q713 := (hu7.cell 19).trans HQ8.out; have fz713 := hu7.free 19; have HU7 := lh hu7; have hl713 := hu7.lt; clear HO5 hB hu7)
 have hsz7 := HB7.out.size
 refine wp_world (fun W => ∃ A c, (Value.slice A7 l7.length c7 = .slice A 2 c) ∧ Ext W10 W ∧ RowAt W g13 (rpC (exY A c)) ∧ OwnsLn W11.heap.size W A c [exLn0, exLn1]) ⟨A7, c7, ?_, ?_, ?_, ?_⟩ ?_
 ·have h : l7.length = 2 := by have := hl1; have := hl2; simp only [List.length_cons, List.length_nil] at *; omega
  rw [h]
 ·refine Ext.setCell ?_ (by show _ ≤ g13; omega) _
  exact HX11.out.trans (Ext.grown ((eR _).alloc _) HB7.out (Nat.le_refl _))
 ·have h := HU7.out.set 19 (.slice A7 l7.length c7)
  have h2 : l7.length = 2 := by have := hl1; have := hl2; simp only [List.length_cons, List.length_nil] at *; omega
  rw [h2, HSet.out] at h
  rw [h2]
  exact h
 ·have h := HL.out
  rw [List.nil_append] at h
  rw [← h]
  exact (HO7.out.lower (Nat.le_refl _)).other (by show g13 < _; omega) _
 rintro W12 ⟨Aq, cq, hv, x12, u13, o12⟩
 obtain ⟨g7, rfl, hg7, hl7g, c7, f7, hlie⟩ := reads_lie o12
 have HY0 := lh (show (rpC (exY (some ⟨g7, 0, none⟩) cq))[19]? = some (.slice (some ⟨g7, 0, none⟩) 2 cq) by kernel_rfl)
 have HX12 := lh x12
 have HU13b := lh u13
 have HLie := lh hlie
 have q13 : W12.cell? ⟨g13, 19, none⟩ = some (.slice (some ⟨g7, 0, none⟩) 2 cq) := (u13.cell 19).trans HY0.out
 have hl13b := u13.lt
 clear x12 u13 o12 hlie hv q8
 go_upto_region 14 with (fail)
 refine wp_world (fun W => Ext W10 W ∧ RowAt W g13 (rpC (exY (some ⟨g7, 0, none⟩) cq)) ∧ Reads 59 lnL W W.heap.size (some ⟨g7, 0, none⟩) [exLn0, exLn3]) ⟨HX12.out.setCell (by show _ ≤ g7; omega) _, HU13b.out.other (by show g13 ≠ g7; omega) _, by simpa using HLie.out⟩ ?_
 rintro W13 ⟨x13, u13, rl13⟩
 have HW13 := lh (HW10.out.trans x13)
 have HWW13 := lh (HWW10.out.trans x13)
 have HX13 := lh x13
 have HRL := lh rl13
 have hl13c := u13.lt
 have hs1013 := x13.size
 have kY : rowOf W13 g13 0 37 = some (rpC (exY (some ⟨g7, 0, none⟩) cq)) := u13.all rfl (by omega)
 have kE : rowOf W13 B 0 38 = some (epC exE) := (HUE.out.ext (HWW3.out.trans (HWW5.out.trans (HWW6.out.trans (HWW7.out.trans HWW13.out))))).all rfl (by omega)
 have HRO := lh (exY_ok (some ⟨g7, 0, none⟩) cq)
 have HLi2 := lh (HLi.out (some ⟨g7, 0, none⟩) cq)
 have HYl : Hid ((exY (some ⟨g7, 0, none⟩) cq).LA = some ⟨g7, 0, none⟩ ∧ (exY (some ⟨g7, 0, none⟩) cq).lines = [exLn0, exLn3]) := lh ⟨rfl, rfl⟩
 clear x13 u13 rl13 HX12 HU13b HLie q13 c7 f7 HY0 HLi HCk
 generalize exY (some ⟨g7, 0, none⟩) cq = Y at *
 have HCy : Hid (∀ (A : Option Addr) (c : Nat) (W : World), Ext W13 W → ReadsKy W W.heap.size A theKeys → Calls Tryz.prog 28 #[.slice A theKeys.length c, .agg (epC exE), .agg (rpC Y)] W fun e w' => e = .returned (.tuple #[.int .i64 (-1), .int .i64 8]) ∧ Ext W w') := lh (fun A c W hx h => by
  have h := acheck_any A c theKeys exE Y W ring_ok h exE_ok exE_short (exE_at W) HRO.out (by rw [HYl.out.2]; decide) (by rw [HYl.out.1, HYl.out.2]; exact HRL.out.on hx) (RowAt.ext hk (HW13.out.trans hx))
  rw [HLi2.out] at h
  exact h)
 refine wp_region_soft 8 (softsL [readKs theKeys, .eq (.agg (epC exE)), .eq (.agg (rpC Y)), .eq (.tuple #[.int .i64 (-1), .int .i64 8]), .eq (.tuple #[.int .i64 (-1), .int .i64 8]), .eq (.int .i64 (-1)), .eq (.int .i64 8), .eq (.int .i64 (-1))]) (by kernel_rfl) (by kernel_rfl) (lt_cons ?_ (lt_cons ?_ (lt_cons ?_ (lt_cons ?_ (lt_cons ?_ (lt_cons ?_ (lt_cons ?_ (lt_cons ?_ (lt_none))))))))) ?_
 any_goals (refine sop rfl fun xs W HW hsW HD Q' HQ => ?_; simp only [fillAt, dstOf, lc0, lcs, obs, Act.put, lsa, lsz, lss, nz, Nat.reduceAdd] at HQ ⊢)
 ·
  go_wp2_with (go_at_call 29; refine (lkeys_is _).mono ?_; rintro e w1 ⟨⟨A, c, rfl, h1⟩, hx⟩)
  exact HQ.out _ _ hx ⟨A, c, rfl, h1⟩
 ·
  have hc := (row_extW HW.out (b := B) (by omega) 0 38).trans kE
  go_wp2
  exact HQ.out _ _ (eR _) rfl
 ·
  have hc := (row_extW HW.out (b := g13) (by omega) 0 37).trans kY
  go_wp2
  exact HQ.out _ _ (eR _) rfl
 ·
  have hs0 : (readKs theKeys).S (xs 0) W := (HD.out 0 (dk (by kernel_rfl)))
  have hd1 : xs 1 = .agg (epC exE) := (HD.out 1 (dk (by kernel_rfl)))
  generalize xs 1 = x1 at hd1 HQ ⊢; subst hd1
  have hd2 : xs 2 = .agg (rpC Y) := (HD.out 2 (dk (by kernel_rfl)))
  generalize xs 2 = x2 at hd2 HQ ⊢; subst hd2
  obtain ⟨A0, c0, h0, hr0⟩ := hs0
  generalize xs 0 = x0 at h0 HQ ⊢; subst h0
  go_wp2_with (go_at_call 28; refine (HCy.out A0 c0 _ HW.out hr0).mono ?_; rintro e w1 ⟨rfl, hx⟩)
  exact HQ.out _ _ hx rfl
 ·
  have hd3 : xs 3 = .tuple #[.int .i64 (-1), .int .i64 8] := (HD.out 3 (dk (by kernel_rfl)))
  generalize xs 3 = x3 at hd3 HQ ⊢; subst hd3
  go_wp2
  exact HQ.out _ _ (eR _) rfl
 ·
  have hd4 : xs 4 = .tuple #[.int .i64 (-1), .int .i64 8] := (HD.out 4 (dk (by kernel_rfl)))
  generalize xs 4 = x4 at hd4 HQ ⊢; subst hd4
  go_wp2
  exact HQ.out _ _ (eR _) rfl
 ·
  have hd4 : xs 4 = .tuple #[.int .i64 (-1), .int .i64 8] := (HD.out 4 (dk (by kernel_rfl)))
  generalize xs 4 = x4 at hd4 HQ ⊢; subst hd4
  go_wp2
  exact HQ.out _ _ (eR _) rfl
 ·
  have hd5 : xs 5 = .int .i64 (-1) := (HD.out 5 (dk (by kernel_rfl)))
  generalize xs 5 = x5 at hd5 HQ ⊢; subst hd5
  go_wp2
  exact HQ.out _ _ (eR _) rfl
 intro xs W14 hW hS
 have h6 : xs 6 = .int .i64 8 := hS 6 (by omega)
 have h7 : xs 7 = .int .i64 (-1) := hS 7 (by omega)
 simp only [fillAt, dstOf, lc0, lcs, obs, Act.put, lsa, lsz, lss, nz, Nat.reduceAdd, List.drop_succ_cons, List.drop_zero, List.drop_nil]
 generalize xs 6 = x6 at *; subst h6
 generalize xs 7 = x7 at *; subst h7
 have HW14 := lh (HW13.out.trans hW)
 have HWW14 := lh hW
 clear hS hW kE kY
 go_upto_region 15 with (fail)
 have hs1314 := HWW14.out.size
 have HZ := lh (HWW13.out.trans HWW14.out)
 have u6 := HRow6.out.ext HZ.out
 have u8 := HRow8.out.ext HZ.out
 have k8 : rowOf W14 g8 0 37 = some (rpC R) := u8.all rfl (by omega)
 have hl8z := u8.lt
 have hl6z := u6.lt
 have q6 : W14.cell? ⟨g6, 19, none⟩ = some (.slice Ag6 2 cg6) := (u6.cell 19).trans HQ6.out
 have q8 : W14.cell? ⟨g8, 19, none⟩ = some (.slice Ag8 2 cg8) := (u8.cell 19).trans HQ8.out
 have kE : rowOf W14 B 0 38 = some (epC exE) := (HUE.out.ext (HWW3.out.trans (HWW5.out.trans (HWW6.out.trans (HWW7.out.trans HZ.out))))).all rfl (by omega)
 have kL : rowOf W14 g5 0 20 = some (leC exL) := (HU5.out.ext (HWW6.out.trans (HWW7.out.trans HZ.out))).all rfl (by omega)
 have kM : rowOf W14 g12 0 20 = some (leC exM) := (HU12.out.ext (HX13.out.trans HWW14.out)).all rfl (by omega)
 obtain ⟨b6, o6, e6, hb6, r6⟩ := (HRd6.out.on HZ.out) (by decide)
 obtain ⟨b8, o8, e8, hb8, r8⟩ := (HRd8.out.on HZ.out) (by decide)
 subst e6 e8
 have c61 : W14.cell? ⟨b6, o6 + 59 + 1, none⟩ = some (.int .i64 3) := r6 1 (by decide) 1 (.int .i64 3) (by kernel_rfl)
 have c80 : W14.cell? ⟨b8, o8 + 1, none⟩ = some (.int .i64 1) := (r8 0 (by decide) 1 (.int .i64 1) (by kernel_rfl))
 have c81 : W14.cell? ⟨b8, o8 + 59 + 1, none⟩ = some (.int .i64 2) := (r8 1 (by decide) 1 (.int .i64 2) (by kernel_rfl))
 have HRf : Hid (∀ (A : Option Addr) (c : Nat) (W : World) (s : Le) (v : Bool), LeOk s → refutesB theKeys exE R s = v → Ext W14 W → ReadsKy W W.heap.size A theKeys → Calls Tryz.prog 30 #[.slice A theKeys.length c, .agg (epC exE), .agg (rpC R), .agg (leC s)] W fun e w' => e = .returned (.bool v) ∧ Ext W w') := lh (fun A c W s v h1 h2 hx h => by
  have h := arefutes_any A c theKeys exE R s W ring_ok h (by rw [HLns.out.2]; decide) (by rw [HLns.out.1, HLns.out.2]; exact (HRd8.out.on (HZ.out.trans hx))) h1 (RowAt.ext hk (HW14.out.trans hx))
  rw [h2] at h
  exact h)
 have HRfM := lh (fun A c W => HRf.out A c W exM true exM_ok HM8.out)
 have HRfL := lh (fun A c W => HRf.out A c W exL false exL_ok HN8.out)
 have hfM := le_fits exM
 have hfL := le_fits exL
 clear u6 u8 r6 r8 HRf
 clear HM8 HN8
 generalize exM = M at *
 generalize exL = L at *
 refine wp_region_soft 53 (softsL [.eq (.pointer (some ⟨g6, 19, none⟩)), .eq (.slice (some ⟨b6, o6, none⟩) 2 cg6), .eq (.pointer (some ⟨b6, o6 + 59, none⟩)), .eq (.pointer (some ⟨b6, o6 + 59 + 1, none⟩)), .eq (.int .i64 3), .eq (.bool true), .eq (.bool true), .eq (.pointer (some ⟨g8, 19, none⟩)), .eq (.slice (some ⟨b8, o8, none⟩) 2 cg8), .eq (.pointer (some ⟨b8, o8, none⟩)), .eq (.pointer (some ⟨b8, o8 + 1, none⟩)), .eq (.int .i64 1), .eq (.bool true), .eq (.bool true), .eq (.bool true), .eq (.pointer (some ⟨g8, 19, none⟩)), .eq (.slice (some ⟨b8, o8, none⟩) 2 cg8), .eq (.pointer (some ⟨b8, o8 + 59, none⟩)), .eq (.pointer (some ⟨b8, o8 + 59 + 1, none⟩)), .eq (.int .i64 2), .eq (.bool true), .eq (.bool true), .eq (.bool true), .eq (.int .i64 (-1)), .eq (.bool true), .eq (.bool true), .eq (.bool true), .eq (.int .i64 (0)), .eq (.bool true), .eq (.bool true), .eq (.bool true), .eq (.int .i64 (-1)), .eq (.bool true), .eq (.bool true), .eq (.bool true), .eq (.int .i64 (8)), .eq (.bool true), .eq (.bool true), .eq (.bool true), readKs theKeys, .eq (.agg (epC exE)), .eq (.agg (rpC R)), .eq (.agg (leC M)), .eq (.bool true), .eq (.bool true), .eq (.bool true), readKs theKeys, .eq (.agg (epC exE)), .eq (.agg (rpC R)), .eq (.agg (leC L)), .eq (.bool false), .eq (.bool true), .eq (.bool true)]) (by kernel_rfl) (by kernel_rfl) (lt_cons ?_ (lt_cons ?_ (lt_cons ?_ (lt_cons ?_ (lt_cons ?_ (lt_cons ?_ (lt_cons ?_ (lt_cons ?_ (lt_cons ?_ (lt_cons ?_ (lt_cons ?_ (lt_cons ?_ (lt_cons ?_ (lt_cons ?_ (lt_cons ?_ (lt_cons ?_ (lt_cons ?_ (lt_cons ?_ (lt_cons ?_ (lt_cons ?_ (lt_cons ?_ (lt_cons ?_ (lt_cons ?_ (lt_cons ?_ (lt_cons ?_ (lt_cons ?_ (lt_cons ?_ (lt_cons ?_ (lt_cons ?_ (lt_cons ?_ (lt_cons ?_ (lt_cons ?_ (lt_cons ?_ (lt_cons ?_ (lt_cons ?_ (lt_cons ?_ (lt_cons ?_ (lt_cons ?_ (lt_cons ?_ (lt_cons ?_ (lt_cons ?_ (lt_cons ?_ (lt_cons ?_ (lt_cons ?_ (lt_cons ?_ (lt_cons ?_ (lt_cons ?_ (lt_cons ?_ (lt_cons ?_ (lt_cons ?_ (lt_cons ?_ (lt_cons ?_ (lt_cons ?_ (lt_none)))))))))))))))))))))))))))))))))))))))))))))))))))))) ?_
 any_goals (refine sop rfl fun xs W HW hsW HD Q' HQ => ?_; simp only [fillAt, dstOf, lc0, lcs, obs, Act.put, lsa, lsz, lss, nz, Nat.reduceAdd] at HQ ⊢)
 ·
  go_wp2
  exact HQ.out _ _ (eR _) rfl
 ·
  have hd0 : xs 0 = .pointer (some ⟨g6, 19, none⟩) := (HD.out 0 (dk (by kernel_rfl)))
  generalize xs 0 = x0 at hd0 HQ ⊢; subst hd0
  have hc : W.cell? ⟨g6, 19, none⟩ = some (.slice (some ⟨b6, o6, none⟩) 2 cg6) := (HW.out.cell (p := ⟨g6, 19, none⟩) (by show g6 < _; omega)).trans q6
  go_wp2
  exact HQ.out _ _ (eR _) rfl
 ·
  have hd1 : xs 1 = .slice (some ⟨b6, o6, none⟩) 2 cg6 := (HD.out 1 (dk (by kernel_rfl)))
  generalize xs 1 = x1 at hd1 HQ ⊢; subst hd1
  go_wp2
  exact HQ.out _ _ (eR _) rfl
 ·
  have hd2 : xs 2 = .pointer (some ⟨b6, o6 + 59, none⟩) := (HD.out 2 (dk (by kernel_rfl)))
  generalize xs 2 = x2 at hd2 HQ ⊢; subst hd2
  go_wp2
  exact HQ.out _ _ (eR _) rfl
 ·
  have hd3 : xs 3 = .pointer (some ⟨b6, o6 + 59 + 1, none⟩) := (HD.out 3 (dk (by kernel_rfl)))
  generalize xs 3 = x3 at hd3 HQ ⊢; subst hd3
  have hc : W.cell? ⟨b6, (o6+59+1), none⟩ = some (.int .i64 3) := (HW.out.cell (p := ⟨b6, (o6+59+1), none⟩) (by show b6 < _; omega)).trans c61
  go_wp2
  exact HQ.out _ _ (eR _) rfl
 ·
  have hd4 : xs 4 = .int .i64 3 := (HD.out 4 (dk (by kernel_rfl)))
  generalize xs 4 = x4 at hd4 HQ ⊢; subst hd4
  go_wp2
  exact HQ.out _ _ (eR _) rfl
 ·
  have hd5 : xs 5 = .bool true := (HD.out 5 (dk (by kernel_rfl)))
  generalize xs 5 = x5 at hd5 HQ ⊢; subst hd5
  go_wp2
  exact HQ.out _ _ (eR _) rfl
 ·
  have hd6 : xs 6 = .bool true := (HD.out 6 (dk (by kernel_rfl)))
  generalize xs 6 = x6 at hd6 HQ ⊢; subst hd6
  go_wp2
  exact HQ.out _ _ (eR _) rfl
 ·
  have hd6 : xs 6 = .bool true := (HD.out 6 (dk (by kernel_rfl)))
  generalize xs 6 = x6 at hd6 HQ ⊢; subst hd6
  have hd7 : xs 7 = .pointer (some ⟨g8, 19, none⟩) := (HD.out 7 (dk (by kernel_rfl)))
  generalize xs 7 = x7 at hd7 HQ ⊢; subst hd7
  have hc : W.cell? ⟨g8, 19, none⟩ = some (.slice (some ⟨b8, o8, none⟩) 2 cg8) := (HW.out.cell (p := ⟨g8, 19, none⟩) (by show g8 < _; omega)).trans q8
  go_wp2
  exact HQ.out _ _ (eR _) rfl
 ·
  have hd6 : xs 6 = .bool true := (HD.out 6 (dk (by kernel_rfl)))
  generalize xs 6 = x6 at hd6 HQ ⊢; subst hd6
  have hd8 : xs 8 = .slice (some ⟨b8, o8, none⟩) 2 cg8 := (HD.out 8 (dk (by kernel_rfl)))
  generalize xs 8 = x8 at hd8 HQ ⊢; subst hd8
  go_wp2
  exact HQ.out _ _ (eR _) rfl
 ·
  have hd6 : xs 6 = .bool true := (HD.out 6 (dk (by kernel_rfl)))
  generalize xs 6 = x6 at hd6 HQ ⊢; subst hd6
  have hd9 : xs 9 = .pointer (some ⟨b8, o8, none⟩) := (HD.out 9 (dk (by kernel_rfl)))
  generalize xs 9 = x9 at hd9 HQ ⊢; subst hd9
  go_wp2
  exact HQ.out _ _ (eR _) rfl
 ·
  have hd6 : xs 6 = .bool true := (HD.out 6 (dk (by kernel_rfl)))
  generalize xs 6 = x6 at hd6 HQ ⊢; subst hd6
  have hd10 : xs 10 = .pointer (some ⟨b8, o8 + 1, none⟩) := (HD.out 10 (dk (by kernel_rfl)))
  generalize xs 10 = x10 at hd10 HQ ⊢; subst hd10
  have hc : W.cell? ⟨b8, (o8+1), none⟩ = some (.int .i64 1) := (HW.out.cell (p := ⟨b8, (o8+1), none⟩) (by show b8 < _; omega)).trans c80
  go_wp2
  exact HQ.out _ _ (eR _) rfl
 ·
  have hd6 : xs 6 = .bool true := (HD.out 6 (dk (by kernel_rfl)))
  generalize xs 6 = x6 at hd6 HQ ⊢; subst hd6
  have hd11 : xs 11 = .int .i64 1 := (HD.out 11 (dk (by kernel_rfl)))
  generalize xs 11 = x11 at hd11 HQ ⊢; subst hd11
  go_wp2
  exact HQ.out _ _ (eR _) rfl
 ·
  have hd6 : xs 6 = .bool true := (HD.out 6 (dk (by kernel_rfl)))
  generalize xs 6 = x6 at hd6 HQ ⊢; subst hd6
  have hd12 : xs 12 = .bool true := (HD.out 12 (dk (by kernel_rfl)))
  generalize xs 12 = x12 at hd12 HQ ⊢; subst hd12
  go_wp2
  exact HQ.out _ _ (eR _) rfl
 ·
  have hd13 : xs 13 = .bool true := (HD.out 13 (dk (by kernel_rfl)))
  generalize xs 13 = x13 at hd13 HQ ⊢; subst hd13
  go_wp2
  exact HQ.out _ _ (eR _) rfl
 ·
  have hd14 : xs 14 = .bool true := (HD.out 14 (dk (by kernel_rfl)))
  generalize xs 14 = x14 at hd14 HQ ⊢; subst hd14
  go_wp2
  exact HQ.out _ _ (eR _) rfl
 ·
  have hd14 : xs 14 = .bool true := (HD.out 14 (dk (by kernel_rfl)))
  generalize xs 14 = x14 at hd14 HQ ⊢; subst hd14
  have hd15 : xs 15 = .pointer (some ⟨g8, 19, none⟩) := (HD.out 15 (dk (by kernel_rfl)))
  generalize xs 15 = x15 at hd15 HQ ⊢; subst hd15
  have hc : W.cell? ⟨g8, 19, none⟩ = some (.slice (some ⟨b8, o8, none⟩) 2 cg8) := (HW.out.cell (p := ⟨g8, 19, none⟩) (by show g8 < _; omega)).trans q8
  go_wp2
  exact HQ.out _ _ (eR _) rfl
 ·
  have hd14 : xs 14 = .bool true := (HD.out 14 (dk (by kernel_rfl)))
  generalize xs 14 = x14 at hd14 HQ ⊢; subst hd14
  have hd16 : xs 16 = .slice (some ⟨b8, o8, none⟩) 2 cg8 := (HD.out 16 (dk (by kernel_rfl)))
  generalize xs 16 = x16 at hd16 HQ ⊢; subst hd16
  go_wp2
  exact HQ.out _ _ (eR _) rfl
 ·
  have hd14 : xs 14 = .bool true := (HD.out 14 (dk (by kernel_rfl)))
  generalize xs 14 = x14 at hd14 HQ ⊢; subst hd14
  have hd17 : xs 17 = .pointer (some ⟨b8, o8 + 59, none⟩) := (HD.out 17 (dk (by kernel_rfl)))
  generalize xs 17 = x17 at hd17 HQ ⊢; subst hd17
  go_wp2
  exact HQ.out _ _ (eR _) rfl
 ·
  have hd14 : xs 14 = .bool true := (HD.out 14 (dk (by kernel_rfl)))
  generalize xs 14 = x14 at hd14 HQ ⊢; subst hd14
  have hd18 : xs 18 = .pointer (some ⟨b8, o8 + 59 + 1, none⟩) := (HD.out 18 (dk (by kernel_rfl)))
  generalize xs 18 = x18 at hd18 HQ ⊢; subst hd18
  have hc : W.cell? ⟨b8, (o8+59+1), none⟩ = some (.int .i64 2) := (HW.out.cell (p := ⟨b8, (o8+59+1), none⟩) (by show b8 < _; omega)).trans c81
  go_wp2
  exact HQ.out _ _ (eR _) rfl
 ·
  have hd14 : xs 14 = .bool true := (HD.out 14 (dk (by kernel_rfl)))
  generalize xs 14 = x14 at hd14 HQ ⊢; subst hd14
  have hd19 : xs 19 = .int .i64 2 := (HD.out 19 (dk (by kernel_rfl)))
  generalize xs 19 = x19 at hd19 HQ ⊢; subst hd19
  go_wp2
  exact HQ.out _ _ (eR _) rfl
 ·
  have hd14 : xs 14 = .bool true := (HD.out 14 (dk (by kernel_rfl)))
  generalize xs 14 = x14 at hd14 HQ ⊢; subst hd14
  have hd20 : xs 20 = .bool true := (HD.out 20 (dk (by kernel_rfl)))
  generalize xs 20 = x20 at hd20 HQ ⊢; subst hd20
  go_wp2
  exact HQ.out _ _ (eR _) rfl
 ·
  have hd21 : xs 21 = .bool true := (HD.out 21 (dk (by kernel_rfl)))
  generalize xs 21 = x21 at hd21 HQ ⊢; subst hd21
  go_wp2
  exact HQ.out _ _ (eR _) rfl
 ·
  have hd22 : xs 22 = .bool true := (HD.out 22 (dk (by kernel_rfl)))
  generalize xs 22 = x22 at hd22 HQ ⊢; subst hd22
  go_wp2
  exact HQ.out _ _ (eR _) rfl
 ·
  have hd22 : xs 22 = .bool true := (HD.out 22 (dk (by kernel_rfl)))
  generalize xs 22 = x22 at hd22 HQ ⊢; subst hd22
  have hd23 : xs 23 = .int .i64 (-1) := (HD.out 23 (dk (by kernel_rfl)))
  generalize xs 23 = x23 at hd23 HQ ⊢; subst hd23
  go_wp2
  exact HQ.out _ _ (eR _) rfl
 ·
  have hd22 : xs 22 = .bool true := (HD.out 22 (dk (by kernel_rfl)))
  generalize xs 22 = x22 at hd22 HQ ⊢; subst hd22
  have hd24 : xs 24 = .bool true := (HD.out 24 (dk (by kernel_rfl)))
  generalize xs 24 = x24 at hd24 HQ ⊢; subst hd24
  go_wp2
  exact HQ.out _ _ (eR _) rfl
 ·
  have hd25 : xs 25 = .bool true := (HD.out 25 (dk (by kernel_rfl)))
  generalize xs 25 = x25 at hd25 HQ ⊢; subst hd25
  go_wp2
  exact HQ.out _ _ (eR _) rfl
 ·
  have hd26 : xs 26 = .bool true := (HD.out 26 (dk (by kernel_rfl)))
  generalize xs 26 = x26 at hd26 HQ ⊢; subst hd26
  go_wp2
  exact HQ.out _ _ (eR _) rfl
 ·
  have hd26 : xs 26 = .bool true := (HD.out 26 (dk (by kernel_rfl)))
  generalize xs 26 = x26 at hd26 HQ ⊢; subst hd26
  have hd27 : xs 27 = .int .i64 (0) := (HD.out 27 (dk (by kernel_rfl)))
  generalize xs 27 = x27 at hd27 HQ ⊢; subst hd27
  go_wp2
  exact HQ.out _ _ (eR _) rfl
 ·
  have hd26 : xs 26 = .bool true := (HD.out 26 (dk (by kernel_rfl)))
  generalize xs 26 = x26 at hd26 HQ ⊢; subst hd26
  have hd28 : xs 28 = .bool true := (HD.out 28 (dk (by kernel_rfl)))
  generalize xs 28 = x28 at hd28 HQ ⊢; subst hd28
  go_wp2
  exact HQ.out _ _ (eR _) rfl
 ·
  have hd29 : xs 29 = .bool true := (HD.out 29 (dk (by kernel_rfl)))
  generalize xs 29 = x29 at hd29 HQ ⊢; subst hd29
  go_wp2
  exact HQ.out _ _ (eR _) rfl
 ·
  have hd30 : xs 30 = .bool true := (HD.out 30 (dk (by kernel_rfl)))
  generalize xs 30 = x30 at hd30 HQ ⊢; subst hd30
  go_wp2
  exact HQ.out _ _ (eR _) rfl
 ·
  have hd30 : xs 30 = .bool true := (HD.out 30 (dk (by kernel_rfl)))
  generalize xs 30 = x30 at hd30 HQ ⊢; subst hd30
  have hd31 : xs 31 = .int .i64 (-1) := (HD.out 31 (dk (by kernel_rfl)))
  generalize xs 31 = x31 at hd31 HQ ⊢; subst hd31
  go_wp2
  exact HQ.out _ _ (eR _) rfl
 ·
  have hd30 : xs 30 = .bool true := (HD.out 30 (dk (by kernel_rfl)))
  generalize xs 30 = x30 at hd30 HQ ⊢; subst hd30
  have hd32 : xs 32 = .bool true := (HD.out 32 (dk (by kernel_rfl)))
  generalize xs 32 = x32 at hd32 HQ ⊢; subst hd32
  go_wp2
  exact HQ.out _ _ (eR _) rfl
 ·
  have hd33 : xs 33 = .bool true := (HD.out 33 (dk (by kernel_rfl)))
  generalize xs 33 = x33 at hd33 HQ ⊢; subst hd33
  go_wp2
  exact HQ.out _ _ (eR _) rfl
 ·
  have hd34 : xs 34 = .bool true := (HD.out 34 (dk (by kernel_rfl)))
  generalize xs 34 = x34 at hd34 HQ ⊢; subst hd34
  go_wp2
  exact HQ.out _ _ (eR _) rfl
 ·
  have hd34 : xs 34 = .bool true := (HD.out 34 (dk (by kernel_rfl)))
  generalize xs 34 = x34 at hd34 HQ ⊢; subst hd34
  have hd35 : xs 35 = .int .i64 (8) := (HD.out 35 (dk (by kernel_rfl)))
  generalize xs 35 = x35 at hd35 HQ ⊢; subst hd35
  go_wp2
  exact HQ.out _ _ (eR _) rfl
 ·
  have hd34 : xs 34 = .bool true := (HD.out 34 (dk (by kernel_rfl)))
  generalize xs 34 = x34 at hd34 HQ ⊢; subst hd34
  have hd36 : xs 36 = .bool true := (HD.out 36 (dk (by kernel_rfl)))
  generalize xs 36 = x36 at hd36 HQ ⊢; subst hd36
  go_wp2
  exact HQ.out _ _ (eR _) rfl
 ·
  have hd37 : xs 37 = .bool true := (HD.out 37 (dk (by kernel_rfl)))
  generalize xs 37 = x37 at hd37 HQ ⊢; subst hd37
  go_wp2
  exact HQ.out _ _ (eR _) rfl
 ·
  have hd38 : xs 38 = .bool true := (HD.out 38 (dk (by kernel_rfl)))
  generalize xs 38 = x38 at hd38 HQ ⊢; subst hd38
  go_wp2_with (go_at_call 29; refine (lkeys_is _).mono ?_; rintro e w1 ⟨⟨A, c, rfl, h1⟩, hx⟩)
  exact HQ.out _ _ hx ⟨A, c, rfl, h1⟩
 ·
  have hd38 : xs 38 = .bool true := (HD.out 38 (dk (by kernel_rfl)))
  generalize xs 38 = x38 at hd38 HQ ⊢; subst hd38
  have hc := (row_extW HW.out (b := B) (by omega) 0 38).trans kE
  go_wp2
  exact HQ.out _ _ (eR _) rfl
 ·
  have hd38 : xs 38 = .bool true := (HD.out 38 (dk (by kernel_rfl)))
  generalize xs 38 = x38 at hd38 HQ ⊢; subst hd38
  have hc := (row_extW HW.out (b := g8) (by omega) 0 37).trans k8
  go_wp2
  exact HQ.out _ _ (eR _) rfl
 ·
  have hd38 : xs 38 = .bool true := (HD.out 38 (dk (by kernel_rfl)))
  generalize xs 38 = x38 at hd38 HQ ⊢; subst hd38
  have hc := (row_extW HW.out (b := g12) (by omega) 0 20).trans kM
  go_wp2
  exact HQ.out _ _ (eR _) rfl
 ·
  have hd38 : xs 38 = .bool true := (HD.out 38 (dk (by kernel_rfl)))
  generalize xs 38 = x38 at hd38 HQ ⊢; subst hd38
  have hs39 : (readKs theKeys).S (xs 39) W := (HD.out 39 (dk (by kernel_rfl)))
  have hd40 : xs 40 = .agg (epC exE) := (HD.out 40 (dk (by kernel_rfl)))
  generalize xs 40 = x40 at hd40 HQ ⊢; subst hd40
  have hd41 : xs 41 = .agg (rpC R) := (HD.out 41 (dk (by kernel_rfl)))
  generalize xs 41 = x41 at hd41 HQ ⊢; subst hd41
  have hd42 : xs 42 = .agg (leC M) := (HD.out 42 (dk (by kernel_rfl)))
  generalize xs 42 = x42 at hd42 HQ ⊢; subst hd42
  obtain ⟨A39, c39, h39, hr39⟩ := hs39
  generalize xs 39 = x39 at h39 HQ ⊢; subst h39
  go_wp2_with (go_at_call 30; refine (HRfM.out A39 c39 _ HW.out hr39).mono ?_; rintro e w1 ⟨rfl, hx⟩)
  exact HQ.out _ _ hx rfl
 ·
  have hd38 : xs 38 = .bool true := (HD.out 38 (dk (by kernel_rfl)))
  generalize xs 38 = x38 at hd38 HQ ⊢; subst hd38
  have hd43 : xs 43 = .bool true := (HD.out 43 (dk (by kernel_rfl)))
  generalize xs 43 = x43 at hd43 HQ ⊢; subst hd43
  go_wp2
  exact HQ.out _ _ (eR _) rfl
 ·
  have hd44 : xs 44 = .bool true := (HD.out 44 (dk (by kernel_rfl)))
  generalize xs 44 = x44 at hd44 HQ ⊢; subst hd44
  go_wp2
  exact HQ.out _ _ (eR _) rfl
 ·
  have hd45 : xs 45 = .bool true := (HD.out 45 (dk (by kernel_rfl)))
  generalize xs 45 = x45 at hd45 HQ ⊢; subst hd45
  go_wp2_with (go_at_call 29; refine (lkeys_is _).mono ?_; rintro e w1 ⟨⟨A, c, rfl, h1⟩, hx⟩)
  exact HQ.out _ _ hx ⟨A, c, rfl, h1⟩
 ·
  have hd45 : xs 45 = .bool true := (HD.out 45 (dk (by kernel_rfl)))
  generalize xs 45 = x45 at hd45 HQ ⊢; subst hd45
  have hc := (row_extW HW.out (b := B) (by omega) 0 38).trans kE
  go_wp2
  exact HQ.out _ _ (eR _) rfl
 ·
  have hd45 : xs 45 = .bool true := (HD.out 45 (dk (by kernel_rfl)))
  generalize xs 45 = x45 at hd45 HQ ⊢; subst hd45
  have hc := (row_extW HW.out (b := g8) (by omega) 0 37).trans k8
  go_wp2
  exact HQ.out _ _ (eR _) rfl
 ·
  have hd45 : xs 45 = .bool true := (HD.out 45 (dk (by kernel_rfl)))
  generalize xs 45 = x45 at hd45 HQ ⊢; subst hd45
  have hc := (row_extW HW.out (b := g5) (by omega) 0 20).trans kL
  go_wp2
  exact HQ.out _ _ (eR _) rfl
 ·
  have hd45 : xs 45 = .bool true := (HD.out 45 (dk (by kernel_rfl)))
  generalize xs 45 = x45 at hd45 HQ ⊢; subst hd45
  have hs46 : (readKs theKeys).S (xs 46) W := (HD.out 46 (dk (by kernel_rfl)))
  have hd47 : xs 47 = .agg (epC exE) := (HD.out 47 (dk (by kernel_rfl)))
  generalize xs 47 = x47 at hd47 HQ ⊢; subst hd47
  have hd48 : xs 48 = .agg (rpC R) := (HD.out 48 (dk (by kernel_rfl)))
  generalize xs 48 = x48 at hd48 HQ ⊢; subst hd48
  have hd49 : xs 49 = .agg (leC L) := (HD.out 49 (dk (by kernel_rfl)))
  generalize xs 49 = x49 at hd49 HQ ⊢; subst hd49
  obtain ⟨A46, c46, h46, hr46⟩ := hs46
  generalize xs 46 = x46 at h46 HQ ⊢; subst h46
  go_wp2_with (go_at_call 30; refine (HRfL.out A46 c46 _ HW.out hr46).mono ?_; rintro e w1 ⟨rfl, hx⟩)
  exact HQ.out _ _ hx rfl
 ·
  have hd45 : xs 45 = .bool true := (HD.out 45 (dk (by kernel_rfl)))
  generalize xs 45 = x45 at hd45 HQ ⊢; subst hd45
  have hd50 : xs 50 = .bool false := (HD.out 50 (dk (by kernel_rfl)))
  generalize xs 50 = x50 at hd50 HQ ⊢; subst hd50
  go_wp2
  exact HQ.out _ _ (eR _) rfl
 ·
  have hd45 : xs 45 = .bool true := (HD.out 45 (dk (by kernel_rfl)))
  generalize xs 45 = x45 at hd45 HQ ⊢; subst hd45
  have hd51 : xs 51 = .bool true := (HD.out 51 (dk (by kernel_rfl)))
  generalize xs 51 = x51 at hd51 HQ ⊢; subst hd51
  go_wp2
  exact HQ.out _ _ (eR _) rfl
 intro xs W15 hW hS
 have h52 : xs 52 = .bool true := hS 52 (by omega)
 simp only [fillAt, dstOf, lc0, lcs, obs, Act.put, lsa, lsz, lss, nz, Nat.reduceAdd, List.drop_succ_cons, List.drop_zero, List.drop_nil]
 generalize xs 52 = x52 at *; subst h52
 have HW15 := lh (HW14.out.trans hW)
 have HWW15 := lh hW
 clear hS hW kE k8 kM kL q6 q8 c61 c80 c81
 go_wp2
 go_ret
 exact ⟨rfl, (by (with_reducible repeat first|exact HW15.out|exact eR _|apply eD|apply eN|apply eA|apply eO|apply eS|apply eC);all_goals first|omega|simp <;> omega)⟩
theorem mkR_other (k : Ky) (g : Gs) (e : Ep) (cs : List Cf) (ls : List Le) (now : Clk) (LA LA2 : Option Addr) (lc lc2 : Nat) : mkR k g e cs ls now LA2 lc2 = { mkR k g e cs ls now LA lc with LA := LA2, lc := lc2 } := by
 unfold mkR
 split <;> rfl
theorem mkR_mem (k : Ky) (g : Gs) (e : Ep) (cs : List Cf) (ls : List Le) (now : Clk) (LA : Option Addr) (lc : Nat) : (mkR k g e cs ls now LA lc).LA = LA := by
 unfold mkR
 split <;> rfl
theorem mkR_len (k : Ky) (g : Gs) (e : Ep) (cs : List Cf) (ls : List Le) (now : Clk) (LA : Option Addr) (lc : Nat) : (mkR k g e cs ls now LA lc).lines.length ≤ g.l.length := by
 unfold mkR
 split
 ·show (mkLines g e cs ls now).length ≤ _
  simp [mkLines]
 ·exact Nat.zero_le _
theorem mkR_ok (k : Ky) (g : Gs) (e : Ep) (cs : List Cf) (ls : List Le) (now : Clk) (LA : Option Addr) (lc : Nat) (hc : ∀ c ∈ cs, CfOk c) (hl : ∀ l ∈ ls, LeOk l) : DgOk (mkR k g e cs ls now LA lc).name ∧ DgOk (mkR k g e cs ls now LA lc).sl ∧ ∀ x ∈ (mkR k g e cs ls now LA lc).lines, LnOk x := by
 unfold mkR
 split
 ·next h =>
  have h1 := rpOf_ok (LA := LA) (lc := lc) h hc hl
  exact ⟨h1.name, ⟨makeN_len _ _ _, makeN_byt _ _ _⟩, h1.lines⟩
 ·exact ⟨zeros_ok, zeros_ok, by intro x hx; simp [noRp] at hx⟩
theorem makes_ok (k : Ky) (g : Gs) (e : Ep) (CA LsA : Option Addr) (cc lsc : Nat) (cs : List Cf) (ls : List Le) (p : Clk) (w : World) (hks : k.secret.size < 9223372036854775808) (hgl : g.l.length ≤ 9223372036854775807) (hcl : cs.length ≤ 9223372036854775807) (hll : ls.length ≤ 9223372036854775807) (hga : Reads 3 grL w w.heap.size g.GA g.l)
  (hok : EpOk e) (ha : EpAt w e) (hco : ∀ c ∈ cs, CfOk c) (hlo : ∀ l ∈ ls, LeOk l) (hrc : Reads 37 cfL w w.heap.size CA cs) (hrl : Reads 20 leL w w.heap.size LsA ls) (hk : KonstP w) (hr : RKonst w) :
  Calls Tryz.prog 5 #[.agg (kyC k), .agg (gsC g), .agg (epC e), .slice CA cs.length cc, .slice LsA ls.length lsc, .agg (clkC p)] w fun r w' => r = .returned (.bool true) ∧ Ext w w' := by
 have HS := lh (fun (W : World) (hx : Ext w W) => lsanity_any W (RowAt.ext hk hx) (RowAt.ext hr hx))
 have HSm := lh (fun (W : World) (hx : Ext w W) => small_any e W (ha.on hx) hok.pul hok.rvl (fun p hp => (hok.pu p hp).2))
 have HB : Hid (shortEp e = true → EpShort e) := lh (fun h => shortEp_is h)
 have hfk := ky_fits k
 have hfg := gs_fits g
 have hfe := ep_fits e
 have HM := lh (fun (hs : EpShort e) (h1 : g.l.length ≤ 20) (h2 : cs.length ≤ 20) (h3 : ls.length ≤ 20) (W : World) (hx : Ext w W) => amake_any k g e CA LsA cc lsc cs ls p W hks (by omega) (hga.on hx) hok hs (ha.on hx) (by omega) (by omega) hco hlo (hrc.on hx) (hrl.on hx) (RowAt.ext hk hx))
 have HMr := lh (fun (hs : EpShort e) (h1 : g.l.length ≤ 20) (h2 : cs.length ≤ 20) (h3 : ls.length ≤ 20) (W : World) (hx : Ext w W) => rmakeRp_any k g e CA LsA cc lsc cs ls p W hks (by omega) (hga.on hx) hok hs (ha.on hx) (by omega) (by omega) hco hlo (hrc.on hx) (hrl.on hx) (RowAt.ext hr hx))
 have HOk := lh (fun LA lc => mkR_ok k g e cs ls p LA lc hco hlo)
 clear hga hok ha hco hlo hrc hrl hk hr
 generalize shortEp e = F at *
 cases F with
 | false =>
  clear HB HM HMr HOk
  go_enter Tryz.func5, Tryz.ntmps5
  go_wp2_with (first | (go_at_call 21; refine (HSm.out _ (by (with_reducible repeat first|exact eR _|apply eD|apply eN|apply eA|apply eO|apply eS|apply eC);all_goals first|omega|simp <;> omega)).mono ?_; rintro e w' ⟨rfl, hxl⟩; obtain ⟨xl, rfl⟩ := hxl.asLater; clear hxl) | (go_at_call 16; refine (HS.out _ (by (with_reducible repeat first|exact eR _|apply eD|apply eN|apply eA|apply eO|apply eS|apply eC);all_goals first|omega|simp <;> omega)).mono ?_; rintro e w' ⟨rfl, hxl⟩; obtain ⟨xl, rfl⟩ := hxl.asLater; clear hxl))
  go_ret
  exact ⟨rfl, (by (with_reducible repeat first|exact eR _|apply eD|apply eN|apply eA|apply eO|apply eS|apply eC);all_goals first|omega|simp <;> omega)⟩
 | true =>
  have hs := HB.out rfl
  by_cases h1 : (g.l.length : Int) ≤ 20
  ·by_cases h2 : (cs.length : Int) ≤ 20
   ·by_cases h3 : (ls.length : Int) ≤ 20
    ·by_cases h4 : (k.secret.size : Int) ≤ 100
     ·have d1 : decide ((20 : Int) < g.l.length) = false := by simp; omega
      have d2 : decide ((20 : Int) < cs.length) = false := by simp; omega
      have d3 : decide ((20 : Int) < ls.length) = false := by simp; omega
      have d4 : decide ((100 : Int) < k.secret.size) = false := by simp; omega
      have HM' := lh (HM.out hs (by omega) (by omega) (by omega))
      have HMr' := lh (HMr.out hs (by omega) (by omega) (by omega))
      have hgl20 : g.l.length ≤ 20 := by omega
      clear h1 h2 h3 h4 HM HMr HB hs
      obtain ⟨p0, p1⟩ := p
      go_enter Tryz.func5, Tryz.ntmps5
      go_upto_region 4 with (go_at_call 21; refine (HSm.out _ (by (with_reducible repeat first|exact eR _|apply eD|apply eN|apply eA|apply eO|apply eS|apply eC);all_goals first|omega|simp <;> omega)).mono ?_; rintro e w' ⟨rfl, hxl⟩; obtain ⟨xl, rfl⟩ := hxl.asLater; clear hxl)
      refine wp_world (fun W => Ext w W ∧ RowAt W w.heap.size (kyC k) ∧ RowAt W (w.heap.size + 1) (gsC g) ∧ RowAt W (w.heap.size + 1 + 1) (epC e) ∧ RowAt W (w.heap.size + 1 + 1 + 1) #[.int .i64 p0, .int .i64 p1]) ⟨(by (with_reducible repeat first|exact eR _|apply eD|apply eN|apply eA|apply eO|apply eS|apply eC);all_goals first|omega|simp <;> omega), ?_, ?_, ?_, ?_⟩ ?_
      ·exact ((((RowAt.new _ _ _).alloc _).alloc _).alloc _).later _
      ·exact (((RowAt.newAt (by simp)).alloc _).alloc _).later _
      ·exact ((RowAt.newAt (by simp)).alloc _).later _
      ·exact (RowAt.newAt (by simp)).later _
      obtain ⟨B, hB⟩ : ∃ B, w.heap.size = B := ⟨_, rfl⟩
      rw [hB]
      rintro W1 ⟨x1, uB, uG, uE, uP⟩
      have HX1 := lh x1
      have HUB := lh uB
      have HUG := lh uG
      have HUE := lh uE
      have HUP := lh uP
      have hlu := uP.lt
      have kB : rowOf W1 B 0 5 = some (kyC k) := uB.all rfl (by omega)
      have kG : rowOf W1 (B+1) 0 3 = some (gsC g) := uG.all rfl (by omega)
      have kE : rowOf W1 (B+1+1) 0 38 = some (epC e) := uE.all rfl (by omega)
      have qP_0 : W1.cell? ⟨B+1+1+1, 0, none⟩ = some (.int .i64 p0) := uP.cell 0
      have qP_1 : W1.cell? ⟨B+1+1+1, 1, none⟩ = some (.int .i64 p1) := uP.cell 1
      have hftR := fun LA lc => rp_fits (mkR k g e cs ls ⟨p0, p1⟩ LA lc)
      clear x1 uB uG uE uP HSm
      go_upto_region 5 with (go_at_call 22; refine (HM'.out _ HX1.out).mono ?_; rintro r w' ⟨⟨LA, lc, rfl, ho⟩, hxl⟩; have HO1 := lh ho; clear ho; obtain ⟨xk, rfl⟩ := hxl.asLater; clear hxl)
      refine wp_world (fun W => Ext W1 W ∧ RowAt W (W1.heap.size + xk.n) (rpC (mkR k g e cs ls ⟨p0, p1⟩ LA lc)) ∧ Reads 59 lnL W W.heap.size LA (mkR k g e cs ls ⟨p0, p1⟩ LA lc).lines) ⟨(by (with_reducible repeat first|exact eR _|apply eD|apply eN|apply eA|apply eO|apply eS|apply eC);all_goals first|omega|simp <;> omega), RowAt.store (RowAt.newAt (later_size _ _).symm) rfl, ?_⟩ ?_
      ·have h := HO1.out.reads lnE
       exact h.on (Ext.setCells (Ext.alloc (eR _) _) (Nat.le_of_eq (later_size _ _)) _ _)
      obtain ⟨g14, hg14⟩ : ∃ g, W1.heap.size + xk.n = g := ⟨_, rfl⟩
      rw [hg14]
      rintro W2 ⟨x2, u14, rd14⟩
      have HX2 := lh (HX1.out.trans x2)
      have HU14 := lh u14
      have HRD := lh rd14
      have hl14 := u14.lt
      have hs12 := x2.size
      have kB : rowOf W2 B 0 5 = some (kyC k) := (HUB.out.ext x2).all rfl (by omega)
      have kG : rowOf W2 (B+1) 0 3 = some (gsC g) := (HUG.out.ext x2).all rfl (by omega)
      have kE : rowOf W2 (B+1+1) 0 38 = some (epC e) := (HUE.out.ext x2).all rfl (by omega)
      have qP_0 : W2.cell? ⟨B+1+1+1, 0, none⟩ = some (.int .i64 p0) := (HUP.out.ext x2).cell 0
      have qP_1 : W2.cell? ⟨B+1+1+1, 1, none⟩ = some (.int .i64 p1) := (HUP.out.ext x2).cell 1
      have HOk' := lh (HOk.out LA lc)
      have HLn := lh (mkR_len k g e cs ls ⟨p0, p1⟩ LA lc)
      have HLA := lh (mkR_mem k g e cs ls ⟨p0, p1⟩ LA lc)
      have HOt := lh (fun LA2 lc2 => mkR_other k g e cs ls ⟨p0, p1⟩ LA LA2 lc lc2)
      have hftT := fun LA2 lc2 => told_fits (mkR k g e cs ls ⟨p0, p1⟩ LA2 lc2) (mkE k g e ⟨p0, p1⟩)
      clear x2 u14 rd14 hg14 HM' HO1 HOk
      go_upto_region 6 with (go_at_call 23; refine (HMr'.out _ HX2.out).mono ?_; rintro r w' ⟨⟨LA2, lc2, rfl, ho⟩, hxl⟩; have HO2 := lh ho; clear ho; obtain ⟨xk2, rfl⟩ := hxl.asLater; clear hxl)
      refine wp_world (fun W => Ext W2 W ∧ RowAt W (W2.heap.size + xk2.n) (toldC (mkR k g e cs ls ⟨p0, p1⟩ LA2 lc2) (mkE k g e ⟨p0, p1⟩)) ∧ Reads 59 lnL W W.heap.size LA2 (mkR k g e cs ls ⟨p0, p1⟩ LA2 lc2).lines) ⟨(by (with_reducible repeat first|exact eR _|apply eD|apply eN|apply eA|apply eO|apply eS|apply eC);all_goals first|omega|simp <;> omega), RowAt.store (RowAt.newAt (later_size _ _).symm) rfl, ?_⟩ ?_
      ·have h := HO2.out.reads lnE
       exact h.on (Ext.setCells (Ext.alloc (eR _) _) (Nat.le_of_eq (later_size _ _)) _ _)
      obtain ⟨g16, hg16⟩ : ∃ g, W2.heap.size + xk2.n = g := ⟨_, rfl⟩
      rw [hg16, HOt.out LA2 lc2]
      rintro W3 ⟨x3, u16, rd16⟩
      have HX3 := lh (HX2.out.trans x3)
      have HRD2 := lh rd16
      have HRD1 := lh (HRD.out.on x3)
      have u14 := HU14.out.ext x3
      have hl14b := u14.lt
      have hl16 := u16.lt
      clear HOt hftR hftT HMr' HO2 hg16 HRD kB kG kE qP_0 qP_1
      generalize mkR k g e cs ls ⟨p0, p1⟩ LA lc = R at *
      generalize mkE k g e ⟨p0, p1⟩ = E at *
      have k14 : rowOf W3 g14 0 37 = some (rpC R) := u14.all rfl (by omega)
      have k16 : rowOf W3 g16 0 37 = some (rpC { R with LA := LA2, lc := lc2 }) := (u16.row 0 37).trans (by rw [if_neg (by omega), told_rp])
      have q16 : W3.cell? ⟨g16, 37, none⟩ = some (.int .i64 E) := (u16.cell 37).trans (told_g37 _ E)
      have HSa := lh (fun (W : World) (hx : Ext W3 W) => rsame_true R LA2 lc2 W HOk'.out (by have := HLn.out; omega) (by rw [HLA.out]; exact HRD1.out.on hx) (HRD2.out.on hx))
      have HC1 := lh (fun (W : World) (hx : Ext W3 W) => aclosed_any R W (by have := HLn.out; omega) (by rw [HLA.out]; exact HRD1.out.on hx))
      have HC2 := lh (fun (W : World) (hx : Ext W3 W) => rclosed_any { R with LA := LA2, lc := lc2 } W (by have := HLn.out; show R.lines.length ≤ _; omega) (HRD2.out.on hx))
      rw [show closedB { R with LA := LA2, lc := lc2 } = closedB R from rfl] at HC2
      have hf1 := rp_fits R
      have hf2 := rp_fits { R with LA := LA2, lc := lc2 }
      generalize closedB R = V at *
      clear x3 u14 u16 rd16 HLA HLn HOk' HRD1 HRD2
      generalize ({ R with LA := LA2, lc := lc2 } : Rp) = R2 at *
      refine wp_region_later (by kernel_rfl) (by kernel_rfl) ?_
      repeat (first | go_big_quiet_step ((first | (go_at_call 16; exact quietE (HS.out _ (HX3.out.onto _))) | (go_at_call 24; exact quietE (HSa.out _ (ext_later _ _))) | (go_at_call 25; exact quietE (HC1.out _ (ext_later _ _))) | (go_at_call 26; exact quietE (HC2.out _ (ext_later _ _))))) | quiet_step ((first | (go_at_call 16; exact quietE (HS.out _ (HX3.out.onto _))) | (go_at_call 24; exact quietE (HSa.out _ (ext_later _ _))) | (go_at_call 25; exact quietE (HC1.out _ (ext_later _ _))) | (go_at_call 26; exact quietE (HC2.out _ (ext_later _ _))))))
      refine wpQuiet_nil ?_
      rintro _ ⟨xq, rfl⟩
      go_wp2
      go_ret
      exact ⟨ret_bool (by simp), (by (with_reducible repeat first|exact HX3.out|exact eR _|apply eD|apply eN|apply eA|apply eO|apply eS|apply eC);all_goals first|omega|simp <;> omega)⟩
     ·have d1 : decide ((20 : Int) < g.l.length) = false := by simp; omega
      have d2 : decide ((20 : Int) < cs.length) = false := by simp; omega
      have d3 : decide ((20 : Int) < ls.length) = false := by simp; omega
      have d4 : decide ((100 : Int) < k.secret.size) = true := by simp; omega
      clear h1 h2 h3 h4 HM HMr HB HOk
      go_enter Tryz.func5, Tryz.ntmps5
      go_wp2_with (first | (go_at_call 21; refine (HSm.out _ (by (with_reducible repeat first|exact eR _|apply eD|apply eN|apply eA|apply eO|apply eS|apply eC);all_goals first|omega|simp <;> omega)).mono ?_; rintro e w' ⟨rfl, hxl⟩; obtain ⟨xl, rfl⟩ := hxl.asLater; clear hxl) | (go_at_call 16; refine (HS.out _ (by (with_reducible repeat first|exact eR _|apply eD|apply eN|apply eA|apply eO|apply eS|apply eC);all_goals first|omega|simp <;> omega)).mono ?_; rintro e w' ⟨rfl, hxl⟩; obtain ⟨xl, rfl⟩ := hxl.asLater; clear hxl))
      go_ret
      exact ⟨rfl, (by (with_reducible repeat first|exact eR _|apply eD|apply eN|apply eA|apply eO|apply eS|apply eC);all_goals first|omega|simp <;> omega)⟩
    ·have d1 : decide ((20 : Int) < g.l.length) = false := by simp; omega
     have d2 : decide ((20 : Int) < cs.length) = false := by simp; omega
     have d3 : decide ((20 : Int) < ls.length) = true := by simp; omega
     clear h1 h2 h3 HM HMr HB HOk
     go_enter Tryz.func5, Tryz.ntmps5
     go_wp2_with (first | (go_at_call 21; refine (HSm.out _ (by (with_reducible repeat first|exact eR _|apply eD|apply eN|apply eA|apply eO|apply eS|apply eC);all_goals first|omega|simp <;> omega)).mono ?_; rintro e w' ⟨rfl, hxl⟩; obtain ⟨xl, rfl⟩ := hxl.asLater; clear hxl) | (go_at_call 16; refine (HS.out _ (by (with_reducible repeat first|exact eR _|apply eD|apply eN|apply eA|apply eO|apply eS|apply eC);all_goals first|omega|simp <;> omega)).mono ?_; rintro e w' ⟨rfl, hxl⟩; obtain ⟨xl, rfl⟩ := hxl.asLater; clear hxl))
     go_ret
     exact ⟨rfl, (by (with_reducible repeat first|exact eR _|apply eD|apply eN|apply eA|apply eO|apply eS|apply eC);all_goals first|omega|simp <;> omega)⟩
   ·have d1 : decide ((20 : Int) < g.l.length) = false := by simp; omega
    have d2 : decide ((20 : Int) < cs.length) = true := by simp; omega
    clear h1 h2 HM HMr HB HOk
    go_enter Tryz.func5, Tryz.ntmps5
    go_wp2_with (first | (go_at_call 21; refine (HSm.out _ (by (with_reducible repeat first|exact eR _|apply eD|apply eN|apply eA|apply eO|apply eS|apply eC);all_goals first|omega|simp <;> omega)).mono ?_; rintro e w' ⟨rfl, hxl⟩; obtain ⟨xl, rfl⟩ := hxl.asLater; clear hxl) | (go_at_call 16; refine (HS.out _ (by (with_reducible repeat first|exact eR _|apply eD|apply eN|apply eA|apply eO|apply eS|apply eC);all_goals first|omega|simp <;> omega)).mono ?_; rintro e w' ⟨rfl, hxl⟩; obtain ⟨xl, rfl⟩ := hxl.asLater; clear hxl))
    go_ret
    exact ⟨rfl, (by (with_reducible repeat first|exact eR _|apply eD|apply eN|apply eA|apply eO|apply eS|apply eC);all_goals first|omega|simp <;> omega)⟩
  ·have d1 : decide ((20 : Int) < g.l.length) = true := by simp; omega
   clear h1 HM HMr HB HOk
   go_enter Tryz.func5, Tryz.ntmps5
   go_wp2_with (first | (go_at_call 21; refine (HSm.out _ (by (with_reducible repeat first|exact eR _|apply eD|apply eN|apply eA|apply eO|apply eS|apply eC);all_goals first|omega|simp <;> omega)).mono ?_; rintro e w' ⟨rfl, hxl⟩; obtain ⟨xl, rfl⟩ := hxl.asLater; clear hxl) | (go_at_call 16; refine (HS.out _ (by (with_reducible repeat first|exact eR _|apply eD|apply eN|apply eA|apply eO|apply eS|apply eC);all_goals first|omega|simp <;> omega)).mono ?_; rintro e w' ⟨rfl, hxl⟩; obtain ⟨xl, rfl⟩ := hxl.asLater; clear hxl))
   go_ret
   exact ⟨rfl, (by (with_reducible repeat first|exact eR _|apply eD|apply eN|apply eA|apply eO|apply eS|apply eC);all_goals first|omega|simp <;> omega)⟩
end Go.Proofs.YtpfhmcdcmepfdaaGreatDoor

namespace Go.Proofs.YtpfhmcdcmepfdaaGreatDoor
open Go.ChangeShapes Go.WideShapes Go.ChangeAt Go.ChangeMaps Go.RowKit
open Go.Proofs
theorem laidMk {W : World} (h : laidMetH Tryz.prog Rows.accountMakesAsSpecifiedRow.laid W) : Konst 1 W ∧ RKonst W := by
 rw [MakeChecks.laidMetH_plain _ _ _ (by kernel_rfl)] at h
 obtain ⟨ps, ⟨ga, ta, csa, fa, pa, qa, hga, hta, hva, hda, ⟨g0, t0, cs0, f0, p0, q0, hg0, ht0, hv0, hd0, ⟨g1, t1, cs1, f1, p1, q1, hg1, ht1, hv1, hd1, _, rfl⟩, rfl⟩, rfl⟩, _, hf⟩ := h
 obtain rfl := Option.some.inj ((show Tryz.prog.globalNamed "weirgate/weirgateref02.constants" = some 0 by kernel_rfl).symm.trans hg0)
 obtain rfl := Option.some.inj ((show Tryz.prog.globalNamed "weirgate/hash.constants" = some 1 by kernel_rfl).symm.trans hg1)
 obtain rfl := Option.some.inj ((show (Tryz.prog.globals[(0 : Nat)]?).map (·.type) = some 264 by kernel_rfl).symm.trans ht0)
 obtain rfl := Option.some.inj ((show (Tryz.prog.globals[(1 : Nat)]?).map (·.type) = some 264 by kernel_rfl).symm.trans ht1)
 rw [laidRK] at hd0
 rw [laidK] at hd1
 exact ⟨table_at hg1 hv1 hd1 (fun x hx => by simp [hx]) hf, table_at hg0 hv0 hd0 (fun x hx => by simp [hx]) hf⟩
theorem accountMakesAsSpecified_lifted (os : Os) (started : os.Started) (H : Type) (enc : TypeId × Value → H) :
  ReturnsInHanded {} Tryz.checked os 5 .any (fun w args => (Rows.accountMakesAsSpecifiedSpec.pre enc Tryz.prog Tryz.f5 Rows.accountMakesAsSpecifiedRow.domain false w args ∧ laidMetH Tryz.prog Rows.accountMakesAsSpecifiedRow.laid w) ∧ sizedMet enc Tryz.prog Tryz.f5 (OpenSpec.ofChange Rows.accountMakesAsSpecifiedSpec) false w args)
   (Rows.accountMakesAsSpecifiedSpec.post enc Tryz.prog Tryz.f5 false true false false) := by
 refine returnsInHanded_of_change_and (C := Tryz.checked) (X := fun w _ => laidMetH Tryz.prog Rows.accountMakesAsSpecifiedRow.laid w) (fun _ _ _ hh h => h.of_heap hh) Tryz.own started (by kernel_rfl) Tryz.func5
  (ChangeSpec.witness_shaped (enc := enc) (C := Tryz.checked) (os := os) (X := fun w _ => laidMetH Tryz.prog Rows.accountMakesAsSpecifiedRow.laid w) false (World.laidAll Tryz.prog os Rows.accountMakesAsSpecifiedRow.laid) #[.agg (kyC noKy), .agg (gsC noGs), .agg (epC noEp), .slice none 0 0, .slice none 0 0, .agg (clkC ⟨0, 0⟩)] 8 (World.laidAll_os _ _ _)
   (World.shaped_of_ZipB (by kernel_rfl) (by kernel_rfl)) (by kernel_rfl) (by kernel_rfl) (by kernel_rfl)
   (by rw [MakeChecks.laidMetH_plain _ _ _ (by kernel_rfl)]; exact laidMet_laidAll _ (by kernel_rfl) (by kernel_rfl))) ?_
 intro W base args ds gs before hval0 hW hcnd hSz hL _
 have hval : ∀ (j : Nat) t v, Tryz.f5.params[j]? = some t → args[j]? = some v → Value.okWide Tryz.prog W .any base t v := hval0
 have hW' := hW
 obtain ⟨p, q, hA0, hV, rfl, hfz, hnd⟩ := hW
 have hA : DataW.TrodAll enc Tryz.prog W 0 (fun _ => true) true Tryz.f5.params.toList args.toList ds p := hA0
 rw [Tryz.params5] at hA hval
 obtain ⟨rfl, rfl⟩ := trodVars_none hV
 clear hA0 hval0 hcnd
 obtain ⟨v0, vs0, d0, ds0, p0, q0, ea0, rfl, rfl, h0, hA⟩ := trodAll_cons hA
 obtain ⟨v1, vs1, d1, ds1, p1, q1, rfl, rfl, rfl, h1, hA⟩ := trodAll_cons hA
 obtain ⟨v2, vs2, d2, ds2, p2, q2, rfl, rfl, rfl, h2, hA⟩ := trodAll_cons hA
 obtain ⟨v3, vs3, d3, ds3, p3, q3, rfl, rfl, rfl, h3, hA⟩ := trodAll_cons hA
 obtain ⟨v4, vs4, d4, ds4, p4, q4, rfl, rfl, rfl, h4, hA⟩ := trodAll_cons hA
 obtain ⟨v5, vs5, d5, ds5, p5, q5, rfl, rfl, rfl, h5, hA⟩ := trodAll_cons hA
 obtain ⟨rfl, rfl, rfl⟩ := trodAll_nil hA
 obtain rfl : args = #[v0, v1, v2, v3, v4, v5] := by cases args; simp_all
 obtain ⟨hk, hrk⟩ := laidMk hL
 obtain ⟨k, rfl, hks⟩ := open_key (hval 0 23 v0 rfl rfl) h0
 obtain ⟨g, rfl, _, _, hg1, hg2, hg3, _, _⟩ := open_gs (hval 1 62 v1 rfl rfl) h1
 obtain ⟨e, rfl, he⟩ := open_ep (hval 2 49 v2 rfl rfl) h2
 obtain ⟨CA, cc, cs, rfl, hc1, hc2, hc3, hc4⟩ := open_confirms (hval 3 63 v3 rfl rfl) h3
 obtain ⟨LsA, lsc, ls, rfl, hl1, hl2, hl3, hl4⟩ := open_leases (hval 4 64 v4 rfl rfl) h4
 obtain ⟨n0, n1, rfl, _, _⟩ := open_period (hval 5 29 v5 rfl rfl) h5
 obtain ⟨hok, ha⟩ := ep_ok he
 have main := makes_ok k g e CA LsA cc lsc cs ls ⟨n0, n1⟩ W (by unfold maxLen at hks; omega) (by unfold maxLen at hg2; omega) (by unfold maxLen at hc2; omega) (by unfold maxLen at hl2; omega) hg3 hok ha (fun c h => cf_ok (hc4 c h)) (fun l h => le_ok (hl4 l h)) hc3 hl3 hk hrk
 refine main.mono fun e' W' ⟨he, hx⟩ => ?_
 subst he
 exact ⟨_, rfl, law_post Tryz.laidOut (by kernel_rfl) rfl hW' hx 4 (by kernel_rfl) Tryz.underlying4 rfl rfl rfl⟩
end Go.Proofs.YtpfhmcdcmepfdaaGreatDoor