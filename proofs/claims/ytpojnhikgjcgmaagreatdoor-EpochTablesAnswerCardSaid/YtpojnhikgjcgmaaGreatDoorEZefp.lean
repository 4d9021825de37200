/- weirgatelaw31.EpochFoldsAsSpecified, the lifted law: it returns true for every key, chain, stamp and digest, and leaves its arguments as they were; the listed tables hold what the program's text lays (the card ties them). No other condition. -/
import Derived.WalkKit
import Derived.WalkSpells
import Derived.WalkLawsBesides
import Derived.Deep.QuietTactic
import Derived.BigQuiet
import Derived.Test.YtpojnhikgjcgmaaGreatDoorEYn
import Derived.Test.YtpojnhikgjcgmaaGreatDoorTie
import Derived.Test.YtpojnhikgjcgmaaGreatDoorCards
import Derived.ProofKit
import Derived.Lay
import Derived.ChangeMaps5
import Derived.SevenTiedAt
import Derived.Stop.Joined
set_option maxRecDepth 100000
set_option maxHeartbeats 64000000
set_option linter.unusedVariables false
set_option linter.unusedSimpArgs false
namespace Go.Proofs.YtpojnhikgjcgmaaGreatDoor
open Go.RowKit Go.Shelf Go.Maps
open Go.Proofs
theorem okKy_is {k : Ky} (h : okKy k = true) : k.secret.size ≤ 64 ∧ i64 k.serial ∧ i64 k.party := by
 unfold okKy at h
 simp only [Bool.and_eq_true, decide_eq_true_eq] at h
 obtain ⟨⟨⟨⟨⟨⟨h1, h2⟩, h3⟩, h4⟩, h5⟩, h6⟩, h7⟩ := h
 refine ⟨by omega, ?_, ?_⟩ <;> unfold i64 <;> omega
theorem shortSt_is {s : St} (h : shortSt s = true) : s.addr.size ≤ 200 ∧ s.var.size ≤ 200 ∧ s.tags.size ≤ 200 := by
 unfold shortSt at h
 simp only [List.all_cons, List.all_nil, Bool.and_true, Bool.and_eq_true, short200, decide_eq_true_eq] at h
 exact ⟨h.1, h.2.1, h.2.2⟩
theorem table_made {k : Ky} {ss : List Ep} {a : Ad.Bs} (ha : Ad.canonB a = true) (lo : Int) (t : Ad.Bs) : tableB (madeN k ss) lo a t = stateB (madeN k ss) lo a t := table_state (issued_ok (made_issued k ss)) ha lo t
theorem table_nil {a : Ad.Bs} (ha : Ad.canonB a = true) (lo : Int) (t : Ad.Bs) : tableB [] lo a t = 0 := (table_state (fun e he => by cases he) ha lo t).trans rfl
section
attribute [local go_sem] tab_size tab_fits
theorem folds_ok (k : Ky) (A : Option Addr) (c : Nat) (l : List Ep) (s : St) (d : List Int) (w : World) (hks : k.secret.size < 9223372036854775808) (hl : l.length ≤ 9223372036854775807) (hc : EpsIn w A l) (h1 : s.addr.size ≤ 9223372036854775807) (h2 : s.var.size ≤ 9223372036854775807) (h3 : s.tags.size ≤ 9223372036854775807) (hd : DgOk d) (hk : KonstP w) (hr : RKonst w) :
  Calls Tryz.prog 5 #[.agg (kyC k), .slice A l.length c, .agg (stmC s), .agg (dgC d)] w fun r w' => r = .returned (.bool true) ∧ Ext w w' := by
 have HS := lh (fun (W : World) (hx : Ext w W) => esanity_any W (RowAt.ext hk hx))
 have HV := lh (fun (W : World) => rkvalid_any k W hks)
 have HF := lh (fun (W : World) (hx : Ext w W) => rfew31_any A c l 8 W hl (hc.on hx))
 have HT := lh (fun (W : World) => rshortSt_any s W h1 h2 h3)
 have hfk := ky_fits k
 have hfs := stm_fits s
 have hfd : fitsRow 16 (dgC d) = true := dg_fits d
 cases hV : okKy k with
 | false =>
  rw [hV] at HV
  clear h1 h2 h3 hks hl hc hd hk hr hV HF HT
  go_enter Tryz.func5, Tryz.ntmps5
  go_wp2_with (first | (go_at_call 22; refine (HV.out _).mono ?_; rintro e w' ⟨rfl, hxl⟩; obtain ⟨xl, rfl⟩ := hxl.asLater; clear hxl) | (go_at_call 12; refine (HS.out _ (by (with_reducible repeat first|exact eR _|apply eD|apply eN|apply eA|apply eO|apply eS|apply eC);all_goals first|omega|simp <;> omega)).mono ?_; rintro e w' ⟨rfl, hxl⟩; obtain ⟨xl, rfl⟩ := hxl.asLater; clear hxl))
  go_ret
  exact ⟨rfl, (by (with_reducible repeat first|exact eR _|apply eD|apply eN|apply eA|apply eO|apply eS|apply eC);all_goals first|omega|simp <;> omega)⟩
 | true =>
 rw [hV] at HV
 obtain ⟨hk64, hki, _⟩ := okKy_is hV
 cases hF : fewEp l 8 with
 | false =>
  rw [hF] at HF
  clear h1 h2 h3 hks hl hc hd hk hr hV hF HT
  go_enter Tryz.func5, Tryz.ntmps5
  go_wp2_with (first | (go_at_call 22; refine (HV.out _).mono ?_; rintro e w' ⟨rfl, hxl⟩; obtain ⟨xl, rfl⟩ := hxl.asLater; clear hxl) | (go_at_call 23; refine (HF.out _ (by (with_reducible repeat first|exact eR _|apply eD|apply eN|apply eA|apply eO|apply eS|apply eC);all_goals first|omega|simp <;> omega)).mono ?_; rintro e w' ⟨rfl, hxl⟩; obtain ⟨xl, rfl⟩ := hxl.asLater; clear hxl) | (go_at_call 12; refine (HS.out _ (by (with_reducible repeat first|exact eR _|apply eD|apply eN|apply eA|apply eO|apply eS|apply eC);all_goals first|omega|simp <;> omega)).mono ?_; rintro e w' ⟨rfl, hxl⟩; obtain ⟨xl, rfl⟩ := hxl.asLater; clear hxl))
  go_ret
  exact ⟨rfl, (by (with_reducible repeat first|exact eR _|apply eD|apply eN|apply eA|apply eO|apply eS|apply eC);all_goals first|omega|simp <;> omega)⟩
 | true =>
 rw [hF] at HF
 obtain ⟨hl8, hsh⟩ := fewEp_is hF
 cases hT : shortSt s with
 | false =>
  rw [hT] at HT
  clear h1 h2 h3 hks hl hc hd hk hr hV hF hT hsh
  go_enter Tryz.func5, Tryz.ntmps5
  go_wp2_with (first | (go_at_call 22; refine (HV.out _).mono ?_; rintro e w' ⟨rfl, hxl⟩; obtain ⟨xl, rfl⟩ := hxl.asLater; clear hxl) | (go_at_call 23; refine (HF.out _ (by (with_reducible repeat first|exact eR _|apply eD|apply eN|apply eA|apply eO|apply eS|apply eC);all_goals first|omega|simp <;> omega)).mono ?_; rintro e w' ⟨rfl, hxl⟩; obtain ⟨xl, rfl⟩ := hxl.asLater; clear hxl) | (go_at_call 11; refine (HT.out _).mono ?_; rintro e w' ⟨rfl, hxl⟩; obtain ⟨xl, rfl⟩ := hxl.asLater; clear hxl) | (go_at_call 12; refine (HS.out _ (by (with_reducible repeat first|exact eR _|apply eD|apply eN|apply eA|apply eO|apply eS|apply eC);all_goals first|omega|simp <;> omega)).mono ?_; rintro e w' ⟨rfl, hxl⟩; obtain ⟨xl, rfl⟩ := hxl.asLater; clear hxl))
  go_ret
  exact ⟨rfl, (by (with_reducible repeat first|exact eR _|apply eD|apply eN|apply eA|apply eO|apply eS|apply eC);all_goals first|omega|simp <;> omega)⟩
 | true =>
 rw [hT] at HT
 obtain ⟨ha1, _, ht1⟩ := shortSt_is hT
 have HC := lh (fun (W : World) => r31canon_any s.addr W (by omega))
 have hq0 : (stmC s)[0]? = some (.string s.addr) := stm_g0 s
 cases hC : Ad.canonB (bsT s.addr) with
 | false =>
  rw [hC] at HC
  clear h1 h2 h3 hks hl hc hd hk hr hV hF hT hsh hC
  go_enter Tryz.func5, Tryz.ntmps5
  go_wp2_with (first | (go_at_call 22; refine (HV.out _).mono ?_; rintro e w' ⟨rfl, hxl⟩; obtain ⟨xl, rfl⟩ := hxl.asLater; clear hxl) | (go_at_call 23; refine (HF.out _ (by (with_reducible repeat first|exact eR _|apply eD|apply eN|apply eA|apply eO|apply eS|apply eC);all_goals first|omega|simp <;> omega)).mono ?_; rintro e w' ⟨rfl, hxl⟩; obtain ⟨xl, rfl⟩ := hxl.asLater; clear hxl) | (go_at_call 11; refine (HT.out _).mono ?_; rintro e w' ⟨rfl, hxl⟩; obtain ⟨xl, rfl⟩ := hxl.asLater; clear hxl) | (go_at_call 17; refine (HC.out _).mono ?_; rintro e w' ⟨rfl, hxl⟩; obtain ⟨xl, rfl⟩ := hxl.asLater; clear hxl) | (go_at_call 12; refine (HS.out _ (by (with_reducible repeat first|exact eR _|apply eD|apply eN|apply eA|apply eO|apply eS|apply eC);all_goals first|omega|simp <;> omega)).mono ?_; rintro e w' ⟨rfl, hxl⟩; obtain ⟨xl, rfl⟩ := hxl.asLater; clear hxl))
  go_ret
  exact ⟨rfl, (by (with_reducible repeat first|exact eR _|apply eD|apply eN|apply eA|apply eO|apply eS|apply eC);all_goals first|omega|simp <;> omega)⟩
 | true =>
 rw [hC] at HC
 have hasc := canon_ascii hC
 have hml := made_len k l
 have HM := lh (fun (W : World) (hx : Ext w W) => made_any k A c l W hk64 hki (by omega) ((hc.on hx).ch hsh) (RowAt.ext hr hx))
 unfold MadeOut at HM
 have htm := table_made (k := k) (ss := l) hC s.lo (bsT s.tags)
 have htn := table_nil hC s.lo (bsT s.tags)
 have HTs : Hid (∀ (L : List Ep) (cs : Array Value) (w1 W : World), TabAt w1 L (.agg cs) → Ext w1 W → Calls Tryz.prog 26 #[.agg cs, .agg (stmC s)] W fun e w' => e = .returned (.int .i64 (tableB L s.lo (bsT s.addr) (bsT s.tags))) ∧ Ext W w') := lh (fun L cs w1 W h hx => tstate_any L s cs W (h.on hx) (by omega) (by omega) hasc)
 have HTr : Hid (∀ (L : List Ep) (cs : Array Value) (w1 W : World), TabAt w1 L (.agg cs) → Ext w1 W → Calls Tryz.prog 27 #[.agg cs, .agg (dgC d)] W fun e w' => e = .returned (.bool (revokedB L d)) ∧ Ext W w') := lh (fun L cs w1 W h hx => trevoked_any L d cs W (h.on hx) (dk_of hd))
 have HSt : Hid (∀ (L : List Ep) (A : Option Addr) (c : Nat) (w1 W : World), L.length ≤ 100 → ChAt w1 A L → Ext w1 W → Calls Tryz.prog 30 #[.slice A L.length c, .agg (stmC s)] W fun e w' => e = .returned (.int .i64 (stateB L s.lo (bsT s.addr) (bsT s.tags))) ∧ Ext W w') := lh (fun L A c w1 W h100 h hx => rstate_any A c L s W h100 (h.on hx) (by omega) (by omega))
 have HRv : Hid (∀ (L : List Ep) (A : Option Addr) (c : Nat) (w1 W : World), L.length ≤ 100 → ChAt w1 A L → Ext w1 W → Calls Tryz.prog 31 #[.slice A L.length c, .agg (dgC d)] W fun e w' => e = .returned (.bool (revokedB L d)) ∧ Ext W w') := lh (fun L A c w1 W h100 h hx => rrevoked_any A c L d W h100 (h.on hx) hd)
 clear h1 h2 h3 hks hc hd hk hr hV hF hT hsh hC hasc
 generalize madeN k l = L at *
 have hL100 : L.length ≤ 100 := by omega
 go_enter Tryz.func5, Tryz.ntmps5
 go_upto_region 3 with (first | (go_at_call 22; refine (HV.out _).mono ?_; rintro e w' ⟨rfl, hxl⟩; obtain ⟨xl, rfl⟩ := hxl.asLater; clear hxl) | (go_at_call 23; refine (HF.out _ (by (with_reducible repeat first|exact eR _|apply eD|apply eN|apply eA|apply eO|apply eS|apply eC);all_goals first|omega|simp <;> omega)).mono ?_; rintro e w' ⟨rfl, hxl⟩; obtain ⟨xl, rfl⟩ := hxl.asLater; clear hxl) | (go_at_call 11; refine (HT.out _).mono ?_; rintro e w' ⟨rfl, hxl⟩; obtain ⟨xl, rfl⟩ := hxl.asLater; clear hxl) | (go_at_call 17; refine (HC.out _).mono ?_; rintro e w' ⟨rfl, hxl⟩; obtain ⟨xl, rfl⟩ := hxl.asLater; clear hxl))
 refine wp_world (fun W => Ext w W ∧ RowAt W w.heap.size (kyC k) ∧ RowAt W (w.heap.size + 1) (stmC s) ∧ RowAt W (w.heap.size + 1 + 1) (dgC d)) ⟨(by (with_reducible repeat first|exact eR _|apply eD|apply eN|apply eA|apply eO|apply eS|apply eC);all_goals first|omega|simp <;> omega), (((RowAt.new _ _ _).alloc _).alloc _).later _, (RowAt.alloc (RowAt.newAt (by simp)) _).later _, (RowAt.newAt (by simp)).later _⟩ ?_
 obtain ⟨B, hB⟩ : ∃ B, w.heap.size = B := ⟨_, rfl⟩
 rw [hB]
 rintro W1 ⟨x1, u0, u1, u2⟩
 have HX1 := lh x1
 have HU1 := lh u1
 have HU2 := lh u2
 have hl1 := u2.lt
 have k0 : rowOf W1 B 0 5 = some (kyC k) := u0.all rfl (by omega)
 clear x1 u0 u1 u2 HV HF HT HC
 go_wp2_with (go_at_call 24; refine (show Hid _ from ?_).out)
 refine lh ?_
 refine (HM.out W1 HX1.out).mono ?_
 rintro r w2 ⟨⟨A2, c2, rfl, _, hch⟩, hx2⟩
 have HCh := lh hch
 have HX2 := lh (HX1.out.trans hx2)
 have HU12 := lh (HU1.out.ext hx2)
 have HU22 := lh (HU2.out.ext hx2)
 have hs2 := hx2.size
 clear hch hx2 HX1 HU1 HU2 HM k0
 go_wp2_with (go_at_call 25; refine (show Hid _ from ?_).out)
 refine lh ?_
 refine (fold_any A2 c2 L w2 hL100 HCh.out).mono ?_
 rintro r w3 ⟨⟨cs, rfl, hT⟩, hx3⟩
 obtain ⟨mu, mr, hcs, _, _⟩ := tab_look hT
 have hcs2 : cs = tabC mu mr (lastNum L) := hcs
 clear hcs
 subst hcs2
 have htf := tab_fits mu mr (lastNum L)
 have HTab := lh hT
 have HCh3 := lh (HCh.out.on hx3)
 have HX3 := lh (HX2.out.trans hx3)
 have HU13 := lh (HU12.out.ext hx3)
 have HU23 := lh (HU22.out.ext hx3)
 have hs3 := hx3.size
 clear hT hx3 HX2 HU12 HU22 HCh
 go_upto_region 6 with (fail)
 refine wp_world (fun W => Ext w3 W ∧ RowAt W w3.heap.size (tabC mu mr (lastNum L)) ∧ RowAt W (w3.heap.size + 1) (tabC none none 0)) ⟨(by (with_reducible repeat first|exact eR _|apply eD|apply eN|apply eA|apply eO|apply eS|apply eC);all_goals first|omega|simp <;> omega), ?_, ?_⟩ ?_
 ·have z : RowAt (w3.alloc (.cells (tabC none none 0) 52)) w3.heap.size (tabC none none 0) := RowAt.new _ _ _
  have y := RowAt.store z (show (tabC mu mr (lastNum L)).size = (tabC none none 0).size from rfl)
  exact y.alloc _
 ·exact RowAt.newAt (by simp [setCells_size])
 obtain ⟨g, hg⟩ : ∃ g, w3.heap.size = g := ⟨_, rfl⟩
 rw [hg]
 rintro W4 ⟨x4, ut, ue⟩
 have HX4 := lh (HX3.out.trans x4)
 have HT4 := lh (HTab.out.on x4)
 have HTe := lh (TabAt.none W4)
 have HC4 := lh (HCh3.out.on x4)
 have hle := ue.lt
 have hs4 := x4.size
 have k1 : rowOf W4 (B + 1) 0 41 = some (stmC s) := (HU13.out.ext x4).all rfl (by omega)
 have k2 : rowOf W4 (B + 1 + 1) 0 16 = some (dgC d) := (HU23.out.ext x4).all rfl (by omega)
 have kt : rowOf W4 g 0 3 = some (tabC mu mr (lastNum L)) := ut.all rfl (by omega)
 have ke : rowOf W4 (g + 1) 0 3 = some (tabC none none 0) := ue.all rfl (by omega)
 have hte := tab_fits none none 0
 clear x4 ut ue HX3 HTab HCh3 HU13 HU23 hg
 have HA1 := lh (fun W (hx : Ext W4 W) => HTs.out L _ _ W HT4.out hx)
 have HA2 := lh (fun W (hx : Ext W4 W) => HTr.out L _ _ W HT4.out hx)
 have HB1 := lh (fun W (hx : Ext W4 W) => HSt.out L _ c2 _ W hL100 HC4.out hx)
 have HB2 := lh (fun W (hx : Ext W4 W) => HRv.out L _ c2 _ W hL100 HC4.out hx)
 have HE1 : Hid (∀ W, Ext W4 W → Calls Tryz.prog 26 #[.agg (tabC none none 0), .agg (stmC s)] W fun e w' => e = .returned (.int .i64 0) ∧ Ext W w') := lh (fun W hx => by
  have h := HTs.out [] (tabC none none 0) _ W HTe.out hx
  rwa [htn] at h)
 have HE2 : Hid (∀ W, Ext W4 W → Calls Tryz.prog 27 #[.agg (tabC none none 0), .agg (dgC d)] W fun e w' => e = .returned (.bool false) ∧ Ext W w') := lh (fun W hx => HTr.out [] (tabC none none 0) _ W HTe.out hx)
 have HLs := lh (fun (W : World) => last_any none none 0 W)
 rw [htm] at HA1
 clear htm htn HTs HTr HSt HRv HT4 HTe HC4
 generalize stateB L s.lo (bsT s.addr) (bsT s.tags) = V at *
 generalize revokedB L d = R at *
 generalize lastNum L = NM at *
 refine wp_region_later (by kernel_rfl) (by kernel_rfl) ?_
 repeat (first | go_big_quiet_step ((first | (go_at_call 12; exact quietE (HS.out _ (HX4.out.onto _))) | (go_at_call 26; first | with_reducible exact quietE (HA1.out _ (ext_later _ _)) | with_reducible exact quietE (HE1.out _ (ext_later _ _))) | (go_at_call 27; first | with_reducible exact quietE (HA2.out _ (ext_later _ _)) | with_reducible exact quietE (HE2.out _ (ext_later _ _))) | (go_at_call 30; exact quietE (HB1.out _ (ext_later _ _))) | (go_at_call 31; exact quietE (HB2.out _ (ext_later _ _))) | (go_at_call 28; exact quietE (HLs.out _)))) | quiet_step ((first | (go_at_call 12; exact quietE (HS.out _ (HX4.out.onto _))) | (go_at_call 26; first | with_reducible exact quietE (HA1.out _ (ext_later _ _)) | with_reducible exact quietE (HE1.out _ (ext_later _ _))) | (go_at_call 27; first | with_reducible exact quietE (HA2.out _ (ext_later _ _)) | with_reducible exact quietE (HE2.out _ (ext_later _ _))) | (go_at_call 30; exact quietE (HB1.out _ (ext_later _ _))) | (go_at_call 31; exact quietE (HB2.out _ (ext_later _ _))) | (go_at_call 28; exact quietE (HLs.out _)))))
 refine wpQuiet_nil ?_
 rintro _ ⟨xq, rfl⟩
 go_wp2
 go_ret
 exact ⟨rfl, (by (with_reducible repeat first|exact HX4.out|exact eR _|apply eD|apply eN|apply eA|apply eO|apply eS|apply eC);all_goals first|omega|simp <;> omega)⟩
end
end Go.Proofs.YtpojnhikgjcgmaaGreatDoor

namespace Go.Proofs.YtpojnhikgjcgmaaGreatDoor
open Go.ChangeShapes Go.WideShapes Go.ChangeAt Go.ChangeMaps Go.RowKit
open Go.Proofs
theorem laidEf {W : World} (h : laidMetH Tryz.prog Rows.epochFoldsAsSpecifiedRow.laid W) : Konst 0 W ∧ RKonst W := by
 rw [MakeChecks.laidMetH_plain _ _ _ (by kernel_rfl)] at h
 obtain ⟨ps, ⟨ga, ta, csa, fa, pa, qa, hga, hta, hva, hda, ⟨g0, t0, cs0, f0, p0, q0, hg0, ht0, hv0, hd0, ⟨g1, t1, cs1, f1, p1, q1, hg1, ht1, hv1, hd1, _, rfl⟩, rfl⟩, rfl⟩, _, hf⟩ := h
 obtain rfl := Option.some.inj ((show Tryz.prog.globalNamed "weirgate/weirgateref02.constants" = some 1 by kernel_rfl).symm.trans hg0)
 obtain rfl := Option.some.inj ((show Tryz.prog.globalNamed "weirgate/hash.constants" = some 0 by kernel_rfl).symm.trans hg1)
 obtain rfl := Option.some.inj ((show (Tryz.prog.globals[(1 : Nat)]?).map (·.type) = some 258 by kernel_rfl).symm.trans ht0)
 obtain rfl := Option.some.inj ((show (Tryz.prog.globals[(0 : Nat)]?).map (·.type) = some 258 by kernel_rfl).symm.trans ht1)
 rw [laidRK] at hd0
 rw [laidK] at hd1
 exact ⟨table_at hg1 hv1 hd1 (fun x hx => by simp [hx]) hf, table_at hg0 hv0 hd0 (fun x hx => by simp [hx]) hf⟩
theorem epochFoldsAsSpecified_lifted (os : Os) (started : os.Started) (H : Type) (enc : TypeId × Value → H) :
  ReturnsInHanded {} Tryz.checked os 5 .any (fun w args => (Rows.epochFoldsAsSpecifiedSpec.pre enc Tryz.prog Tryz.f5 Rows.epochFoldsAsSpecifiedRow.domain false w args ∧ laidMetH Tryz.prog Rows.epochFoldsAsSpecifiedRow.laid w) ∧ sizedMet enc Tryz.prog Tryz.f5 (OpenSpec.ofChange Rows.epochFoldsAsSpecifiedSpec) false w args)
   (Rows.epochFoldsAsSpecifiedSpec.post enc Tryz.prog Tryz.f5 false true false false) := by
 refine returnsInHanded_of_change_and (C := Tryz.checked) (X := fun w _ => laidMetH Tryz.prog Rows.epochFoldsAsSpecifiedRow.laid w) (fun _ _ _ hh h => h.of_heap hh) Tryz.own started (by kernel_rfl) Tryz.func5
  (ChangeSpec.witness_shaped (enc := enc) (C := Tryz.checked) (os := os) (X := fun w _ => laidMetH Tryz.prog Rows.epochFoldsAsSpecifiedRow.laid w) false (World.laidAll Tryz.prog os Rows.epochFoldsAsSpecifiedRow.laid) #[.agg (kyC noKy), .slice none 0 0, .agg (stmC noSt), .agg (dgC (zeros32 16))] 8 (World.laidAll_os _ _ _)
   (World.shaped_of_ZipB (by kernel_rfl) (by kernel_rfl)) (by kernel_rfl) (by kernel_rfl) (by kernel_rfl)
   (by rw [MakeChecks.laidMetH_plain _ _ _ (by kernel_rfl)]; exact laidMet_laidAll _ (by kernel_rfl) (by kernel_rfl))) ?_
 intro W base args ds gs before hval0 hW hcnd hSz hL _
 have hval : ∀ (j : Nat) t v, Tryz.f5.params[j]? = some t → args[j]? = some v → Value.okWide Tryz.prog W .any base t v := hval0
 have hW' := hW
 obtain ⟨p, q, hA0, hV, rfl, hfz, hnd⟩ := hW
 have hA : DataW.TrodAll enc Tryz.prog W 0 (fun _ => true) true Tryz.f5.params.toList args.toList ds p := hA0
 rw [Tryz.params5] at hA hval
 obtain ⟨rfl, rfl⟩ := trodVars_none hV
 clear hA0 hval0 hcnd
 obtain ⟨v0, vs0, d0, ds0, p0, q0, ea0, rfl, rfl, h0, hA⟩ := trodAll_cons hA
 obtain ⟨v1, vs1, d1, ds1, p1, q1, rfl, rfl, rfl, h1, hA⟩ := trodAll_cons hA
 obtain ⟨v2, vs2, d2, ds2, p2, q2, rfl, rfl, rfl, h2, hA⟩ := trodAll_cons hA
 obtain ⟨v3, vs3, d3, ds3, p3, q3, rfl, rfl, rfl, h3, hA⟩ := trodAll_cons hA
 obtain ⟨rfl, rfl, rfl⟩ := trodAll_nil hA
 obtain rfl : args = #[v0, v1, v2, v3] := by cases args; simp_all
 obtain ⟨hk, hrk⟩ := laidEf hL
 obtain ⟨k, rfl, hks⟩ := open_key (hval 0 44 v0 rfl rfl) h0
 obtain ⟨A, c, l, rfl, hl, hc⟩ := open_eps (hval 1 45 v1 rfl rfl) h1
 obtain ⟨s, rfl, _, _, hz1, hz2, hz3, _, _⟩ := open_stampO (hval 2 32 v2 rfl rfl) h2
 obtain ⟨d, rfl, hd1, hd2⟩ := open_digest (hval 3 23 v3 rfl rfl) h3
 have main := folds_ok k A c l s d W (by unfold maxLen at hks; omega) hl hc (by unfold maxLen at hz1; omega) (by unfold maxLen at hz2; omega) (by unfold maxLen at hz3; omega) ⟨hd1, hd2⟩ hk hrk
 refine main.mono fun e' W' ⟨he, hx⟩ => ?_
 subst he
 exact ⟨_, rfl, law_post Tryz.laidOut (by kernel_rfl) rfl hW' hx 4 (by kernel_rfl) Tryz.underlying4 rfl rfl rfl⟩
end Go.Proofs.YtpojnhikgjcgmaaGreatDoor