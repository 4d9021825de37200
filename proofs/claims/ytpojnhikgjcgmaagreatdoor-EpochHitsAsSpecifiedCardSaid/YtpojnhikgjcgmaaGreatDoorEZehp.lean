/- weirgatelaw31.EpochHitsAsSpecified, the lifted law: it returns true for every epoch and stamp, and leaves its arguments as they were; the listed tables hold what the program's text lays (the card ties them). No other condition. -/
import Derived.WalkKit
import Derived.WalkSpells
import Derived.WalkLawsBesides
import Derived.Deep.QuietTactic
import Derived.BigQuiet
import Derived.Test.YtpojnhikgjcgmaaGreatDoorEYi
import Derived.Test.YtpojnhikgjcgmaaGreatDoorTie
import Derived.Test.YtpojnhikgjcgmaaGreatDoorCards
import Derived.ProofKit
import Derived.Lay
import Derived.ChangeMaps5
import Derived.SevenTiedAt
import Derived.Stop.Joined
set_option maxRecDepth 100000
set_option maxHeartbeats 64000000
set_option linter.unusedVariables false
set_option linter.unusedSimpArgs false
namespace Go.Proofs.YtpojnhikgjcgmaaGreatDoor
open Go.RowKit Go.Shelf
open Go.Proofs
theorem hits_ok (e : Ep) (s : St) (w : World) (hok : EpOk e) (ha : EpAt w e) (h1 : s.addr.size ≤ 9223372036854775807) (h2 : s.var.size ≤ 9223372036854775807) (h3 : s.tags.size ≤ 9223372036854775807) (hk : KonstP w) (hr : RKonst w) :
  Calls Tryz.prog 3 #[.agg (epC e), .agg (stmC s)] w fun r w' => r = .returned (.bool true) ∧ Ext w w' := by
 have HS := lh (fun (W : World) (hx : Ext w W) => esanity_any W (RowAt.ext hk hx))
 have HE := lh (fun (W : World) (hx : Ext w W) => rshortEp_any e W (ha.on hx) hok.pul hok.rvl (fun p hp => (hok.pu p hp).2))
 have HT := lh (fun (W : World) => rshortSt_any s W h1 h2 h3)
 have hfe := ep_fits e
 have hfs := stm_fits s
 cases hE : shortEp e with
 | false =>
  rw [hE] at HE
  clear h1 h2 h3 hok ha hk hr hE HT
  go_enter Tryz.func3, Tryz.ntmps3
  go_wp2_with (first | (go_at_call 10; refine (HE.out _ (by (with_reducible repeat first|exact eR _|apply eD|apply eN|apply eA|apply eO|apply eS|apply eC);all_goals first|omega|simp <;> omega)).mono ?_; rintro e w' ⟨rfl, hxl⟩; obtain ⟨xl, rfl⟩ := hxl.asLater; clear hxl) | (go_at_call 12; refine (HS.out _ (by (with_reducible repeat first|exact eR _|apply eD|apply eN|apply eA|apply eO|apply eS|apply eC);all_goals first|omega|simp <;> omega)).mono ?_; rintro e w' ⟨rfl, hxl⟩; obtain ⟨xl, rfl⟩ := hxl.asLater; clear hxl))
  go_ret
  exact ⟨rfl, (by (with_reducible repeat first|exact eR _|apply eD|apply eN|apply eA|apply eO|apply eS|apply eC);all_goals first|omega|simp <;> omega)⟩
 | true =>
  rw [hE] at HE
  have hes := shortEp_is hE
  cases hT : shortSt s with
  | false =>
   rw [hT] at HT
   clear h1 h2 h3 hok ha hk hr hE hT hes
   go_enter Tryz.func3, Tryz.ntmps3
   go_wp2_with (first | (go_at_call 10; refine (HE.out _ (by (with_reducible repeat first|exact eR _|apply eD|apply eN|apply eA|apply eO|apply eS|apply eC);all_goals first|omega|simp <;> omega)).mono ?_; rintro e w' ⟨rfl, hxl⟩; obtain ⟨xl, rfl⟩ := hxl.asLater; clear hxl) | (go_at_call 11; refine (HT.out _).mono ?_; rintro e w' ⟨rfl, hxl⟩; obtain ⟨xl, rfl⟩ := hxl.asLater; clear hxl) | (go_at_call 12; refine (HS.out _ (by (with_reducible repeat first|exact eR _|apply eD|apply eN|apply eA|apply eO|apply eS|apply eC);all_goals first|omega|simp <;> omega)).mono ?_; rintro e w' ⟨rfl, hxl⟩; obtain ⟨xl, rfl⟩ := hxl.asLater; clear hxl))
   go_ret
   exact ⟨rfl, (by (with_reducible repeat first|exact eR _|apply eD|apply eN|apply eA|apply eO|apply eS|apply eC);all_goals first|omega|simp <;> omega)⟩
  | true =>
   rw [hT] at HT
   have hss := hT
   unfold shortSt at hss
   simp only [List.all_cons, List.all_nil, Bool.and_true, Bool.and_eq_true, short200, decide_eq_true_eq] at hss
   obtain ⟨ha1, _, ht1⟩ := hss
   have HV := lh (fun (W : World) (hx : Ext w W) => evalid_any e W (ha.on hx) (by have := hes.pu; omega) hok.rvl (fun p hp => by have := hes.what p hp; omega))
   have HVr := lh (fun (W : World) (hx : Ext w W) => revalid_any e W (ha.on hx) (by have := hes.pu; omega) hok.rvl (fun p hp => by have := hes.what p hp; omega))
   have HN := lh (fun (W : World) (hx : Ext w W) => ename_any e W hok hes (ha.on hx) (RowAt.ext hk hx))
   have HNr := lh (fun (W : World) (hx : Ext w W) => rename_any e W hok hes (ha.on hx) (RowAt.ext hr hx))
   have hdg : DgOk (epName e) := ⟨epName_len e, epName_byt e⟩
   have hneq : ∀ W, (binOp .neq 23 (.agg (dgC (epName e))) (.agg (dgC (epName e)))).run Tryz.prog W = .ok (.bool false) W := fun W => by rw [neq_dg2 hdg hdg]; simp
   have HC := lh (fun (W : World) => r31canon_any s.addr W (by omega))
   generalize epName e = D at *
   go_enter Tryz.func3, Tryz.ntmps3
   go_upto_region 3 with (first | (go_at_call 10; refine (HE.out _ (by (with_reducible repeat first|exact eR _|apply eD|apply eN|apply eA|apply eO|apply eS|apply eC);all_goals first|omega|simp <;> omega)).mono ?_; rintro e w' ⟨rfl, hxl⟩; obtain ⟨xl, rfl⟩ := hxl.asLater; clear hxl) | (go_at_call 11; refine (HT.out _).mono ?_; rintro e w' ⟨rfl, hxl⟩; obtain ⟨xl, rfl⟩ := hxl.asLater; clear hxl))
   refine wp_world (fun W => Ext w W ∧ RowAt W w.heap.size (epC e) ∧ RowAt W (w.heap.size + 1) (stmC s)) ⟨(by (with_reducible repeat first|exact eR _|apply eD|apply eN|apply eA|apply eO|apply eS|apply eC);all_goals first|omega|simp <;> omega), ((RowAt.new _ _ _).alloc _).later _, (RowAt.newAt (by simp)).later _⟩ ?_
   obtain ⟨B, hB⟩ : ∃ B, w.heap.size = B := ⟨_, rfl⟩
   rw [hB]
   rintro W1 ⟨x1, u0, u1⟩
   have HX1 := lh x1
   have HU0 := lh u0
   have HU1 := lh u1
   have hl1 := u1.lt
   have k0 : rowOf W1 B 0 38 = some (epC e) := u0.all rfl (by omega)
   have k1 : rowOf W1 (B + 1) 0 41 = some (stmC s) := u1.all rfl (by omega)
   have q0 : W1.cell? ⟨B + 1, 0, none⟩ = some (.string s.addr) := (u1.cell 0).trans (stm_g0 s)
   clear x1 u0 u1
   cases hV : okEp e with
   | false =>
    rw [hV] at HV HVr
    clear h1 h2 h3 hok ha hk hr hE hT hes ha1 ht1 HN HNr hneq hdg HC
    refine wp_region_later (by kernel_rfl) (by kernel_rfl) ?_
    repeat (first | go_big_quiet_step ((first | (go_at_call 13; exact quietE (HV.out _ (HX1.out.onto _))) | (go_at_call 14; exact quietE (HVr.out _ (HX1.out.onto _))))) | quiet_step ((first | (go_at_call 13; exact quietE (HV.out _ (HX1.out.onto _))) | (go_at_call 14; exact quietE (HVr.out _ (HX1.out.onto _))))))
    refine wpQuiet_nil ?_
    rintro _ ⟨xq, rfl⟩
    go_wp2_with (first | (go_at_call 14; refine (HVr.out _ (by (with_reducible repeat first|exact HX1.out|exact eR _|apply eD|apply eN|apply eA|apply eO|apply eS|apply eC);all_goals first|omega|simp <;> omega)).mono ?_; rintro e w' ⟨rfl, hxl⟩; obtain ⟨xl, rfl⟩ := hxl.asLater; clear hxl) | (go_at_call 12; refine (HS.out _ (by (with_reducible repeat first|exact HX1.out|exact eR _|apply eD|apply eN|apply eA|apply eO|apply eS|apply eC);all_goals first|omega|simp <;> omega)).mono ?_; rintro e w' ⟨rfl, hxl⟩; obtain ⟨xl, rfl⟩ := hxl.asLater; clear hxl))
    go_ret
    exact ⟨rfl, (by (with_reducible repeat first|exact HX1.out|exact eR _|apply eD|apply eN|apply eA|apply eO|apply eS|apply eC);all_goals first|omega|simp <;> omega)⟩
   | true =>
    rw [hV] at HV HVr
    cases hC : Ad.canonB (bsT s.addr) with
    | false =>
     rw [hC] at HC
     clear h1 h2 h3 hok ha hk hr hE hT hes ha1 ht1 hdg
     refine wp_region_later (by kernel_rfl) (by kernel_rfl) ?_
     repeat (first | go_big_quiet_step ((first | (go_at_call 13; exact quietE (HV.out _ (HX1.out.onto _))) | (go_at_call 14; exact quietE (HVr.out _ (HX1.out.onto _))) | (go_at_call 15; exact quietE (HN.out _ (HX1.out.onto _))) | (go_at_call 16; exact quietE (HNr.out _ (HX1.out.onto _))))) | quiet_step ((first | (go_at_call 13; exact quietE (HV.out _ (HX1.out.onto _))) | (go_at_call 14; exact quietE (HVr.out _ (HX1.out.onto _))) | (go_at_call 15; exact quietE (HN.out _ (HX1.out.onto _))) | (go_at_call 16; exact quietE (HNr.out _ (HX1.out.onto _))))))
     refine wpQuiet_nil ?_
     rintro _ ⟨xq, rfl⟩
     go_wp2_with (first | (go_at_call 14; refine (HVr.out _ (by (with_reducible repeat first|exact HX1.out|exact eR _|apply eD|apply eN|apply eA|apply eO|apply eS|apply eC);all_goals first|omega|simp <;> omega)).mono ?_; rintro e w' ⟨rfl, hxl⟩; obtain ⟨xl, rfl⟩ := hxl.asLater; clear hxl) | (go_at_call 17; refine (HC.out _).mono ?_; rintro e w' ⟨rfl, hxl⟩; obtain ⟨xl, rfl⟩ := hxl.asLater; clear hxl) | (go_at_call 12; refine (HS.out _ (by (with_reducible repeat first|exact HX1.out|exact eR _|apply eD|apply eN|apply eA|apply eO|apply eS|apply eC);all_goals first|omega|simp <;> omega)).mono ?_; rintro e w' ⟨rfl, hxl⟩; obtain ⟨xl, rfl⟩ := hxl.asLater; clear hxl))
     go_ret
     exact ⟨rfl, (by (with_reducible repeat first|exact HX1.out|exact eR _|apply eD|apply eN|apply eA|apply eO|apply eS|apply eC);all_goals first|omega|simp <;> omega)⟩
    | true =>
     rw [hC] at HC
     have hasc := canon_ascii hC
     refine wp_region_later (by kernel_rfl) (by kernel_rfl) ?_
     repeat (first | go_big_quiet_step ((first | (go_at_call 13; exact quietE (HV.out _ (HX1.out.onto _))) | (go_at_call 14; exact quietE (HVr.out _ (HX1.out.onto _))) | (go_at_call 15; exact quietE (HN.out _ (HX1.out.onto _))) | (go_at_call 16; exact quietE (HNr.out _ (HX1.out.onto _))))) | quiet_step ((first | (go_at_call 13; exact quietE (HV.out _ (HX1.out.onto _))) | (go_at_call 14; exact quietE (HVr.out _ (HX1.out.onto _))) | (go_at_call 15; exact quietE (HN.out _ (HX1.out.onto _))) | (go_at_call 16; exact quietE (HNr.out _ (HX1.out.onto _))))))
     refine wpQuiet_nil ?_
     rintro _ ⟨xq, rfl⟩
     have HA := lh ha.pu
     have HH := lh (fun (p : Pu) (hp : p.what.size ≤ 200) W => hits_any p s.addr s.tags W (by omega) (by omega) (by omega) hasc)
     have HHr := lh (fun (p : Pu) (hp : p.what.size ≤ 200) W => rhits_any p s.addr s.tags W (by omega) (by omega) (by omega))
     have HW := lh hes.what
     have HR := lh (fun (W : World) (hx : Ext w W) => removes_any e s W (ha.on hx) (by have := hes.pu; omega) (fun p hp => by have := hes.what p hp; omega) (by omega) (by omega) hasc)
     have HRr := lh (fun (W : World) (hx : Ext w W) => rremoves_any e s W (ha.on hx) (by have := hes.pu; omega) (fun p hp => by have := hes.what p hp; omega) (by omega) (by omega))
     have hpl := hes.pu
     have q19 : W1.cell? ⟨B, 19, none⟩ = some (.slice e.PA e.pu.length e.pc) := (HU0.out.cell 19).trans (ep_g19 e)
     clear h1 h2 h3 hok ha hk hr hE hT hes ha1 ht1 hdg hC hasc hV
     generalize removesB e s.lo (bsT s.addr) (bsT s.tags) = R at *
     generalize e.PA = PA at *
     go_wp2_with (first | (go_at_call 14; refine (HVr.out _ (by (with_reducible repeat first|exact HX1.out|exact eR _|apply eD|apply eN|apply eA|apply eO|apply eS|apply eC);all_goals first|omega|simp <;> omega)).mono ?_; rintro e w' ⟨rfl, hxl⟩; obtain ⟨xl, rfl⟩ := hxl.asLater; clear hxl) | (go_at_call 17; refine (HC.out _).mono ?_; rintro e w' ⟨rfl, hxl⟩; obtain ⟨xl, rfl⟩ := hxl.asLater; clear hxl))
     clear HN HNr hneq HV HVr HC HE HT k0 k1 q0 q19
     go_loopw [45] (fun i wr => ∃ k : Nat, i = .int .i64 k ∧ k ≤ e.pu.length ∧ Hid (Ext W1 wr)) (fun i _ => e.pu.length - (intOf i).toNat)
     case atStart => exact ⟨0, rfl, Nat.zero_le _, lh (by (with_reducible repeat first|exact eR _|apply eD|apply eN|apply eA|apply eO|apply eS|apply eC);all_goals first|omega|simp <;> omega)⟩
     case round =>
      obtain ⟨k, rfl, hk, HX⟩ := hrel
      have hsz := HX.out.size
      have u0 := HU0.out.ext HX.out
      have u1 := HU1.out.ext HX.out
      have k0 : rowOf wr B 0 38 = some (epC e) := u0.all rfl (by omega)
      have k1 : rowOf wr (B + 1) 0 41 = some (stmC s) := u1.all rfl (by omega)
      have q0 : wr.cell? ⟨B + 1, 0, none⟩ = some (.string s.addr) := (u1.cell 0).trans (stm_g0 s)
      have q20 : wr.cell? ⟨B + 1, 20, none⟩ = some (.string s.tags) := (u1.cell 20).trans (stm_g20 s)
      clear u0 u1
      by_cases hlt : k < e.pu.length
      ·obtain ⟨b, off, rfl, hb, hrow⟩ := reads_row puE (HA.out.ext (HX1.out.trans HX.out) (Nat.le_refl _)) k hlt
       have hfp := pu_fits e.pu[k]
       have HHk := lh (fun W => HH.out e.pu[k] (HW.out _ (List.getElem_mem hlt)) W)
       have HHrk := lh (fun W => HHr.out e.pu[k] (HW.out _ (List.getElem_mem hlt)) W)
       have kp : rowOf wr b (off + k * 3) 3 = some (puC e.pu[k]) := hrow
       generalize e.pu[k] = p at *
       generalize hitsB p (bsT s.addr) (bsT s.tags) = V at *
       clear hrow HA HW HH HHr
       go_upto_region 10 with (fail)
       refine wp_world (fun W => Ext W1 W ∧ RowAt W wr.heap.size (puC p) ∧ Ext wr W) ⟨(by (with_reducible repeat first|exact HX.out|exact eR _|apply eD|apply eN|apply eA|apply eO|apply eS|apply eC);all_goals first|omega|simp <;> omega), RowAt.store (RowAt.newAt rfl) rfl, Ext.setCells (Ext.alloc (eR _) _) (Nat.le_refl _) _ _⟩ ?_
       obtain ⟨g, hg⟩ : ∃ g, wr.heap.size = g := ⟨_, rfl⟩
       rw [hg]
       rintro W2 ⟨x2, up, xr⟩
       have HX2 := lh x2
       have hlg := up.lt
       have kq : rowOf W2 g 0 3 = some (puC p) := up.all rfl (by omega)
       have q0' : W2.cell? ⟨B + 1, 0, none⟩ = some (.string s.addr) := (xr.cell (p := ⟨B + 1, 0, none⟩) (by show B + 1 < _; omega)).trans q0
       have q20' : W2.cell? ⟨B + 1, 20, none⟩ = some (.string s.tags) := (xr.cell (p := ⟨B + 1, 20, none⟩) (by show B + 1 < _; omega)).trans q20
       clear x2 up xr q0 q20 k0 k1 kp HX
       refine wp_region_later (by kernel_rfl) (by kernel_rfl) ?_
       repeat (first | go_big_quiet_step ((first | (go_at_call 18; exact quietE (HHk.out _)) | (go_at_call 19; exact quietE (HHrk.out _)))) | quiet_step ((first | (go_at_call 18; exact quietE (HHk.out _)) | (go_at_call 19; exact quietE (HHrk.out _)))))
       refine wpQuiet_nil ?_
       rintro _ ⟨xq, rfl⟩
       go_wp2
       go_roundw
       case rel => exact ⟨k + 1, by go_num, by omega, lh (by (with_reducible repeat first|exact HX2.out|exact eR _|apply eD|apply eN|apply eA|apply eO|apply eS|apply eC);all_goals first|omega|simp <;> omega)⟩
       case measure => simp [intOf]; omega
      ·clear HH HHr HA HW
       go_upto_region 13 with (fail)
       refine wp_region_later (by kernel_rfl) (by kernel_rfl) ?_
       repeat (first | go_big_quiet_step ((first | (go_at_call 12; exact quietE (HS.out _ (HX1.out.trans (HX.out.onto _)))) | (go_at_call 20; exact quietE (HR.out _ (HX1.out.trans (HX.out.onto _)))) | (go_at_call 21; exact quietE (HRr.out _ (HX1.out.trans (HX.out.onto _)))))) | quiet_step ((first | (go_at_call 12; exact quietE (HS.out _ (HX1.out.trans (HX.out.onto _)))) | (go_at_call 20; exact quietE (HR.out _ (HX1.out.trans (HX.out.onto _)))) | (go_at_call 21; exact quietE (HRr.out _ (HX1.out.trans (HX.out.onto _)))))))
       refine wpQuiet_nil ?_
       rintro _ ⟨xq, rfl⟩
       go_wp2
       go_ret
       exact ⟨rfl, (by (with_reducible repeat first|exact HX1.out.trans HX.out|exact eR _|apply eD|apply eN|apply eA|apply eO|apply eS|apply eC);all_goals first|omega|simp <;> omega)⟩
end Go.Proofs.YtpojnhikgjcgmaaGreatDoor

namespace Go.Proofs.YtpojnhikgjcgmaaGreatDoor
open Go.ChangeShapes Go.WideShapes Go.ChangeAt Go.ChangeMaps Go.RowKit
open Go.Proofs
theorem laidEh {W : World} (h : laidMetH Tryz.prog Rows.epochHitsAsSpecifiedRow.laid W) : Konst 0 W ∧ RKonst W := by
 rw [MakeChecks.laidMetH_plain _ _ _ (by kernel_rfl)] at h
 obtain ⟨ps, ⟨ga, ta, csa, fa, pa, qa, hga, hta, hva, hda, ⟨g0, t0, cs0, f0, p0, q0, hg0, ht0, hv0, hd0, ⟨g1, t1, cs1, f1, p1, q1, hg1, ht1, hv1, hd1, _, rfl⟩, rfl⟩, rfl⟩, _, hf⟩ := h
 obtain rfl := Option.some.inj ((show Tryz.prog.globalNamed "weirgate/weirgateref02.constants" = some 1 by kernel_rfl).symm.trans hg0)
 obtain rfl := Option.some.inj ((show Tryz.prog.globalNamed "weirgate/hash.constants" = some 0 by kernel_rfl).symm.trans hg1)
 obtain rfl := Option.some.inj ((show (Tryz.prog.globals[(1 : Nat)]?).map (·.type) = some 258 by kernel_rfl).symm.trans ht0)
 obtain rfl := Option.some.inj ((show (Tryz.prog.globals[(0 : Nat)]?).map (·.type) = some 258 by kernel_rfl).symm.trans ht1)
 rw [laidRK] at hd0
 rw [laidK] at hd1
 exact ⟨table_at hg1 hv1 hd1 (fun x hx => by simp [hx]) hf, table_at hg0 hv0 hd0 (fun x hx => by simp [hx]) hf⟩
theorem epochHitsAsSpecified_lifted (os : Os) (started : os.Started) (H : Type) (enc : TypeId × Value → H) :
  ReturnsInHanded {} Tryz.checked os 3 .any (fun w args => (Rows.epochHitsAsSpecifiedSpec.pre enc Tryz.prog Tryz.f3 Rows.epochHitsAsSpecifiedRow.domain false w args ∧ laidMetH Tryz.prog Rows.epochHitsAsSpecifiedRow.laid w) ∧ sizedMet enc Tryz.prog Tryz.f3 (OpenSpec.ofChange Rows.epochHitsAsSpecifiedSpec) false w args)
   (Rows.epochHitsAsSpecifiedSpec.post enc Tryz.prog Tryz.f3 false true false false) := by
 refine returnsInHanded_of_change_and (C := Tryz.checked) (X := fun w _ => laidMetH Tryz.prog Rows.epochHitsAsSpecifiedRow.laid w) (fun _ _ _ hh h => h.of_heap hh) Tryz.own started (by kernel_rfl) Tryz.func3
  (ChangeSpec.witness_shaped (enc := enc) (C := Tryz.checked) (os := os) (X := fun w _ => laidMetH Tryz.prog Rows.epochHitsAsSpecifiedRow.laid w) false (World.laidAll Tryz.prog os Rows.epochHitsAsSpecifiedRow.laid) #[.agg (epC noEp), .agg (stmC noSt)] 8 (World.laidAll_os _ _ _)
   (World.shaped_of_ZipB (by kernel_rfl) (by kernel_rfl)) (by kernel_rfl) (by kernel_rfl) (by kernel_rfl)
   (by rw [MakeChecks.laidMetH_plain _ _ _ (by kernel_rfl)]; exact laidMet_laidAll _ (by kernel_rfl) (by kernel_rfl))) ?_
 intro W base args ds gs before hval0 hW hcnd hSz hL _
 have hval : ∀ (j : Nat) t v, Tryz.f3.params[j]? = some t → args[j]? = some v → Value.okWide Tryz.prog W .any base t v := hval0
 have hW' := hW
 obtain ⟨p, q, hA0, hV, rfl, hfz, hnd⟩ := hW
 have hA : DataW.TrodAll enc Tryz.prog W 0 (fun _ => true) true Tryz.f3.params.toList args.toList ds p := hA0
 rw [Tryz.params3] at hA hval
 obtain ⟨rfl, rfl⟩ := trodVars_none hV
 clear hA0 hval0 hcnd
 obtain ⟨v0, vs0, d0, ds0, p0, q0, ea0, rfl, rfl, h0, hA⟩ := trodAll_cons hA
 obtain ⟨v1, vs1, d1, ds1, p1, q1, rfl, rfl, rfl, h1, hA⟩ := trodAll_cons hA
 obtain ⟨rfl, rfl, rfl⟩ := trodAll_nil hA
 obtain rfl : args = #[v0, v1] := by cases args; simp_all
 obtain ⟨hk, hrk⟩ := laidEh hL
 obtain ⟨e, rfl, he⟩ := open_ep (hval 0 30 v0 rfl rfl) h0
 obtain ⟨s, rfl, _, _, hz1, hz2, hz3, _, _⟩ := open_stampO (hval 1 32 v1 rfl rfl) h1
 obtain ⟨hok, ha⟩ := ep_ok he
 have main := hits_ok e s W hok ha (by unfold maxLen at hz1; omega) (by unfold maxLen at hz2; omega) (by unfold maxLen at hz3; omega) hk hrk
 refine main.mono fun e' W' ⟨he, hx⟩ => ?_
 subst he
 exact ⟨_, rfl, law_post Tryz.laidOut (by kernel_rfl) rfl hW' hx 4 (by kernel_rfl) Tryz.underlying4 rfl rfl rfl⟩
end Go.Proofs.YtpojnhikgjcgmaaGreatDoor